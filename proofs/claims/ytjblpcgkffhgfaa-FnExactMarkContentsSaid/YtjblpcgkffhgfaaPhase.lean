/- Phases of requests and their new items, on the machine: the program's and the reference's. Conditions: those that each names. -/
import Derived.Test.YtjblpcgkffhgfaaReq
import Derived.Test.YtjblpcgkffhgfaaAm18
import Derived.Test.YtjblpcgkffhgfaaKitG
set_option linter.all false
set_option linter.unusedSimpArgs false
set_option linter.unusedVariables false
namespace Go.Proofs.Ytjblpcgkffhgfaa
open Go Go.RowKit Am

theorem l1Put_d (l:List Int) (n:Int) (hn:l.length≤1000):Does Try.prog 35 [.sl (.ints l),.int n] (.imm (.sl (.ints (putL l n)))):=by
  refine spec_imm Try.func35 rfl Try.ntmps35 cfOK (fun _ _=>by kernel_rfl) rfl (Nat.le_of_ble_eq_true rfl) ?_
  intro M0 w0
  rw [Try.results35]
  (refine awp_fits 0 rfl fun hf => ?_;simp only [xp,simprocAttr] at hf;simp only [xf,simprocAttr] at hf)
  refine amGo ?_
  refine awp_rounds (α:=Nat) (fun k=>[(5,true,.int k)]) [0,1] (fun _=>[]) (fun k=>k≤plc n l) (fun k=>plc n l-k) 0 (by ((try simp only [xk]);(repeat (refine leK_cons ?_ ?_;first | (exact amE) | rotate_left));(try exact leK_nil rfl);(all_goals (try (simp only [xr,simprocAttr];try refine int_eq1 ?_))))) (Nat.zero_le _) fun k hk => ?_
  have hpl:=plc_le n l
  simp only [xr,simprocAttr]
  refine amGo ?_
  refine awp_cond amQ (fun hc => ?_) (fun hc => ?_)
  · have hk':k<plc n l:=by
      rcases Nat.lt_or_ge k (plc n l) with h | h
      · exact h
      · exfalso
        obtain rfl:k=plc n l:=by omega
        by_cases h2:plc n l<l.length
        · have h3:=plc_ge h2
          rw [decide_eq_true (show ((plc n l:Nat):Int)<l.length by omega)] at hc
          have:=of_decide_eq_true hc
          omega
        · rw [decide_eq_false (show ¬ ((plc n l:Nat):Int)<l.length by omega)] at hc
          cases hc
    refine amGo ?_
    refine ⟨k+1,by omega,by omega,.inl ?_⟩
    ((try simp only [xk]);(repeat (refine leK_cons ?_ ?_;first | (exact amE) | rotate_left));(try exact leK_nil rfl);(all_goals (try (simp only [xr,simprocAttr];try refine int_eq1 ?_))))
  · have hk':k=plc n l:=by
      rcases Nat.lt_or_ge k (plc n l) with h | h
      · exfalso
        rw [decide_eq_true (show ((k:Nat):Int)<l.length by omega)] at hc
        have:=of_decide_eq_false hc
        have:=plc_lt h
        omega
      · omega
    subst hk'
    refine amGo ?_
    refine awp_cond amQ (fun hd => ?_) (fun hd => ?_)
    · have hd2:plc n l<l.length∧l.getD (plc n l) 0=n:=by
        by_cases h2:plc n l<l.length
        · rw [decide_eq_true (show ((plc n l:Nat):Int)<l.length by omega)] at hd
          exact ⟨h2,of_decide_eq_true hd⟩
        · rw [decide_eq_false (show ¬ ((plc n l:Nat):Int)<l.length by omega)] at hd
          cases hd
      refine amGo ?_
      (simp only [xe,simprocAttr];refine ⟨_,rfl,rfl,Imp.eq ?_⟩)
      rw [show putL l n=l from if_pos hd2]
    · have hd2:¬ (plc n l<l.length∧l.getD (plc n l) 0=n):=fun h=>by
        rw [decide_eq_true (show ((plc n l:Nat):Int)<l.length by omega),decide_eq_true h.2] at hd
        cases hd
      have hd3:((l.take (plc n l)).drop 0).length=plc n l:=by rw [List.length_drop,List.length_take];omega
      have hd4:((l.take l.length).drop (plc n l)).length=l.length-plc n l:=by rw [List.length_drop,List.length_take];omega
      have hd5:((l.take (plc n l)).drop 0++[n]).length=plc n l+1:=by rw [List.length_append,hd3];rfl
      (refine amB ?_;refine awp_anyG 4 [(0,[0]),(4,[1,0]),(7,[2,1]),(11,[3,2])] [0,1,2,3] [(0,[]),(4,[]),(7,[]),(11,[]),(12,[0,1,2])] ?_;refine amNG ?_)
      refine amGoR ?_
      (refine awp_frz 3 rfl ?_;simp only [xz,simprocAttr])
      refine amGo ?_
      (simp only [xe,simprocAttr];refine ⟨_,rfl,rfl,Imp.eq ?_⟩)
      rw [show putL l n=l.take (plc n l)++[n]++l.drop (plc n l) from if_neg hd2,List.take_length]
      rfl
theorem l11Open_d (xs before:List Int) (hn:xs.length≤1000):Does Try.prog 37 [.sl (.ints xs),.sl (.ints before)] (.imm (.sl (.ints (opn xs before)))):=by
  refine spec_imm Try.func37 rfl Try.ntmps37 cfOK (fun _ _=>by kernel_rfl) rfl (Nat.le_of_ble_eq_true rfl) ?_
  intro M0 w0
  rw [Try.results37]
  (refine awp_fits 0 rfl fun hf => ?_;simp only [xp,simprocAttr] at hf;simp only [xf,simprocAttr] at hf)
  refine amGo ?_
  refine awp_rounds (α:=Nat) (fun k=>[(6,true,.int k)]) [0,1,5] (fun k=>[.row 3 (.ints (opn (xs.take k) before))]) (fun k=>k≤xs.length) (fun k=>xs.length-k) 0 (by ((try simp only [xk]);(repeat (refine leK_cons ?_ ?_;first | (exact amE) | rotate_left));(refine leK_nil ?_;exact (by rfl));(all_goals (try (simp only [xr,simprocAttr];try refine int_eq1 ?_))))) (Nat.zero_le _) fun k hk => ?_
  have hl:(opn (xs.take k) before).length≤(xs.take k).length:=List.length_filter_le _ _
  rw [List.length_take] at hl
  simp only [xr,simprocAttr]
  refine amGo ?_
  refine awp_cond amQ (fun hc => ?_) (fun hc => ?_)
  · have hk':k<xs.length:=by have:=of_decide_eq_true hc;omega
    have e:opn (xs.take (k+1)) before=opn (xs.take k) before++(if before.contains (xs.getD k 0)=true then [] else [xs.getD k 0]):=by
      unfold opn
      rw [take_getD hk' 0,List.filter_append]
      congr 1
      simp only [List.filter_cons,List.filter_nil]
      cases before.contains (xs.getD k 0)<;>rfl
    refine amGo ?_
    ((try refine Or.inl ?_);refine ⟨_,(l1Has_d before (xs.getD k 0)),.inl rfl,?_⟩;refine amC ?_)
    refine amGo ?_
    refine awp_cond amQ (fun hd => ?_) (fun hd => ?_)
    · have hd2:before.contains (xs.getD k 0)=false:=by simpa using hd
      rw [hd2,if_neg (by decide)] at e
      refine amGo ?_
      refine ⟨k+1,by omega,by omega,.inl ?_⟩
      ((try simp only [xk]);(repeat (refine leK_cons ?_ ?_;first | (exact amE) | rotate_left));(refine leK_nil ?_;exact (by rw [e]));(all_goals (try (simp only [xr,simprocAttr];try refine int_eq1 ?_))))
    · have hd2:before.contains (xs.getD k 0)=true:=by simpa using hd
      rw [hd2,if_pos rfl,List.append_nil] at e
      refine amGo ?_
      refine ⟨k+1,by omega,by omega,.inl ?_⟩
      ((try simp only [xk]);(repeat (refine leK_cons ?_ ?_;first | (exact amE) | rotate_left));(refine leK_nil ?_;exact (by rw [e]));(all_goals (try (simp only [xr,simprocAttr];try refine int_eq1 ?_))))
  · have hk':k=xs.length:=by have:=of_decide_eq_false hc;omega
    subst hk'
    rw [List.take_length]
    refine amGoR ?_
    (refine awp_frz 0 rfl ?_;simp only [xz,simprocAttr])
    refine amGo ?_
    (simp only [xe,simprocAttr];refine ⟨_,rfl,rfl,Imp.eq ?_⟩)
    rfl
/-- the first places of the phases of the first k requests, as numbers -/
def phI (size:Int) (xs:List Int) (k:Nat):List Int:=(phL size xs k).map fun (i:Nat)=>(i:Int)
theorem phI_len (size:Int) (xs:List Int) (k:Nat):(phI size xs k).length=(phL size xs k).length:=by simp [phI]
theorem phI_next (size:Int) (xs:List Int) (k:Nat):phI size xs (k+1)=if phL size xs k=[]∨size<((rs (prt ((phL size xs k).getLastD 0) (k+1) xs)).length:Int) then phI size xs k++[(k:Int)] else phI size xs k:=by
  unfold phI
  rw [phL]
  split<;>simp
set_option maxHeartbeats 2000000 in
theorem l4Phases_h (size:Int) (xs:List Int) (hn:xs.length≤60):DoesH Try.prog 25 [.int size,.sl (.ints xs)] [] [] (.lf (.own 0)) [.row 3 (.ints (phI size xs xs.length))]:=by
  refine spec_hB Try.func25 rfl Try.ntmps25 cfOK (fun _ _=>by kernel_rfl) rfl rfl rfl ?_
  intro M0 w0 S φ0
  rw [Try.results25]
  refine amG1 ?_
  refine amG1 ?_
  refine amG1 ?_
  (refine awp_frz 1 rfl ?_;simp only [xz,simprocAttr])
  refine amGo ?_
  refine awp_rounds (α:=Nat) (fun k=>[(7,true,.int k),(6,true,.sl (.ints (itm size xs k)))]) [0,1,5] (fun k=>[.row 3 (.ints (phI size xs k)),.gone]) (fun k=>k≤xs.length) (fun k=>xs.length-k) 0 (by ((try simp only [xk]);(repeat (refine leK_cons ?_ ?_;first | (exact amE) | rotate_left));(refine leK_nil ?_;exact (by rfl));(all_goals (try (simp only [xr,simprocAttr];try refine int_eq1 ?_))));all_goals (try simp [itm,prt,rs_nil])) (Nat.zero_le _) fun k hk => ?_
  have hpl:=phI_len size xs k
  have hpn:=phL_len (size:=size) (xs:=xs) k
  have hil:=itm_len (size:=size) (xs:=xs) k
  have hnx:=phI_next size xs k
  simp only [xr,simprocAttr]
  refine amGo ?_
  refine awp_cond amQ (fun hc => ?_) (fun hc => ?_)
  · have hk':k<xs.length:=by have:=of_decide_eq_true hc;omega
    have hin:=itm_next (size:=size) hk'
    have hpt:=itm_put (size:=size) hk'
    have hpu:=putL_len (itm size xs k) (xs.getD k 0)
    have hcd:(phL size xs k=[]∨size<((rs (prt ((phL size xs k).getLastD 0) (k+1) xs)).length:Int))↔(k=0∨size<((putL (itm size xs k) (xs.getD k 0)).length:Int)):=by
      rw [← hpt]
      refine or_congr ⟨fun h => ?_,fun h=>by subst h;rfl⟩ Iff.rfl
      rcases Nat.eq_zero_or_pos k with h0 | h0
      · exact h0
      · exact absurd h (phL_pos h0)
    refine amGo ?_
    ((try refine Or.inl ?_);refine ⟨_,(l1Put_d (itm size xs k) (xs.getD k 0) (by omega)),amF,?_⟩;refine amC ?_)
    refine amGo ?_
    refine awp_cond amQ (fun hd => ?_) (fun hd => ?_)
    · have hd2:k=0∨size<((putL (itm size xs k) (xs.getD k 0)).length:Int):=by
        by_cases h0:k=0
        · exact .inl h0
        · rw [decide_eq_false (show ¬ ((k:Int)=0) by omega)] at hd
          exact .inr (of_decide_eq_true hd)
      rw [if_pos hd2] at hin
      rw [if_pos (hcd.2 hd2)] at hnx
      refine amGo ?_
      rw [← hin]
      refine ⟨k+1,by omega,by omega,.inl ?_⟩
      ((try simp only [xk]);(repeat (refine leK_cons ?_ ?_;first | (exact amE) | rotate_left));(refine leK_nil ?_;exact (by rw [hnx]));(all_goals (try (simp only [xr,simprocAttr];try refine int_eq1 ?_))))
    · have hd2:¬ (k=0∨size<((putL (itm size xs k) (xs.getD k 0)).length:Int)):=by
        by_cases h0:k=0
        · rw [decide_eq_true (show ((k:Int)=0) by omega)] at hd
          cases hd
        · rw [decide_eq_false (show ¬ ((k:Int)=0) by omega)] at hd
          exact fun h=>h.elim h0 (of_decide_eq_false hd)
      rw [if_neg hd2] at hin
      rw [if_neg fun h=>hd2 (hcd.1 h)] at hnx
      rw [← hin]
      refine amGo ?_
      refine ⟨k+1,by omega,by omega,.inl ?_⟩
      ((try simp only [xk]);(repeat (refine leK_cons ?_ ?_;first | (exact amE) | rotate_left));(refine leK_nil ?_;exact (by rw [hnx]));(all_goals (try (simp only [xr,simprocAttr];try refine int_eq1 ?_))))
  · have hk':k=xs.length:=by have:=of_decide_eq_false hc;omega
    subst hk'
    refine amGo ?_
    (simp only [ends_normal,ends_ret];refine retH_1 [0] rfl ⟨rfl,trivial⟩ rfl rfl rfl rfl rfl ?_;try rfl)
end Go.Proofs.Ytjblpcgkffhgfaa
