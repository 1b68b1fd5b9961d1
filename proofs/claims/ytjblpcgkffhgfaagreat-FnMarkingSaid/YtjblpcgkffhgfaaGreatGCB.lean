/- Phases of requests and their new items, on the machine: the program's and the reference's. Conditions: those that each names. -/
import Derived.Test.YtjblpcgkffhgfaaGreatGRQ
import Derived.Test.YtjblpcgkffhgfaaGreatAm18
import Derived.Test.YtjblpcgkffhgfaaGreatKitG
import Derived.Test.YtjblpcgkffhgfaaGreatGFM
set_option linter.all false
set_option linter.unusedSimpArgs false
set_option linter.unusedVariables false
namespace Go.Proofs.YtjblpcgkffhgfaaGreat
open Go Go.RowKit Am

theorem goneBy_h (l before:List Int) (hn:l.length≤1000):DoesH Tryz.prog 123 [.sl (.ints l),.sl (.ints before)] [] [] (.lf (.own 0)) [.row 3 (.ints (rs (opn l before)))]:=by
  have h1:(opn l before).length≤l.length:=List.length_filter_le _ _
  refine spec_hB Tryz.func123 rfl Tryz.ntmps123 cfOK (fun _ _=>by kernel_rfl) rfl rfl rfl ?_
  intro M0 w0 S φ0
  rw [Tryz.results123]
  refine amG1 ?_
  (refine awp_frzB 0 rfl rfl ?_;simp only [xzb,simprocAttr])
  refine amGo ?_
  (refine .inr (.inl (callW_b (cln_a l (by omega)) rfl rfl rfl rfl rfl rfl rfl ?_));refine amC ?_)
  refine amGo ?_
  (refine .inr (.inl (callW_a [1] (deleteFunc_h l _ [.ip [.sl (.ints before)] 0] (fun x=>before.contains x) (by omega) rfl (fun j hj=>goneBy1_d before _) (fun _ _=>by kernel_rfl)) rfl rfl rfl rfl ⟨rfl,trivial⟩ rfl rfl rfl rfl ?_));refine amC ?_)
  refine amGo ?_
  (refine .inr (.inl (callW_b (rising_h (opn l before) (by omega)) rfl rfl rfl rfl rfl rfl rfl ?_));refine amC ?_)
  refine amGo ?_
  (simp only [ends_normal,ends_ret];refine retH_1 [2] rfl ⟨rfl,trivial⟩ rfl rfl rfl rfl rfl ?_;try rfl)
theorem goneBy_d (l before:List Int) (hn:l.length≤1000):Does Tryz.prog 123 [.sl (.ints l),.sl (.ints before)] (.imm (.sl (.ints (rs (opn l before))))):=imm_of (goneBy_h l before hn)
theorem l1Put_d (l:List Int) (n:Int) (hn:l.length≤1000):Does Tryz.prog 94 [.sl (.ints l),.int n] (.imm (.sl (.ints (putL l n)))):=by
  refine spec_imm Tryz.func94 rfl Tryz.ntmps94 cfOK (fun _ _=>by kernel_rfl) rfl (Nat.le_of_ble_eq_true rfl) ?_
  intro M0 w0
  rw [Tryz.results94]
  (refine awp_fits 0 rfl fun hf => ?_;simp only [xp,simprocAttr] at hf;simp only [xf,simprocAttr] at hf)
  refine amGo ?_
  refine awp_rounds (α:=Nat) (fun k=>[(5,true,.int k)]) [0,1] (fun _=>[]) (fun k=>k≤plc n l) (fun k=>plc n l-k) 0 (by ((try simp only [xk]);(repeat (refine leK_cons ?_ ?_;first | (exact amE) | rotate_left));(try exact leK_nil rfl);(all_goals (try (simp only [xr,simprocAttr];try refine int_eq1 ?_))))) (Nat.zero_le _) fun k hk => ?_
  have hpl:=plc_le n l
  simp only [xr,simprocAttr]
  refine amGo ?_
  refine awp_cond amQ (fun hc => ?_) (fun hc => ?_)
  · have hk':k<plc n l:=by
      rcases Nat.lt_or_ge k (plc n l) with h | h
      · exact h
      · exfalso
        obtain rfl:k=plc n l:=by omega
        by_cases h2:plc n l<l.length
        · have h3:=plc_ge h2
          rw [decide_eq_true (show ((plc n l:Nat):Int)<l.length by omega)] at hc
          have:=of_decide_eq_true hc
          omega
        · rw [decide_eq_false (show ¬ ((plc n l:Nat):Int)<l.length by omega)] at hc
          cases hc
    refine amGo ?_
    refine ⟨k+1,by omega,by omega,.inl ?_⟩
    ((try simp only [xk]);(repeat (refine leK_cons ?_ ?_;first | (exact amE) | rotate_left));(try exact leK_nil rfl);(all_goals (try (simp only [xr,simprocAttr];try refine int_eq1 ?_))))
  · have hk':k=plc n l:=by
      rcases Nat.lt_or_ge k (plc n l) with h | h
      · exfalso
        rw [decide_eq_true (show ((k:Nat):Int)<l.length by omega)] at hc
        have:=of_decide_eq_false hc
        have:=plc_lt h
        omega
      · omega
    subst hk'
    refine amGo ?_
    refine awp_cond amQ (fun hd => ?_) (fun hd => ?_)
    · have hd2:plc n l<l.length∧l.getD (plc n l) 0=n:=by
        by_cases h2:plc n l<l.length
        · rw [decide_eq_true (show ((plc n l:Nat):Int)<l.length by omega)] at hd
          exact ⟨h2,of_decide_eq_true hd⟩
        · rw [decide_eq_false (show ¬ ((plc n l:Nat):Int)<l.length by omega)] at hd
          cases hd
      refine amGo ?_
      (simp only [xe,simprocAttr];refine ⟨_,rfl,rfl,Imp.eq ?_⟩)
      rw [show putL l n=l from if_pos hd2]
    · have hd2:¬ (plc n l<l.length∧l.getD (plc n l) 0=n):=fun h=>by
        rw [decide_eq_true (show ((plc n l:Nat):Int)<l.length by omega),decide_eq_true h.2] at hd
        cases hd
      have hd3:((l.take (plc n l)).drop 0).length=plc n l:=by rw [List.length_drop,List.length_take];omega
      have hd4:((l.take l.length).drop (plc n l)).length=l.length-plc n l:=by rw [List.length_drop,List.length_take];omega
      have hd5:((l.take (plc n l)).drop 0++[n]).length=plc n l+1:=by rw [List.length_append,hd3];rfl
      (refine amB ?_;refine awp_anyG 4 [(0,[0]),(4,[1,0]),(7,[2,1]),(11,[3,2])] [0,1,2,3] [(0,[]),(4,[]),(7,[]),(11,[]),(12,[0,1,2])] ?_;refine amNG ?_)
      refine amGoR ?_
      (refine awp_frz 3 rfl ?_;simp only [xz,simprocAttr])
      refine amGo ?_
      (simp only [xe,simprocAttr];refine ⟨_,rfl,rfl,Imp.eq ?_⟩)
      rw [show putL l n=l.take (plc n l)++[n]++l.drop (plc n l) from if_neg hd2,List.take_length]
      rfl
theorem l3Different_d (xs:List Int) (hn:xs.length≤1000):Does Tryz.prog 110 [.sl (.ints xs)] (.imm (.sl (.ints (rs xs)))):=by
  refine spec_imm Tryz.func110 rfl Tryz.ntmps110 cfOK (fun _ _=>by kernel_rfl) rfl (Nat.le_of_ble_eq_true rfl) ?_
  intro M0 w0
  rw [Tryz.results110]
  (refine awp_fits 0 rfl fun hf => ?_;simp only [xp,simprocAttr] at hf;simp only [xf,simprocAttr] at hf)
  refine amG1 ?_
  refine amG1 ?_
  (refine awp_frz 0 rfl ?_;simp only [xz,simprocAttr])
  refine amGo ?_
  refine awp_rounds (α:=Nat) (fun k=>[(4,true,.int k),(3,true,.sl (.ints (rs (xs.take k))))]) [0] (fun _=>[.gone]) (fun k=>k≤xs.length) (fun k=>xs.length-k) 0 (by ((try simp only [xk]);(repeat (refine leK_cons ?_ ?_;first | (exact amE) | rotate_left));(try exact leK_nil rfl);(all_goals (try (simp only [xr,simprocAttr];try refine int_eq1 ?_))));all_goals (try simp [rs_nil])) (Nat.zero_le _) fun k hk => ?_
  have hl:=rs_len (xs.take k)
  rw [List.length_take] at hl
  simp only [xr,simprocAttr]
  refine amGo ?_
  refine awp_cond amQ (fun hc => ?_) (fun hc => ?_)
  · have hk':k<xs.length:=by have:=of_decide_eq_true hc;omega
    have e:putL (rs (xs.take k)) (xs.getD k 0)=rs (xs.take (k+1)):=by rw [take_getD hk' 0,rs_snoc]
    refine amGo ?_
    ((try refine Or.inl ?_);refine ⟨_,(l1Put_d (rs (xs.take k)) (xs.getD k 0) (by omega)),amF,?_⟩;refine amC ?_)
    rw [e]
    refine amGo ?_
    refine ⟨k+1,by omega,by omega,.inl ?_⟩
    ((try simp only [xk]);(repeat (refine leK_cons ?_ ?_;first | (exact amE) | rotate_left));(try exact leK_nil rfl);(all_goals (try (simp only [xr,simprocAttr];try refine int_eq1 ?_))))
  · have hk':k=xs.length:=by have:=of_decide_eq_false hc;omega
    subst hk'
    rw [List.take_length]
    refine amGo ?_
    (simp only [xe,simprocAttr];refine ⟨_,rfl,rfl,Imp.eq ?_⟩)
    rfl
theorem l11Open_d (xs before:List Int) (hn:xs.length≤1000):Does Tryz.prog 124 [.sl (.ints xs),.sl (.ints before)] (.imm (.sl (.ints (opn xs before)))):=by
  refine spec_imm Tryz.func124 rfl Tryz.ntmps124 cfOK (fun _ _=>by kernel_rfl) rfl (Nat.le_of_ble_eq_true rfl) ?_
  intro M0 w0
  rw [Tryz.results124]
  (refine awp_fits 0 rfl fun hf => ?_;simp only [xp,simprocAttr] at hf;simp only [xf,simprocAttr] at hf)
  refine amGo ?_
  refine awp_rounds (α:=Nat) (fun k=>[(6,true,.int k)]) [0,1,5] (fun k=>[.row 3 (.ints (opn (xs.take k) before))]) (fun k=>k≤xs.length) (fun k=>xs.length-k) 0 (by ((try simp only [xk]);(repeat (refine leK_cons ?_ ?_;first | (exact amE) | rotate_left));(refine leK_nil ?_;exact (by rfl));(all_goals (try (simp only [xr,simprocAttr];try refine int_eq1 ?_))))) (Nat.zero_le _) fun k hk => ?_
  have hl:(opn (xs.take k) before).length≤(xs.take k).length:=List.length_filter_le _ _
  rw [List.length_take] at hl
  simp only [xr,simprocAttr]
  refine amGo ?_
  refine awp_cond amQ (fun hc => ?_) (fun hc => ?_)
  · have hk':k<xs.length:=by have:=of_decide_eq_true hc;omega
    have e:opn (xs.take (k+1)) before=opn (xs.take k) before++(if before.contains (xs.getD k 0)=true then [] else [xs.getD k 0]):=by
      unfold opn
      rw [take_getD hk' 0,List.filter_append]
      congr 1
      simp only [List.filter_cons,List.filter_nil]
      cases before.contains (xs.getD k 0)<;>rfl
    refine amGo ?_
    ((try refine Or.inl ?_);refine ⟨_,(l1Has_d before (xs.getD k 0)),.inl rfl,?_⟩;refine amC ?_)
    refine amGo ?_
    refine awp_cond amQ (fun hd => ?_) (fun hd => ?_)
    · have hd2:before.contains (xs.getD k 0)=false:=by simpa using hd
      rw [hd2,if_neg (by decide)] at e
      refine amGo ?_
      refine ⟨k+1,by omega,by omega,.inl ?_⟩
      ((try simp only [xk]);(repeat (refine leK_cons ?_ ?_;first | (exact amE) | rotate_left));(refine leK_nil ?_;exact (by rw [e]));(all_goals (try (simp only [xr,simprocAttr];try refine int_eq1 ?_))))
    · have hd2:before.contains (xs.getD k 0)=true:=by simpa using hd
      rw [hd2,if_pos rfl,List.append_nil] at e
      refine amGo ?_
      refine ⟨k+1,by omega,by omega,.inl ?_⟩
      ((try simp only [xk]);(repeat (refine leK_cons ?_ ?_;first | (exact amE) | rotate_left));(refine leK_nil ?_;exact (by rw [e]));(all_goals (try (simp only [xr,simprocAttr];try refine int_eq1 ?_))))
  · have hk':k=xs.length:=by have:=of_decide_eq_false hc;omega
    subst hk'
    rw [List.take_length]
    refine amGoR ?_
    (refine awp_frz 0 rfl ?_;simp only [xz,simprocAttr])
    refine amGo ?_
    (simp only [xe,simprocAttr];refine ⟨_,rfl,rfl,Imp.eq ?_⟩)
    rfl
/-- the first places of the phases of the first k requests, as numbers -/
def phI (size:Int) (xs:List Int) (k:Nat):List Int:=(phL size xs k).map fun (i:Nat)=>(i:Int)
theorem phI_len (size:Int) (xs:List Int) (k:Nat):(phI size xs k).length=(phL size xs k).length:=by simp [phI]
theorem phI_next (size:Int) (xs:List Int) (k:Nat):phI size xs (k+1)=if phL size xs k=[]∨size<((rs (prt ((phL size xs k).getLastD 0) (k+1) xs)).length:Int) then phI size xs k++[(k:Int)] else phI size xs k:=by
  unfold phI
  rw [phL]
  split<;>simp
theorem phI_last {size:Int} {xs:List Int} {k:Nat} (h:phL size xs k≠[]):(phI size xs k).getD ((phL size xs k).length-1) 0=(((phL size xs k).getLastD 0:Nat):Int):=by
  have h1:0<(phL size xs k).length:=List.length_pos_iff.2 h
  unfold phI
  rw [getD_inL (by rw [List.length_map];omega),List.getElem_map,List.getLastD_eq_getLast?,List.getLast?_eq_getElem?,List.getElem?_eq_getElem (by omega)]
  rfl
set_option maxHeartbeats 2000000 in
theorem phasesOf_d (size:Int) (xs:List Int) (hn:xs.length≤60):Does Tryz.prog 75 [.int size,.sl (.ints xs)] (.imm (.sl (.ints (phI size xs xs.length)))):=by
  refine spec_imm Tryz.func75 rfl Tryz.ntmps75 cfOK (fun _ _=>by kernel_rfl) rfl (Nat.le_of_ble_eq_true rfl) ?_
  intro M0 w0
  rw [Tryz.results75]
  refine amGo ?_
  refine awp_rounds (α:=Nat) (fun k=>[(10,true,.int k)]) [0,1,5,9] (fun k=>[.row 3 (.ints (phI size xs k))]) (fun k=>k≤xs.length) (fun k=>xs.length-k) 0 (by ((try simp only [xk]);(repeat (refine leK_cons ?_ ?_;first | (exact amE) | rotate_left));(refine leK_nil ?_;exact (by rfl));(all_goals (try (simp only [xr,simprocAttr];try refine int_eq1 ?_))))) (Nat.zero_le _) fun k hk => ?_
  have hpl:=phI_len size xs k
  have hpn:=phL_len (size:=size) (xs:=xs) k
  have hps:=phL_pos (size:=size) (xs:=xs) (i:=k)
  have hla:(phL size xs k).getLastD 0≤k:=getLastD_le fun x hx=>Nat.le_of_lt (phL_mem k x hx)
  have hnx:=phI_next size xs k
  simp only [xr,simprocAttr]
  refine amGo ?_
  refine awp_cond amQ (fun hc => ?_) (fun hc => ?_)
  · have hk':k<xs.length:=by have:=of_decide_eq_true hc;omega
    rcases Nat.eq_zero_or_pos k with h0 | h0
    · subst h0
      rw [if_pos (.inl rfl)] at hnx
      have e0:phI size xs 0=[]:=rfl
      rw [e0] at hnx ⊢
      refine amGo ?_
      refine Or.inl ⟨.sl (.ints []),.inr ⟨rfl,rfl⟩,?_⟩
      simp only [xr,simprocAttr]
      refine amS ?_
      refine amGo ?_
      refine awp_cond amQ (fun hd => ?_) (fun hd => ?_)
      · refine amGo ?_
        refine ⟨1,by omega,by omega,.inl ?_⟩
        ((try simp only [xk]);(repeat (refine leK_cons ?_ ?_;first | (exact amE) | rotate_left));(refine leK_nil ?_;exact (by rw [hnx];rfl));(all_goals (try (simp only [xr,simprocAttr];try refine int_eq1 ?_))))
      · cases hd
    · have hne:=hps h0
      have hlp:0<(phL size xs k).length:=List.length_pos_iff.2 hne
      have hlt:=phI_last hne
      have e1:((phI size xs k).length:Int)-1=(((phL size xs k).length-1:Nat):Int):=by omega
      have e2:(phI size xs k).length≠0:=by omega
      refine amGo ?_
      rw [e1,Int.toNat_natCast,hlt]
      refine ⟨fun _=>⟨by decide,by omega,by omega,by omega⟩,?_⟩
      rw [Int.toNat_natCast,show ((k:Int)+1).toNat=k+1 by omega]
      have hpr:(prt ((phL size xs k).getLastD 0) (k+1) xs).length≤60:=by
        unfold prt
        rw [List.length_drop,List.length_take]
        omega
      ((try refine Or.inl ?_);refine ⟨_,(fun _=>rising_d (prt ((phL size xs k).getLastD 0) (k+1) xs) (by omega)),amF,?_⟩;refine amC ?_)
      refine amGo ?_
      rw [decide_eq_false (show ¬ ((phI size xs k).length:Int)=0 by omega)]
      refine awp_cond amQ (fun hd => ?_) (fun hd => ?_)
      · have hd2:size<((rs (prt ((phL size xs k).getLastD 0) (k+1) xs)).length:Int):=of_decide_eq_true hd
        rw [if_pos (.inr hd2)] at hnx
        refine amGo ?_
        refine ⟨k+1,by omega,by omega,.inl ?_⟩
        ((try simp only [xk]);(repeat (refine leK_cons ?_ ?_;first | (exact amE) | rotate_left));(refine leK_nil ?_;exact (by rw [hnx]));(all_goals (try (simp only [xr,simprocAttr];try refine int_eq1 ?_))))
      · have hd2:¬ size<((rs (prt ((phL size xs k).getLastD 0) (k+1) xs)).length:Int):=of_decide_eq_false hd
        rw [if_neg (fun h=>h.elim hne hd2)] at hnx
        refine amGo ?_
        refine ⟨k+1,by omega,by omega,.inl ?_⟩
        ((try simp only [xk]);(repeat (refine leK_cons ?_ ?_;first | (exact amE) | rotate_left));(refine leK_nil ?_;exact (by rw [hnx]));(all_goals (try (simp only [xr,simprocAttr];try refine int_eq1 ?_))))
  · have hk':k=xs.length:=by have:=of_decide_eq_false hc;omega
    subst hk'
    refine amGoR ?_
    (refine awp_frz 0 rfl ?_;simp only [xz,simprocAttr])
    refine amGo ?_
    (simp only [xe,simprocAttr];refine ⟨_,rfl,rfl,Imp.eq ?_⟩)
    rfl
set_option maxHeartbeats 2000000 in
theorem l4Phases_h (size:Int) (xs:List Int) (hn:xs.length≤60):DoesH Tryz.prog 120 [.int size,.sl (.ints xs)] [] [] (.lf (.own 0)) [.row 3 (.ints (phI size xs xs.length))]:=by
  refine spec_hB Tryz.func120 rfl Tryz.ntmps120 cfOK (fun _ _=>by kernel_rfl) rfl rfl rfl ?_
  intro M0 w0 S φ0
  rw [Tryz.results120]
  refine amG1 ?_
  refine amG1 ?_
  refine amG1 ?_
  (refine awp_frz 1 rfl ?_;simp only [xz,simprocAttr])
  refine amGo ?_
  refine awp_rounds (α:=Nat) (fun k=>[(7,true,.int k),(6,true,.sl (.ints (itm size xs k)))]) [0,1,5] (fun k=>[.row 3 (.ints (phI size xs k)),.gone]) (fun k=>k≤xs.length) (fun k=>xs.length-k) 0 (by ((try simp only [xk]);(repeat (refine leK_cons ?_ ?_;first | (exact amE) | rotate_left));(refine leK_nil ?_;exact (by rfl));(all_goals (try (simp only [xr,simprocAttr];try refine int_eq1 ?_))));all_goals (try simp [itm,prt,rs_nil])) (Nat.zero_le _) fun k hk => ?_
  have hpl:=phI_len size xs k
  have hpn:=phL_len (size:=size) (xs:=xs) k
  have hil:=itm_len (size:=size) (xs:=xs) k
  have hnx:=phI_next size xs k
  simp only [xr,simprocAttr]
  refine amGo ?_
  refine awp_cond amQ (fun hc => ?_) (fun hc => ?_)
  · have hk':k<xs.length:=by have:=of_decide_eq_true hc;omega
    have hin:=itm_next (size:=size) hk'
    have hpt:=itm_put (size:=size) hk'
    have hpu:=putL_len (itm size xs k) (xs.getD k 0)
    have hcd:(phL size xs k=[]∨size<((rs (prt ((phL size xs k).getLastD 0) (k+1) xs)).length:Int))↔(k=0∨size<((putL (itm size xs k) (xs.getD k 0)).length:Int)):=by
      rw [← hpt]
      refine or_congr ⟨fun h => ?_,fun h=>by subst h;rfl⟩ Iff.rfl
      rcases Nat.eq_zero_or_pos k with h0 | h0
      · exact h0
      · exact absurd h (phL_pos h0)
    refine amGo ?_
    ((try refine Or.inl ?_);refine ⟨_,(l1Put_d (itm size xs k) (xs.getD k 0) (by omega)),amF,?_⟩;refine amC ?_)
    refine amGo ?_
    refine awp_cond amQ (fun hd => ?_) (fun hd => ?_)
    · have hd2:k=0∨size<((putL (itm size xs k) (xs.getD k 0)).length:Int):=by
        by_cases h0:k=0
        · exact .inl h0
        · rw [decide_eq_false (show ¬ ((k:Int)=0) by omega)] at hd
          exact .inr (of_decide_eq_true hd)
      rw [if_pos hd2] at hin
      rw [if_pos (hcd.2 hd2)] at hnx
      refine amGo ?_
      rw [← hin]
      refine ⟨k+1,by omega,by omega,.inl ?_⟩
      ((try simp only [xk]);(repeat (refine leK_cons ?_ ?_;first | (exact amE) | rotate_left));(refine leK_nil ?_;exact (by rw [hnx]));(all_goals (try (simp only [xr,simprocAttr];try refine int_eq1 ?_))))
    · have hd2:¬ (k=0∨size<((putL (itm size xs k) (xs.getD k 0)).length:Int)):=by
        by_cases h0:k=0
        · rw [decide_eq_true (show ((k:Int)=0) by omega)] at hd
          cases hd
        · rw [decide_eq_false (show ¬ ((k:Int)=0) by omega)] at hd
          exact fun h=>h.elim h0 (of_decide_eq_false hd)
      rw [if_neg hd2] at hin
      rw [if_neg fun h=>hd2 (hcd.1 h)] at hnx
      rw [← hin]
      refine amGo ?_
      refine ⟨k+1,by omega,by omega,.inl ?_⟩
      ((try simp only [xk]);(repeat (refine leK_cons ?_ ?_;first | (exact amE) | rotate_left));(refine leK_nil ?_;exact (by rw [hnx]));(all_goals (try (simp only [xr,simprocAttr];try refine int_eq1 ?_))))
  · have hk':k=xs.length:=by have:=of_decide_eq_false hc;omega
    subst hk'
    refine amGo ?_
    (simp only [ends_normal,ends_ret];refine retH_1 [0] rfl ⟨rfl,trivial⟩ rfl rfl rfl rfl rfl ?_;try rfl)
end Go.Proofs.YtjblpcgkffhgfaaGreat
/- CleanCounts of the program and of the reference, on the machine. Conditions: those that each names. -/
set_option linter.all false
set_option linter.unusedSimpArgs false
set_option linter.unusedVariables false
namespace Go.Proofs.YtjblpcgkffhgfaaGreat
open Go Go.RowKit Am

/-- where the i-th phase begins; all requests end it at last -/
def phB (size:Int) (xs:List Int) (i:Nat):Nat:=(phL size xs xs.length++[xs.length]).getD i 0
def ownP (size:Int) (xs:List Int) (i:Nat):List Int:=rs (prt (phB size xs i) (phB size xs (i+1)) xs)
def prvP (size:Int) (xs:List Int):Nat→List Int
  | 0=>[]
  | i+1=>ownP size xs i
def cntP (size:Int) (xs:List Int) (i:Nat):Int:=((opn (ownP size xs i) (prvP size xs i)).length:Int)
def clnK (size:Int) (xs:List Int) (k:Nat):List Int:=(List.range k).map (cntP size xs)
def clnV (size:Int) (xs:List Int):List Int:=clnK size xs (phL size xs xs.length).length
theorem clnK_len (size:Int) (xs:List Int) (k:Nat):(clnK size xs k).length=k:=by simp [clnK]
theorem clnK_next (size:Int) (xs:List Int) (k:Nat):clnK size xs (k+1)=clnK size xs k++[cntP size xs k]:=by simp [clnK,List.range_succ]
theorem phB_in {size:Int} {xs:List Int} {i:Nat} (h:i<(phL size xs xs.length).length):phB size xs i=(phL size xs xs.length).getD i 0:=by
  unfold phB
  rw [List.getD_eq_getElem?_getD,List.getElem?_append_left h,← List.getD_eq_getElem?_getD]
theorem phB_end {size:Int} {xs:List Int}:phB size xs (phL size xs xs.length).length=xs.length:=by
  unfold phB
  rw [List.getD_eq_getElem?_getD,List.getElem?_append_right (Nat.le_refl _),Nat.sub_self]
  rfl
theorem phB_lt {size:Int} {xs:List Int} {i:Nat} (h:i<(phL size xs xs.length).length):phB size xs i<phB size xs (i+1)∧phB size xs (i+1)≤xs.length:=by
  have h1:∀ j (hj:j<(phL size xs xs.length).length),(phL size xs xs.length).getD j 0<xs.length:=fun j hj=>by
    rw [getD_inL hj]
    exact phL_mem xs.length _ (List.getElem_mem hj)
  rw [phB_in h]
  rcases Nat.lt_or_ge (i+1) (phL size xs xs.length).length with h2 | h2
  · rw [phB_in h2]
    have h3:=List.pairwise_iff_getElem.1 (phL_lt (size:=size) (xs:=xs) xs.length) i (i+1) h h2 (by omega)
    rw [getD_inL h,getD_inL h2]
    refine ⟨h3,?_⟩
    have:=h1 (i+1) h2
    rw [getD_inL h2] at this
    omega
  · have e0:i+1=(phL size xs xs.length).length:=by omega
    have e:phB size xs (i+1)=xs.length:=by rw [e0];exact phB_end
    rw [e]
    exact ⟨h1 i h,Nat.le_refl _⟩
theorem phI_at {size:Int} {xs:List Int} {i:Nat} (h:i<(phL size xs xs.length).length):(phI size xs xs.length).getD i 0=((phB size xs i:Nat):Int):=by
  rw [phB_in h]
  unfold phI
  rw [getD_inL (by rw [List.length_map];exact h),List.getElem_map,getD_inL h]
theorem phI_end {size:Int} {xs:List Int} {i:Nat} (h:i≤(phL size xs xs.length).length):(phI size xs xs.length++[(xs.length:Int)]).getD i 0=((phB size xs i:Nat):Int):=by
  have e:phI size xs xs.length++[(xs.length:Int)]=(phL size xs xs.length++[xs.length]).map fun (i:Nat)=>(i:Int):=by simp [phI]
  have hl:i<(phL size xs xs.length++[xs.length]).length:=by simp;omega
  unfold phB
  rw [e,getD_inL (by rw [List.length_map];exact hl),List.getElem_map,getD_inL hl]
theorem ownP_len (size:Int) (xs:List Int) (i:Nat):(ownP size xs i).length≤xs.length:=by
  refine Nat.le_trans (rs_len _) ?_
  unfold prt
  rw [List.length_drop,List.length_take]
  omega
theorem cntP_bd (size:Int) (xs:List Int) (i:Nat):(opn (ownP size xs i) (prvP size xs i)).length≤xs.length:=Nat.le_trans (List.length_filter_le _ _) (ownP_len size xs i)
theorem opn_own (size:Int) (xs:List Int) (i:Nat) (before:List Int):rs (opn (ownP size xs i) before)=opn (ownP size xs i) before:=opn_rs (rs_lt _) before
set_option maxHeartbeats 2000000 in
theorem cleanCounts_h (size:Int) (xs:List Int) (hn:xs.length≤60):DoesH Tryz.prog 68 [.int size,.sl (.ints xs)] [] [] (.lf (.own 0)) [.row 3 (.ints (clnV size xs))]:=by
  have hpl:=phI_len size xs xs.length
  have hpn:=phL_len (size:=size) (xs:=xs) xs.length
  refine spec_hB Tryz.func68 rfl Tryz.ntmps68 cfOK (fun _ _=>by kernel_rfl) rfl rfl rfl ?_
  intro M0 w0 S φ0
  rw [Tryz.results68]
  refine amGo ?_
  ((try refine Or.inl ?_);refine ⟨_,(phasesOf_d size xs hn),amF,?_⟩;refine amC ?_)
  refine amG1 ?_
  (refine awp_nilT 6 (.ints []) rfl rfl (by first | trivial | (intro _ h;cases h)) ?_;simp only [xr,simprocAttr])
  refine amGo ?_
  refine awp_rounds (α:=Nat) (fun k=>[(18,true,.int k),(6,true,.sl (.ints (prvP size xs k)))]) [0,1,5,7,16,17] (fun k=>[.row 3 (.ints (clnK size xs k))]) (fun k=>k≤(phL size xs xs.length).length) (fun k=>(phL size xs xs.length).length-k) 0 (by ((try simp only [xk]);(repeat (refine leK_cons ?_ ?_;first | (exact amE) | rotate_left));(refine leK_nil ?_;exact (by rfl));(all_goals (try (simp only [xr,simprocAttr];try refine int_eq1 ?_))))) (Nat.zero_le _) fun k hk => ?_
  have hcl:=clnK_len size xs k
  simp only [xr,simprocAttr]
  refine amGo ?_
  refine awp_cond amQ (fun hc => ?_) (fun hc => ?_)
  · have hk':k<(phL size xs xs.length).length:=by have:=of_decide_eq_true hc;omega
    have hat:=phI_at hk'
    have hlt:=phB_lt hk'
    have hnx:=clnK_next size xs k
    have hol:=ownP_len size xs k
    have hcb:=cntP_bd size xs k
    have hpr:(prt (phB size xs k) (phB size xs (k+1)) xs).length≤60:=by
      unfold prt
      rw [List.length_drop,List.length_take]
      omega
    refine amGo ?_
    rw [hat]
    refine awp_cond amQ (fun hd => ?_) (fun hd => ?_)
    · have hd2:k+1<(phL size xs xs.length).length:=by have:=of_decide_eq_true hd;omega
      have e3:((k:Int)+1).toNat=k+1:=by omega
      refine amGo ?_
      rw [e3,phI_at hd2]
      refine amS ?_
      try simp only [Int.toNat_natCast]
      ((try refine Or.inl ?_);refine ⟨_,(rising_d (prt (phB size xs k) (phB size xs (k+1)) xs) (by omega)),amF,?_⟩;refine amC ?_)
      refine amGo ?_
      ((try refine Or.inl ?_);refine ⟨_,(goneBy_d (ownP size xs k) (prvP size xs k) (by omega)),amF,?_⟩;refine amC ?_)
      rw [opn_own]
      refine amGo ?_
      refine ⟨k+1,by omega,by omega,.inl ?_⟩
      ((try simp only [xk]);(repeat (refine leK_cons ?_ ?_;first | (exact amE) | rotate_left));(refine leK_nil ?_;exact (by rw [hnx];rfl));(all_goals (try (simp only [xr,simprocAttr];try refine int_eq1 ?_))))
    · have hd2:k+1=(phL size xs xs.length).length:=by have:=of_decide_eq_false hd;omega
      have e3:(xs.length:Int)=((phB size xs (k+1):Nat):Int):=by rw [hd2,phB_end]
      rw [e3]
      refine amGo ?_
      try simp only [Int.toNat_natCast]
      ((try refine Or.inl ?_);refine ⟨_,(rising_d (prt (phB size xs k) (phB size xs (k+1)) xs) (by omega)),amF,?_⟩;refine amC ?_)
      refine amGo ?_
      ((try refine Or.inl ?_);refine ⟨_,(goneBy_d (ownP size xs k) (prvP size xs k) (by omega)),amF,?_⟩;refine amC ?_)
      rw [opn_own]
      refine amGo ?_
      refine ⟨k+1,by omega,by omega,.inl ?_⟩
      ((try simp only [xk]);(repeat (refine leK_cons ?_ ?_;first | (exact amE) | rotate_left));(refine leK_nil ?_;exact (by rw [hnx];rfl));(all_goals (try (simp only [xr,simprocAttr];try refine int_eq1 ?_))))
  · have hk':k=(phL size xs xs.length).length:=by have:=of_decide_eq_false hc;omega
    subst hk'
    refine amGo ?_
    (simp only [ends_normal,ends_ret];refine retH_1 [0] rfl ⟨rfl,trivial⟩ rfl rfl rfl rfl rfl ?_;try rfl)
set_option maxHeartbeats 2000000 in
theorem l11Clean_d (size:Int) (xs:List Int) (hn:xs.length≤60):Does Tryz.prog 69 [.int size,.sl (.ints xs)] (.imm (.sl (.ints (clnV size xs)))):=by
  have hpl:=phI_len size xs xs.length
  have hpn:=phL_len (size:=size) (xs:=xs) xs.length
  have hpe:(phI size xs xs.length++[(xs.length:Int)]).length=(phL size xs xs.length).length+1:=by simp [phI]
  refine spec_imm Tryz.func69 rfl Tryz.ntmps69 cfOK (fun _ _=>by kernel_rfl) rfl (Nat.le_of_ble_eq_true rfl) ?_
  intro M0 w0
  rw [Tryz.results69]
  refine amGo ?_
  (refine .inr (.inl (callW_b (l4Phases_h size xs hn) rfl rfl rfl rfl rfl rfl rfl ?_));refine amC ?_)
  refine amG1 ?_
  refine amG1 ?_
  (refine awp_frz 2 rfl ?_;simp only [xz,simprocAttr])
  refine amGo ?_
  refine awp_rounds (α:=Nat) (fun k=>[(8,true,.int k),(7,true,.sl (.ints (prvP size xs k)))]) [0,1,5,6] (fun k=>[.row 3 (.ints (clnK size xs k)),.row 3 (.ints (phI size xs xs.length++[(xs.length:Int)])),.gone]) (fun k=>k≤(phL size xs xs.length).length) (fun k=>(phL size xs xs.length).length-k) 0 (by ((try simp only [xk]);(repeat (refine leK_cons ?_ ?_;first | (exact amE) | rotate_left));(refine leK_nil ?_;exact (by rfl));(all_goals (try (simp only [xr,simprocAttr];try refine int_eq1 ?_))))) (Nat.zero_le _) fun k hk => ?_
  have hcl:=clnK_len size xs k
  simp only [xr,simprocAttr]
  refine amGo ?_
  refine awp_cond amQ (fun hc => ?_) (fun hc => ?_)
  · have hk':k<(phL size xs xs.length).length:=by have:=of_decide_eq_true hc;omega
    have hat:=phI_end (size:=size) (xs:=xs) (i:=k) (by omega)
    have hat2:=phI_end (size:=size) (xs:=xs) (i:=k+1) (by omega)
    have hlt:=phB_lt hk'
    have hnx:=clnK_next size xs k
    have hol:=ownP_len size xs k
    have hcb:=cntP_bd size xs k
    have hpr:(prt (phB size xs k) (phB size xs (k+1)) xs).length≤60:=by
      unfold prt
      rw [List.length_drop,List.length_take]
      omega
    have e3:((k:Int)+1).toNat=k+1:=by omega
    refine amGo ?_
    rw [e3,hat,hat2]
    refine amS ?_
    try simp only [Int.toNat_natCast]
    ((try refine Or.inl ?_);refine ⟨_,(l3Different_d (prt (phB size xs k) (phB size xs (k+1)) xs) (by omega)),amF,?_⟩;refine amC ?_)
    refine amGo ?_
    ((try refine Or.inl ?_);refine ⟨_,(l11Open_d (ownP size xs k) (prvP size xs k) (by omega)),amF,?_⟩;refine amC ?_)
    refine amGo ?_
    refine ⟨k+1,by omega,by omega,.inl ?_⟩
    ((try simp only [xk]);(repeat (refine leK_cons ?_ ?_;first | (exact amE) | rotate_left));(refine leK_nil ?_;exact (by rw [hnx];rfl));(all_goals (try (simp only [xr,simprocAttr];try refine int_eq1 ?_))))
  · have hk':k=(phL size xs xs.length).length:=by have:=of_decide_eq_false hc;omega
    subst hk'
    refine amGoR ?_
    (refine awp_frz 0 rfl ?_;simp only [xz,simprocAttr])
    refine amGo ?_
    (simp only [xe,simprocAttr];refine ⟨_,rfl,rfl,Imp.eq ?_⟩)
    rfl
def ccV (n size:Int) (xs:List Int):List Int:=clnV size xs
theorem szB_bif (n size:Int) (xs:List Int):(bif !rng size 1 6 then true else !rqB n xs) = !szB n size xs:=by
  unfold szB
  cases rng size 1 6<;>rfl
theorem impl_CleanCounts_h (n size:Int) (xs:List Int) (hb:szB n size xs=true):DoesH Tryz.prog 23 [.int n,.int size,.sl (.ints xs)] [] [] (.tup [.one (.own 0),.one (.b (.val (.bool true)))]) [.row 3 (.ints (ccV n size xs))]:=by
  refine spec_hB Tryz.func23 rfl Tryz.ntmps23 cfOK (fun _ _=>by kernel_rfl) rfl rfl rfl ?_
  intro M0 w0 S φ0
  rw [Tryz.results23]
  refine amGo ?_
  ((try refine Or.inl ?_);refine ⟨_,(isSize_d size),.inl rfl,?_⟩;refine amC ?_)
  refine amGo ?_
  ((try refine Or.inl ?_);refine ⟨_,(fun _=>isRequests_d n xs),.inl rfl,?_⟩;refine amC ?_)
  refine amGo ?_
  rw [szB_bif,hb]
  refine awp_cond amQ (fun hc => ?_) (fun hc => ?_)
  · cases hc
  refine amGo ?_
  (refine .inr (.inl (callW_b (cleanCounts_h size xs (sz_ok hb).len) rfl rfl rfl rfl rfl rfl rfl ?_));refine amC ?_)
  refine amGo ?_
  (simp only [ends_normal,ends_ret];refine retH_2 (vs:=[_,_]) [0] rfl ⟨rfl,trivial⟩ rfl rfl rfl rfl ⟨rfl,rfl,trivial⟩ ?_;try rfl)
theorem impl_CleanCounts_i (n size:Int) (xs:List Int) (hb:szB n size xs=true):Does Tryz.prog 23 [.int n,.int size,.sl (.ints xs)] (.imm (.tup [.one (.b (.sl (.ints (ccV n size xs)))),.one (.b (.val (.bool true)))])):=imm_of (impl_CleanCounts_h n size xs hb)
theorem impl_CleanCounts_0 (n size:Int) (xs:List Int) (hb:szB n size xs=false):Does Tryz.prog 23 [.int n,.int size,.sl (.ints xs)] (.imm (.tup [.one (.b (.val (.slice none 0 0))),.one (.b (.val (.bool false)))])):=by
  refine spec_imm Tryz.func23 rfl Tryz.ntmps23 cfOK (fun _ _=>by kernel_rfl) rfl (Nat.le_of_ble_eq_true rfl) ?_
  intro M0 w0
  rw [Tryz.results23]
  refine amGo ?_
  ((try refine Or.inl ?_);refine ⟨_,(isSize_d size),.inl rfl,?_⟩;refine amC ?_)
  refine amGo ?_
  ((try refine Or.inl ?_);refine ⟨_,(fun _=>isRequests_d n xs),.inl rfl,?_⟩;refine amC ?_)
  refine amGo ?_
  rw [szB_bif,hb]
  refine awp_cond amQ (fun hc => ?_) (fun hc => ?_)
  · refine amGo ?_
    (simp only [xe,simprocAttr];refine ⟨[_,_],⟨rfl,rfl,trivial⟩,rfl,Imp.eq ?_⟩)
    rfl
  · cases hc
theorem spec_CleanCounts_d (n size:Int) (xs:List Int):Does Tryz.prog 24 [.int n,.int size,.sl (.ints xs)] (.imm (.tup [.one (.b (.sl (.ints (if szB n size xs=true then ccV n size xs else [])))),.one (.b (.val (.bool (szB n size xs))))])):=by
  refine spec_imm Tryz.func24 rfl Tryz.ntmps24 cfOK (fun _ _=>by kernel_rfl) rfl (Nat.le_of_ble_eq_true rfl) ?_
  intro M0 w0
  rw [Tryz.results24]
  refine amGo ?_
  ((try refine Or.inl ?_);refine ⟨_,(l11Sized_d n size xs),.inl rfl,?_⟩;refine amC ?_)
  refine amGo ?_
  cases hb:szB n size xs
  · rw [if_neg (by decide)]
    refine awp_cond amQ (fun hc => ?_) (fun hc => ?_)
    · refine amGoR ?_
      (refine awp_frz 0 rfl ?_;simp only [xz,simprocAttr])
      refine amGo ?_
      (simp only [xe,simprocAttr];refine ⟨[_,_],⟨rfl,rfl,trivial⟩,rfl,Imp.eq ?_⟩)
      rfl
    · cases hc
  · rw [if_pos rfl]
    refine awp_cond amQ (fun hc => ?_) (fun hc => ?_)
    · cases hc
    · refine amGo ?_
      ((try refine Or.inl ?_);refine ⟨_,(l11Clean_d size xs (sz_ok hb).len),amF,?_⟩;refine amC ?_)
      refine amGo ?_
      (simp only [xe,simprocAttr];refine ⟨[_,_],⟨rfl,rfl,trivial⟩,rfl,Imp.eq ?_⟩)
      rfl
end Go.Proofs.YtjblpcgkffhgfaaGreat
/- How many new items a phase has, and harmonic numbers: the plain laws. Conditions: those that each names. -/
set_option linter.all false
set_option linter.unusedSimpArgs false
set_option linter.unusedVariables false
namespace Go.Proofs.YtjblpcgkffhgfaaGreat

theorem phL_filter {size:Int} {xs:List Int} {m:Nat}:∀ n,m≤n→phL size xs m=(phL size xs n).filter fun x=>decide (x<m)
  | 0,h=>by
    obtain rfl:m=0:=by omega
    rfl
  | n+1,h=>by
    rcases Nat.lt_or_ge n m with h1 | h1
    · obtain rfl:m=n+1:=by omega
      rw [List.filter_eq_self.2 fun x hx=>decide_eq_true (phL_mem _ x hx)]
    · have ih:=phL_filter (size:=size) (xs:=xs) n h1
      rw [phL]
      split
      · rw [List.filter_append,← ih]
        simp
        omega
      · exact ih
theorem filter_take {l:List Nat} (h:l.Pairwise (·<·)) {i:Nat} {e:Nat} (hi:i<l.length) (h1:l.getD i 0<e) (h2:∀ (hj:i+1<l.length),e≤l.getD (i+1) 0):l.filter (fun x=>decide (x<e))=l.take (i+1):=by
  have e1:l=l.take (i+1)++l.drop (i+1):=(List.take_append_drop _ _).symm
  have k1:(l.take (i+1)).filter (fun x=>decide (x<e))=l.take (i+1):=List.filter_eq_self.2 fun x hx=>by
    obtain ⟨j,hj,rfl⟩:=List.getElem_of_mem hx
    simp only [List.length_take] at hj
    rw [List.getElem_take]
    rw [getD_inL hi] at h1
    refine decide_eq_true ?_
    rcases Nat.lt_or_ge j i with h3 | h3
    · have:=List.pairwise_iff_getElem.1 h j i (by omega) hi h3
      omega
    · obtain rfl:j=i:=by omega
      exact h1
  have k2:(l.drop (i+1)).filter (fun x=>decide (x<e))=[]:=List.filter_eq_nil_iff.2 fun x hx=>by
    obtain ⟨j,hj,rfl⟩:=List.getElem_of_mem hx
    simp only [List.length_drop] at hj
    rw [List.getElem_drop]
    have h3:=h2 (by omega)
    rw [getD_inL (by omega)] at h3
    have h4:l[i+1]'(by omega)≤l[i+1+j]'(by omega):=by
      rcases Nat.eq_zero_or_pos j with rfl | h5
      · exact Nat.le_refl _
      · exact Nat.le_of_lt (List.pairwise_iff_getElem.1 h (i+1) (i+1+j) (by omega) (by omega) (by omega))
    simp
    omega
  have e2:l.filter (fun x=>decide (x<e))=(l.take (i+1)++l.drop (i+1)).filter (fun x=>decide (x<e)):=congrArg _ e1
  rw [e2,List.filter_append,k1,k2,List.append_nil]
theorem itm_own {size:Int} {xs:List Int} {i:Nat} (hi:i<(phL size xs xs.length).length):itm size xs (phB size xs (i+1))=ownP size xs i:=by
  have h1:=phB_lt hi
  have e:phL size xs (phB size xs (i+1))=(phL size xs xs.length).take (i+1):=by
    rw [phL_filter (size:=size) (xs:=xs) xs.length h1.2]
    refine filter_take (phL_lt _) hi ?_ fun hj => ?_
    · rw [← phB_in hi];exact h1.1
    · rw [phB_in hj]
      exact Nat.le_refl _
  unfold itm ownP
  rw [e,phB_in hi,take_getD hi 0,getLastD_snoc]
theorem itm_size {size:Int} {xs:List Int} (hs:1≤size):∀ i,i≤xs.length→((itm size xs i).length:Int)≤size
  | 0,_=>by
    have:=itm_len (size:=size) (xs:=xs) 0
    omega
  | i+1,h=>by
    rw [itm_next (by omega)]
    split
    · simpa using hs
    · omega
theorem ownP_size {size:Int} {xs:List Int} (hs:1≤size) {i:Nat} (hi:i<(phL size xs xs.length).length):((ownP size xs i).length:Int)≤size:=by
  rw [← itm_own hi]
  exact itm_size hs _ (phB_lt hi).2
theorem cnt_size {size:Int} {xs:List Int} (hs:1≤size) {i:Nat} (hi:i<(phL size xs xs.length).length):((opn (ownP size xs i) (prvP size xs i)).length:Int)≤size:=by
  have h1:=ownP_size hs hi
  have h2:(opn (ownP size xs i) (prvP size xs i)).length≤(ownP size xs i).length:=List.length_filter_le _ _
  omega
/-! ### harmonic numbers, as sixtieths -/
def hN (n:Nat):Int:=([0,60,90,110,125,137,147]:List Int).getD n 0
theorem hN_bd (n:Nat):0≤hN n∧hN n≤147:=by
  unfold hN
  match n with
  | 0=>decide
  | 1=>decide
  | 2=>decide
  | 3=>decide
  | 4=>decide
  | 5=>decide
  | 6=>decide
  | n+7=>simp
theorem hN_next {n:Nat} (h:n<6):hN (n+1)=hN n+60 / ((n:Int)+1):=by
  match n,h with
  | 0,_=>decide
  | 1,_=>decide
  | 2,_=>decide
  | 3,_=>decide
  | 4,_=>decide
  | 5,_=>decide
theorem fr_zero {D:Int} (h:0<D):mkFr 0 D=(0,1):=by
  have e:mkFr 0 D=mkFr 0 1:=(fr_cross h (by decide) (by simp)).2
  rw [e]
  decide +kernel
theorem fr_inv {n:Nat} (h:n<6):IsFr (1,(n:Int)+1) (60 / ((n:Int)+1)) 60:=by
  match n,h with
  | 0,_=>exact ⟨by decide +kernel,by decide,by decide⟩
  | 1,_=>exact ⟨by decide +kernel,by decide,by decide⟩
  | 2,_=>exact ⟨by decide +kernel,by decide,by decide⟩
  | 3,_=>exact ⟨by decide +kernel,by decide,by decide⟩
  | 4,_=>exact ⟨by decide +kernel,by decide,by decide⟩
  | 5,_=>exact ⟨by decide +kernel,by decide,by decide⟩
theorem fr_har (n:Nat):IsFr (mkFr (hN n) 60) (hN n) 60:=by
  have:=hN_bd n
  exact isFr_small (by decide) (by decide) (by omega) (by omega)
/-- what a phase with c new items adds to the bound, as sixtieths -/
def mbT (s c:Nat):Int:=(hN s-hN c+60)*c
theorem mbT_bd {s c:Nat} (hc:c≤6) : -1242≤mbT s c∧mbT s c≤1242:=by
  have h1:=hN_bd s
  have h2:=hN_bd c
  have:=mul_bd (x:=hN s-hN c+60) (y:=(c:Int)) (X:=207) (Y:=6) ⟨by omega,by omega⟩ ⟨by omega,by omega⟩
  unfold mbT
  omega
/-- the bound of the first k phases, as sixtieths -/
def mbS (size:Int) (xs:List Int):Nat→Int
  | 0=>0
  | k+1=>mbS size xs k+mbT size.toNat (opn (ownP size xs k) (prvP size xs k)).length
theorem mbS_bd {size:Int} {xs:List Int} (hs:1≤size) (hs2:size≤6):∀ k,k≤(phL size xs xs.length).length → -(1242*(k:Int))≤mbS size xs k∧mbS size xs k≤1242*(k:Int)
  | 0,_=>by simp [mbS]
  | k+1,h=>by
    have ih:=mbS_bd (xs:=xs) hs hs2 k (by omega)
    have h1:=cnt_size (xs:=xs) hs (i:=k) (by omega)
    have h2:=mbT_bd (s:=size.toNat) (c:=(opn (ownP size xs k) (prvP size xs k)).length) (by omega)
    simp only [mbS]
    omega
def mbV (size:Int) (xs:List Int):Int×Int:=mkFr (mbS size xs (phL size xs xs.length).length) 60
end Go.Proofs.YtjblpcgkffhgfaaGreat
/- MarkBound of the program and of the reference, on the machine. Conditions: those that each names. -/
set_option linter.all false
set_option linter.unusedSimpArgs false
set_option linter.unusedVariables false
namespace Go.Proofs.YtjblpcgkffhgfaaGreat
open Go Go.RowKit Am

abbrev frL (a:Int×Int):List Int:=[a.1,a.2]
set_option maxHeartbeats 1000000 in
theorem sumFracs_f (D:Int) (hD:1≤D) (hD2:D≤100000) (l:List (Int×Int)) (ns:List Int) (hl:l.length=ns.length) (hn:ns.length≤100) (hf:∀ k,k<ns.length→IsFr (l.getD k (0,0)) (ns.getD k 0) D) (hb:∀ k,k≤ns.length → -100000000≤(ns.take k).sum∧(ns.take k).sum≤100000000):Does Tryz.prog 30 [.sl (.k 2 (l.map frL))] (.imm (.tup [frT (mkFr ns.sum D),blT true])):=by
  have hml:(l.map frL).length=ns.length:=by rw [List.length_map,hl]
  have h0:=fr_zero (D:=D) (by omega)
  refine spec_imm Tryz.func30 rfl Tryz.ntmps30 cfOK (fun _ _=>by kernel_rfl) rfl (Nat.le_of_ble_eq_true rfl) ?_
  intro M0 w0
  rw [Tryz.results30]
  refine amGo ?_
  refine awp_cond amQ (fun hc => ?_) (fun hc => ?_)
  · have:=of_decide_eq_true hc
    omega
  refine amGo ?_
  refine awp_rounds (α:=Nat) (fun k=>[(15,true,.int k),(5,true,.bool true)]) [2,4,13,14] (fun k=>[.box [.b (.val (.int .i64 0)),.b (.val (.int .i64 0))],.box [.b (.val (.int .i64 (mkFr (ns.take k).sum D).1)),.b (.val (.int .i64 (mkFr (ns.take k).sum D).2))]]) (fun k=>k≤ns.length) (fun k=>ns.length-k) 0 (by ((try simp only [xk]);(repeat (refine leK_cons ?_ ?_;first | (exact amE) | rotate_left));(refine leK_nil ?_;exact (by simp [h0]));(all_goals (try (simp only [xr,simprocAttr];try refine int_eq1 ?_))))) (Nat.zero_le _) fun k hk => ?_
  simp only [xr,simprocAttr]
  refine amGo ?_
  refine awp_cond amQ (fun hc => ?_) (fun hc => ?_)
  · have hk':k<ns.length:=by have:=of_decide_eq_true hc;omega
    have hs:=hb k (by omega)
    have hs1:=hb (k+1) (by omega)
    have hsum:(ns.take (k+1)).sum=(ns.take k).sum+ns.getD k 0:=by rw [take_getD hk' 0,List.sum_append];simp
    have hfr:=isFr_small (n:=(ns.take k).sum) (d:=D) (by omega) hD2 hs.1 hs.2
    have hok:=ok_small (n:=(ns.take (k+1)).sum) (d:=D) (by omega) hD2 hs1.1 hs1.2
    have hat:(l.map frL).getD k []=frL (l.getD k (0,0)):=by
      have h1:k<l.length:=by omega
      rw [getD_inL (by rw [List.length_map];exact h1),List.getElem_map,getD_inL h1]
    have hadd:=addFracs_f hfr (hf k hk')
    rw [← hsum,hok] at hadd
    generalize l.getD k (0,0)=p at hat hadd
    refine amGo ?_
    rw [hat]
    simp only [xr,simprocAttr]
    refine amGo ?_
    ((try refine Or.inl ?_);refine ⟨_,hadd,amF,?_⟩;refine amC ?_)
    refine amGo ?_
    refine awp_cond amQ (fun hd => ?_) (fun hd => ?_)
    · cases hd
    refine amGo ?_
    refine ⟨k+1,by omega,by omega,.inr ⟨2,Nat.le_of_ble_eq_true rfl,leT_of ?_ rfl rfl rfl⟩⟩
    ((try simp only [xk]);(repeat (refine leK_cons ?_ ?_;first | (exact amE) | rotate_left));(refine leK_nil ?_;exact (by rfl));(all_goals (try (simp only [xr,simprocAttr];try refine int_eq1 ?_))))
  · have hk':k=ns.length:=by have:=of_decide_eq_false hc;omega
    subst hk'
    rw [List.take_length]
    refine amGo ?_
    (simp only [xec,simprocAttr];refine ⟨[_,_],⟨⟨amK,rfl⟩,rfl,trivial⟩,rfl,Imp.eq ?_⟩)
    rfl
theorem harmonic_f (n:Nat) (hn:n≤6):Does Tryz.prog 34 [.int n] (.imm (.tup [frT (mkFr (hN n) 60),blT true])):=by
  have key:∀ k,k≤n→(((List.range n).map fun (i:Nat)=>(60:Int) / ((i:Int)+1)).take k).sum=hN k:=fun k=>by
    induction k with
    | zero=>intro _;rfl
    | succ k ih =>
      intro hk
      rw [take_getD (by simp;omega) 0,List.sum_append,ih (by omega),hN_next (by omega)]
      simp [show k<n by omega]
  have hs:=sumFracs_f 60 (by decide) (by decide) ((List.range n).map fun (i:Nat)=>((1:Int),(i:Int)+1)) ((List.range n).map fun (i:Nat)=>(60:Int) / ((i:Int)+1)) (by simp) (by simp;omega) (fun k hk=>by
    have hk:k<n:=by simpa using hk
    simp only [List.getD_eq_getElem?_getD,List.getElem?_map,List.getElem?_range hk,Option.map_some,Option.getD_some]
    exact fr_inv (by omega)) (fun k hk=>by
    have:=hN_bd k
    rw [key k (by simpa using hk)]
    omega)
  have hk:=key n (Nat.le_refl _)
  rw [List.take_of_length_le (by simp)] at hk
  rw [hk] at hs
  refine spec_imm Tryz.func34 rfl Tryz.ntmps34 cfOK (fun _ _=>by kernel_rfl) rfl (Nat.le_of_ble_eq_true rfl) ?_
  intro M0 w0
  rw [Tryz.results34]
  refine amGo ?_
  ((try refine Or.inl ?_);refine ⟨_,(within_e _ _ _),.inl rfl,?_⟩;refine amC ?_)
  refine amGo ?_
  rw [rng_yes (by omega) (by omega)]
  refine awp_cond amQ (fun hc => ?_) (fun hc => ?_)
  · cases hc
  refine amGo ?_
  refine awp_rounds (α:=Nat) (fun k=>[(12,true,.int k)]) [2,4,11] (fun k=>[.box [.b (.val (.int .i64 0)),.b (.val (.int .i64 0))],.row 40 (.k 2 ((List.range k).map fun (i:Nat)=>[(1:Int),(i:Int)+1]))]) (fun k=>k≤n) (fun k=>n-k) 0 (by ((try simp only [xk]);(repeat (refine leK_cons ?_ ?_;first | (exact amE) | rotate_left));(refine leK_nil ?_;exact (by rfl));(all_goals (try (simp only [xr,simprocAttr];try refine int_eq1 ?_))))) (Nat.zero_le _) fun k hk => ?_
  have hrl:((List.range k).map fun (i:Nat)=>[(1:Int),(i:Int)+1]).length=k:=by simp
  simp only [xr,simprocAttr]
  refine amGo ?_
  refine awp_cond amQ (fun hc => ?_) (fun hc => ?_)
  · have hk':k<n:=by have:=of_decide_eq_true hc;omega
    refine amGo ?_
    refine ⟨k+1,by omega,by omega,.inl ?_⟩
    ((try simp only [xk]);(repeat (refine leK_cons ?_ ?_;first | (exact amE) | rotate_left));(refine leK_nil ?_;exact (by rw [List.range_succ,List.map_append];rfl));(all_goals (try (simp only [xr,simprocAttr];try refine int_eq1 ?_))))
  · have hk':k=n:=by have:=of_decide_eq_false hc;omega
    subst hk'
    have e:((List.range k).map fun (i:Nat)=>[(1:Int),(i:Int)+1])=(((List.range k).map fun (i:Nat)=>((1:Int),(i:Int)+1)).map frL):=by rw [List.map_map];rfl
    rw [e]
    refine amB ?_
    (refine awp_frz 1 rfl ?_;simp only [xz,simprocAttr])
    refine amGo ?_
    ((try refine Or.inl ?_);refine ⟨_,hs,amF,?_⟩;refine amC ?_)
    refine amGo ?_
    (simp only [xec,simprocAttr];refine ⟨[_,_],⟨⟨amK,rfl⟩,rfl,trivial⟩,rfl,Imp.eq ?_⟩)
    rfl
theorem l2Harmonic_f (n:Nat) (hn:n≤6):Does Tryz.prog 129 [.int n] (.imm (frA (mkFr (hN n) 60))):=by
  have h0:=fr_zero (D:=60) (by decide)
  refine spec_imm Tryz.func129 rfl Tryz.ntmps129 cfOK (fun _ _=>by kernel_rfl) rfl (Nat.le_of_ble_eq_true rfl) ?_
  intro M0 w0
  rw [Tryz.results129]
  refine amGo ?_
  refine awp_rounds (α:=Nat) (fun k=>[(4,true,.int ((k+1:Nat):Int))]) [0,2,3] (fun k=>[.box [.b (.val (.int .i64 0)),.b (.val (.int .i64 0))],.box [.b (.val (.int .i64 (mkFr (hN k) 60).1)),.b (.val (.int .i64 (mkFr (hN k) 60).2))]]) (fun k=>k≤n) (fun k=>n-k) 0 (by ((try simp only [xk]);(repeat (refine leK_cons ?_ ?_;first | (exact amE) | rotate_left));(refine leK_nil ?_;exact (by rw [show hN 0=0 from rfl,h0]));(all_goals (try (simp only [xr,simprocAttr];try refine int_eq1 ?_))))) (Nat.zero_le _) fun k hk => ?_
  simp only [xr,simprocAttr]
  refine amGo ?_
  refine awp_cond amQ (fun hc => ?_) (fun hc => ?_)
  · have hk':k<n:=by have:=of_decide_eq_true hc;omega
    have hb:=hN_bd (k+1)
    have hadd:=l2Add_f (fr_har k) (fr_inv (n:=k) (by omega))
    rw [← hN_next (by omega)] at hadd
    have e:(((k+1:Nat):Int))=(k:Int)+1:=by omega
    rw [e]
    refine amGo ?_
    ((try refine Or.inl ?_);refine ⟨_,hadd,amF,?_⟩;refine amC ?_)
    refine amGo ?_
    refine ⟨k+1,by omega,by omega,.inl ?_⟩
    ((try simp only [xk]);(repeat (refine leK_cons ?_ ?_;first | (exact amE) | rotate_left));(refine leK_nil ?_;exact (by rfl));(all_goals (try (simp only [xr,simprocAttr];try refine int_eq1 ?_))))
  · have hk':k=n:=by have:=of_decide_eq_false hc;omega
    subst hk'
    refine amGo ?_
    (simp only [xec,simprocAttr];refine ⟨_,⟨amK,rfl⟩,rfl,Imp.eq ?_⟩)
    rfl
theorem l11Times_f (c s:Nat) (hc:c≤6) (hs:s≤6):Does Tryz.prog 74 [.int c,.int s] (.imm (frA (mkFr (mbT s c) 60))):=by
  have h1:=hN_bd s
  have h2:=hN_bd c
  have hsub:=l2Sub_f (fr_har s) (fr_har c)
  have hf1:=isFr_small (n:=hN s-hN c) (d:=60) (by decide) (by decide) (by omega) (by omega)
  have h11:IsFr (1,1) 60 60:=⟨by decide +kernel,by decide,by decide⟩
  have hadd:=l2Add_f hf1 h11
  have hf2:=isFr_small (n:=hN s-hN c+60) (d:=60) (by decide) (by decide) (by omega) (by omega)
  have hmul:=l2Mul_f (isFr_int (c:=(c:Int)) (by omega) (by omega)) hf2 ⟨by omega,by omega⟩
  rw [show (c:Int)*(hN s-hN c+60)=mbT s c from Int.mul_comm _ _,show (1:Int)*60=60 from rfl] at hmul
  refine spec_imm Tryz.func74 rfl Tryz.ntmps74 cfOK (fun _ _=>by kernel_rfl) rfl (Nat.le_of_ble_eq_true rfl) ?_
  intro M0 w0
  rw [Tryz.results74]
  refine amGo ?_
  ((try refine Or.inl ?_);refine ⟨_,(l2Harmonic_f s hs),amF,?_⟩;refine amC ?_)
  refine amGo ?_
  ((try refine Or.inl ?_);refine ⟨_,(l2Harmonic_f c hc),amF,?_⟩;refine amC ?_)
  refine amGo ?_
  ((try refine Or.inl ?_);refine ⟨_,hsub,amF,?_⟩;refine amC ?_)
  refine amGo ?_
  ((try refine Or.inl ?_);refine ⟨_,hadd,amF,?_⟩;refine amC ?_)
  refine amGo ?_
  ((try refine Or.inl ?_);refine ⟨_,hmul,amF,?_⟩;refine amC ?_)
  refine amGo ?_
  (simp only [xec,simprocAttr];refine ⟨_,⟨amK,rfl⟩,rfl,Imp.eq ?_⟩)
  rfl
theorem cleanCounts_d (size:Int) (xs:List Int) (hn:xs.length≤60):Does Tryz.prog 68 [.int size,.sl (.ints xs)] (.imm (.sl (.ints (clnV size xs)))):=imm_of (cleanCounts_h size xs hn)
set_option maxHeartbeats 1000000 in
theorem impl_MarkBound_d (n size:Int) (xs:List Int):Does Tryz.prog 25 [.int n,.int size,.sl (.ints xs)] (.imm (.tup [frT (if szB n size xs=true then mbV size xs else (0,0)),blT (szB n size xs)])):=by
  refine spec_imm Tryz.func25 rfl Tryz.ntmps25 cfOK (fun _ _=>by kernel_rfl) rfl (Nat.le_of_ble_eq_true rfl) ?_
  intro M0 w0
  rw [Tryz.results25]
  refine amGo ?_
  ((try refine Or.inl ?_);refine ⟨_,(isSize_d size),.inl rfl,?_⟩;refine amC ?_)
  refine amGo ?_
  ((try refine Or.inl ?_);refine ⟨_,(fun _=>isRequests_d n xs),.inl rfl,?_⟩;refine amC ?_)
  refine amGo ?_
  rw [szB_bif]
  cases hb:szB n size xs
  · rw [if_neg (by decide)]
    refine awp_cond amQ (fun hc => ?_) (fun hc => ?_)
    · refine amGo ?_
      (simp only [xec,simprocAttr];refine ⟨[_,_],⟨⟨amK,rfl⟩,rfl,trivial⟩,rfl,Imp.eq ?_⟩)
      rfl
    · cases hc
  · rw [if_pos rfl]
    have hok:=sz_ok hb
    have hs1:=hok.s1
    have hs2:=hok.s2
    have hlen:=hok.len
    obtain ⟨s,rfl⟩:∃ s:Nat,size=(s:Int):=⟨size.toNat,by omega⟩
    have h0:=fr_zero (D:=60) (by decide)
    have hpn:=phL_len (size:=(s:Int)) (xs:=xs) xs.length
    have hcl:=clnK_len (s:Int) xs (phL (s:Int) xs xs.length).length
    have hcc:=cleanCounts_d (s:Int) xs hlen
    unfold clnV at hcc
    unfold mbV
    refine awp_cond amQ (fun hc => ?_) (fun hc => ?_)
    · cases hc
    refine amGo ?_
    ((try refine Or.inl ?_);refine ⟨_,(harmonic_f s (by omega)),amF,?_⟩;refine amC ?_)
    refine amGo ?_
    ((try refine Or.inl ?_);refine ⟨_,hcc,amF,?_⟩;refine amC ?_)
    refine amGo ?_
    refine awp_rounds (α:=Nat) (fun k=>[(38,true,.int k)]) [1,6,8,10,36,37] (fun k=>[.box [.b (.val (.int .i64 0)),.b (.val (.int .i64 0))],.box [.b (.val (.int .i64 (mkFr (mbS s xs k) 60).1)),.b (.val (.int .i64 (mkFr (mbS s xs k) 60).2))],.box [.b (.val (.int .i64 (mkFr (hN s) 60).1)),.b (.val (.int .i64 (mkFr (hN s) 60).2))]]) (fun k=>k≤(phL (s:Int) xs xs.length).length) (fun k=>(phL (s:Int) xs xs.length).length-k) 0 (by ((try simp only [xk]);(repeat (refine leK_cons ?_ ?_;first | (exact amE) | rotate_left));(refine leK_nil ?_;exact (by rw [show mbS s xs 0=0 from rfl,h0]));(all_goals (try (simp only [xr,simprocAttr];try refine int_eq1 ?_))))) (Nat.zero_le _) fun k hk => ?_
    simp only [xr,simprocAttr]
    refine amGo ?_
    refine awp_cond amQ (fun hc2 => ?_) (fun hc2 => ?_)
    · have hk':k<(phL (s:Int) xs xs.length).length:=by have:=of_decide_eq_true hc2;omega
      have hcs:=cnt_size (xs:=xs) hs1 hk'
      have hat:(clnK (s:Int) xs (phL (s:Int) xs xs.length).length).getD k 0=((opn (ownP (s:Int) xs k) (prvP (s:Int) xs k)).length:Int):=by
        unfold clnK
        rw [List.getD_eq_getElem?_getD,List.getElem?_map,List.getElem?_range hk']
        rfl
      have hS1:=mbS_bd (xs:=xs) hs1 hs2 k hk
      have hS2:=mbS_bd (xs:=xs) hs1 hs2 (k+1) hk'
      have hnx:mbS s xs (k+1)=mbS s xs k+mbT s (opn (ownP (s:Int) xs k) (prvP (s:Int) xs k)).length:=by simp [mbS]
      generalize (opn (ownP (s:Int) xs k) (prvP (s:Int) xs k)).length=c at hcs hat hnx
      have h1:=hN_bd s
      have h2:=hN_bd c
      have hsub:=subFracs_f (fr_har s) (fr_har c)
      have hf1:=isFr_small (n:=hN s-hN c) (d:=60) (by decide) (by decide) (by omega) (by omega)
      have h11:IsFr (1,1) 60 60:=⟨by decide +kernel,by decide,by decide⟩
      have hadd:=addFracs_f hf1 h11
      have hf2:=isFr_small (n:=hN s-hN c+60) (d:=60) (by decide) (by decide) (by omega) (by omega)
      have hmul:=mulFracs_f hf2 (isFr_int (c:=(c:Int)) (by omega) (by omega)) ⟨by simp<;>omega,by simp<;>omega⟩
      rw [show (hN s-hN c+60)*(c:Int)=mbT s c from rfl,show (60:Int)*1=60 from rfl] at hmul
      have hT:=mbT_bd (s:=s) (c:=c) (by omega)
      have hf3:=isFr_small (n:=mbT s c) (d:=60) (by decide) (by decide) (by omega) (by omega)
      have hf4:=isFr_small (n:=mbS s xs k) (d:=60) (by decide) (by decide) (by omega) (by omega)
      have hlast:=addFracs_f hf4 hf3
      rw [← hnx,ok_small (by decide) (by decide) (by omega) (by omega)] at hlast
      refine amGo ?_
      rw [hat]
      refine amGo ?_
      ((try refine Or.inl ?_);refine ⟨_,(harmonic_f c (by omega)),amF,?_⟩;refine amC ?_)
      refine amGo ?_
      ((try refine Or.inl ?_);refine ⟨_,hsub,amF,?_⟩;refine amC ?_)
      refine amGo ?_
      ((try refine Or.inl ?_);refine ⟨_,hadd,amF,?_⟩;refine amC ?_)
      refine amGo ?_
      ((try refine Or.inl ?_);refine ⟨_,hmul,amF,?_⟩;refine amC ?_)
      refine amGo ?_
      ((try refine Or.inl ?_);refine ⟨_,hlast,amF,?_⟩;refine amC ?_)
      refine amGo ?_
      refine awp_cond amQ (fun hd => ?_) (fun hd => ?_)
      · cases hd
      refine amGo ?_
      refine ⟨k+1,by omega,by omega,.inr ⟨3,Nat.le_of_ble_eq_true rfl,leT_of ?_ rfl rfl rfl⟩⟩
      ((try simp only [xk]);(repeat (refine leK_cons ?_ ?_;first | (exact amE) | rotate_left));(refine leK_nil ?_;exact (by rfl));(all_goals (try (simp only [xr,simprocAttr];try refine int_eq1 ?_))))
    · have hk':k=(phL (s:Int) xs xs.length).length:=by have:=of_decide_eq_false hc2;omega
      subst hk'
      refine amGo ?_
      (simp only [xec,simprocAttr];refine ⟨[_,_],⟨⟨amK,rfl⟩,rfl,trivial⟩,rfl,Imp.eq ?_⟩)
      rfl
set_option maxHeartbeats 1000000 in
theorem spec_MarkBound_d (n size:Int) (xs:List Int):Does Tryz.prog 26 [.int n,.int size,.sl (.ints xs)] (.imm (.tup [frT (if szB n size xs=true then mbV size xs else (0,0)),blT (szB n size xs)])):=by
  refine spec_imm Tryz.func26 rfl Tryz.ntmps26 cfOK (fun _ _=>by kernel_rfl) rfl (Nat.le_of_ble_eq_true rfl) ?_
  intro M0 w0
  rw [Tryz.results26]
  refine amGo ?_
  ((try refine Or.inl ?_);refine ⟨_,(l11Sized_d n size xs),.inl rfl,?_⟩;refine amC ?_)
  refine amGo ?_
  cases hb:szB n size xs
  · rw [if_neg (by decide)]
    refine awp_cond amQ (fun hc => ?_) (fun hc => ?_)
    · refine amGo ?_
      (simp only [xec,simprocAttr];refine ⟨[_,_],⟨⟨amK,rfl⟩,rfl,trivial⟩,rfl,Imp.eq ?_⟩)
      rfl
    · cases hc
  · rw [if_pos rfl]
    have hok:=sz_ok hb
    have hs1:=hok.s1
    have hs2:=hok.s2
    have hlen:=hok.len
    obtain ⟨s,rfl⟩:∃ s:Nat,size=(s:Int):=⟨size.toNat,by omega⟩
    have h0:=fr_zero (D:=60) (by decide)
    have hpn:=phL_len (size:=(s:Int)) (xs:=xs) xs.length
    have hcl:=clnK_len (s:Int) xs (phL (s:Int) xs xs.length).length
    have hcc:=l11Clean_d (s:Int) xs hlen
    unfold clnV at hcc
    unfold mbV
    refine awp_cond amQ (fun hc => ?_) (fun hc => ?_)
    · cases hc
    refine amGo ?_
    ((try refine Or.inl ?_);refine ⟨_,hcc,amF,?_⟩;refine amC ?_)
    refine amGo ?_
    refine awp_rounds (α:=Nat) (fun k=>[(10,true,.int k)]) [1,6,8,9] (fun k=>[.box [.b (.val (.int .i64 0)),.b (.val (.int .i64 0))],.box [.b (.val (.int .i64 (mkFr (mbS s xs k) 60).1)),.b (.val (.int .i64 (mkFr (mbS s xs k) 60).2))]]) (fun k=>k≤(phL (s:Int) xs xs.length).length) (fun k=>(phL (s:Int) xs xs.length).length-k) 0 (by ((try simp only [xk]);(repeat (refine leK_cons ?_ ?_;first | (exact amE) | rotate_left));(refine leK_nil ?_;exact (by rw [show mbS s xs 0=0 from rfl,h0]));(all_goals (try (simp only [xr,simprocAttr];try refine int_eq1 ?_))))) (Nat.zero_le _) fun k hk => ?_
    simp only [xr,simprocAttr]
    refine amGo ?_
    refine awp_cond amQ (fun hc2 => ?_) (fun hc2 => ?_)
    · have hk':k<(phL (s:Int) xs xs.length).length:=by have:=of_decide_eq_true hc2;omega
      have hcs:=cnt_size (xs:=xs) hs1 hk'
      have hat:(clnK (s:Int) xs (phL (s:Int) xs xs.length).length).getD k 0=((opn (ownP (s:Int) xs k) (prvP (s:Int) xs k)).length:Int):=by
        unfold clnK
        rw [List.getD_eq_getElem?_getD,List.getElem?_map,List.getElem?_range hk']
        rfl
      have hS1:=mbS_bd (xs:=xs) hs1 hs2 k hk
      have hS2:=mbS_bd (xs:=xs) hs1 hs2 (k+1) hk'
      have hnx:mbS s xs (k+1)=mbS s xs k+mbT s (opn (ownP (s:Int) xs k) (prvP (s:Int) xs k)).length:=by simp [mbS]
      generalize (opn (ownP (s:Int) xs k) (prvP (s:Int) xs k)).length=c at hcs hat hnx
      have hT:=mbT_bd (s:=s) (c:=c) (by omega)
      have hf3:=isFr_small (n:=mbT s c) (d:=60) (by decide) (by decide) (by omega) (by omega)
      have hf4:=isFr_small (n:=mbS s xs k) (d:=60) (by decide) (by decide) (by omega) (by omega)
      have hlast:=l2Add_f hf4 hf3
      rw [← hnx,ok_small (by decide) (by decide) (by omega) (by omega)] at hlast
      (refine amB ?_;refine awp_anyM [] 0 [] (by kernel_rfl) (by kernel_rfl) (by kernel_rfl) (by kernel_rfl) (by kernel_rfl) ?_;refine amM ?_)
      rw [hat]
      ((try refine Or.inl ?_);refine ⟨_,(l11Times_f c s (by omega) (by omega)),amF,?_⟩;refine amC ?_)
      ((try refine Or.inl ?_);refine ⟨_,hlast,amF,?_⟩;refine amC ?_)
      refine amGo ?_
      refine ⟨k+1,by omega,by omega,.inr ⟨2,Nat.le_of_ble_eq_true rfl,leT_of ?_ rfl rfl rfl⟩⟩
      ((try simp only [xk]);(repeat (refine leK_cons ?_ ?_;first | (exact amE) | rotate_left));(refine leK_nil ?_;exact (by rfl));(all_goals (try (simp only [xr,simprocAttr];try refine int_eq1 ?_))))
    · have hk':k=(phL (s:Int) xs xs.length).length:=by have:=of_decide_eq_false hc2;omega
      subst hk'
      refine amGo ?_
      (simp only [xec,simprocAttr];refine ⟨[_,_],⟨⟨amK,rfl⟩,rfl,trivial⟩,rfl,Imp.eq ?_⟩)
      rfl
end Go.Proofs.YtjblpcgkffhgfaaGreat
