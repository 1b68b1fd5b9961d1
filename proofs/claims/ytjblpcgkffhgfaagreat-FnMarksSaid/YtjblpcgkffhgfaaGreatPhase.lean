/- Phases of requests and their new items, on the machine: the program's and the reference's. Conditions: those that each names. -/
import Derived.Test.YtjblpcgkffhgfaaGreatReq
import Derived.Test.YtjblpcgkffhgfaaGreatKitG
set_option linter.all false
set_option linter.unusedSimpArgs false
set_option linter.unusedVariables false
namespace Go.Proofs.YtjblpcgkffhgfaaGreat
open Go Go.RowKit Am

theorem l1Put_d (l:List Int) (n:Int) (hn:l.length≤1000):Does Tryz.prog 94 [.sl (.ints l),.int n] (.imm (.sl (.ints (putL l n)))):=by
  refine spec_imm Tryz.func94 rfl Tryz.ntmps94 cfOK (fun _ _=>by kernel_rfl) rfl (Nat.le_of_ble_eq_true rfl) ?_
  intro M0 w0
  rw [Tryz.results94]
  (refine awp_fits 0 rfl fun hf => ?_;simp only [xp,simprocAttr] at hf;simp only [xf,simprocAttr] at hf)
  refine amGo ?_
  refine awp_rounds (α:=Nat) (fun k=>[(5,true,.int k)]) [0,1] (fun _=>[]) (fun k=>k≤plc n l) (fun k=>plc n l-k) 0 (by ((try simp only [xk]);(repeat (refine leK_cons ?_ ?_;first | (exact amE) | rotate_left));(try exact leK_nil rfl);(all_goals (try (simp only [xr,simprocAttr];try refine int_eq1 ?_))))) (Nat.zero_le _) fun k hk => ?_
  have hpl:=plc_le n l
  simp only [xr,simprocAttr]
  refine amGo ?_
  refine awp_cond amQ (fun hc => ?_) (fun hc => ?_)
  · have hk':k<plc n l:=by
      rcases Nat.lt_or_ge k (plc n l) with h | h
      · exact h
      · exfalso
        obtain rfl:k=plc n l:=by omega
        by_cases h2:plc n l<l.length
        · have h3:=plc_ge h2
          rw [decide_eq_true (show ((plc n l:Nat):Int)<l.length by omega)] at hc
          have:=of_decide_eq_true hc
          omega
        · rw [decide_eq_false (show ¬ ((plc n l:Nat):Int)<l.length by omega)] at hc
          cases hc
    refine amGo ?_
    refine ⟨k+1,by omega,by omega,.inl ?_⟩
    ((try simp only [xk]);(repeat (refine leK_cons ?_ ?_;first | (exact amE) | rotate_left));(try exact leK_nil rfl);(all_goals (try (simp only [xr,simprocAttr];try refine int_eq1 ?_))))
  · have hk':k=plc n l:=by
      rcases Nat.lt_or_ge k (plc n l) with h | h
      · exfalso
        rw [decide_eq_true (show ((k:Nat):Int)<l.length by omega)] at hc
        have:=of_decide_eq_false hc
        have:=plc_lt h
        omega
      · omega
    subst hk'
    refine amGo ?_
    refine awp_cond amQ (fun hd => ?_) (fun hd => ?_)
    · have hd2:plc n l<l.length∧l.getD (plc n l) 0=n:=by
        by_cases h2:plc n l<l.length
        · rw [decide_eq_true (show ((plc n l:Nat):Int)<l.length by omega)] at hd
          exact ⟨h2,of_decide_eq_true hd⟩
        · rw [decide_eq_false (show ¬ ((plc n l:Nat):Int)<l.length by omega)] at hd
          cases hd
      refine amGo ?_
      (simp only [xe,simprocAttr];refine ⟨_,rfl,rfl,Imp.eq ?_⟩)
      rw [show putL l n=l from if_pos hd2]
    · have hd2:¬ (plc n l<l.length∧l.getD (plc n l) 0=n):=fun h=>by
        rw [decide_eq_true (show ((plc n l:Nat):Int)<l.length by omega),decide_eq_true h.2] at hd
        cases hd
      have hd3:((l.take (plc n l)).drop 0).length=plc n l:=by rw [List.length_drop,List.length_take];omega
      have hd4:((l.take l.length).drop (plc n l)).length=l.length-plc n l:=by rw [List.length_drop,List.length_take];omega
      have hd5:((l.take (plc n l)).drop 0++[n]).length=plc n l+1:=by rw [List.length_append,hd3];rfl
      (refine amB ?_;refine awp_anyG 4 [(0,[0]),(4,[1,0]),(7,[2,1]),(11,[3,2])] [0,1,2,3] [(0,[]),(4,[]),(7,[]),(11,[]),(12,[0,1,2])] ?_;refine amNG ?_)
      refine amGoR ?_
      (refine awp_frz 3 rfl ?_;simp only [xz,simprocAttr])
      refine amGo ?_
      (simp only [xe,simprocAttr];refine ⟨_,rfl,rfl,Imp.eq ?_⟩)
      rw [show putL l n=l.take (plc n l)++[n]++l.drop (plc n l) from if_neg hd2,List.take_length]
      rfl
theorem l3Different_d (xs:List Int) (hn:xs.length≤1000):Does Tryz.prog 110 [.sl (.ints xs)] (.imm (.sl (.ints (rs xs)))):=by
  refine spec_imm Tryz.func110 rfl Tryz.ntmps110 cfOK (fun _ _=>by kernel_rfl) rfl (Nat.le_of_ble_eq_true rfl) ?_
  intro M0 w0
  rw [Tryz.results110]
  (refine awp_fits 0 rfl fun hf => ?_;simp only [xp,simprocAttr] at hf;simp only [xf,simprocAttr] at hf)
  refine amG1 ?_
  refine amG1 ?_
  (refine awp_frz 0 rfl ?_;simp only [xz,simprocAttr])
  refine amGo ?_
  refine awp_rounds (α:=Nat) (fun k=>[(4,true,.int k),(3,true,.sl (.ints (rs (xs.take k))))]) [0] (fun _=>[.gone]) (fun k=>k≤xs.length) (fun k=>xs.length-k) 0 (by ((try simp only [xk]);(repeat (refine leK_cons ?_ ?_;first | (exact amE) | rotate_left));(try exact leK_nil rfl);(all_goals (try (simp only [xr,simprocAttr];try refine int_eq1 ?_))));all_goals (try simp [rs_nil])) (Nat.zero_le _) fun k hk => ?_
  have hl:=rs_len (xs.take k)
  rw [List.length_take] at hl
  simp only [xr,simprocAttr]
  refine amGo ?_
  refine awp_cond amQ (fun hc => ?_) (fun hc => ?_)
  · have hk':k<xs.length:=by have:=of_decide_eq_true hc;omega
    have e:putL (rs (xs.take k)) (xs.getD k 0)=rs (xs.take (k+1)):=by rw [take_getD hk' 0,rs_snoc]
    refine amGo ?_
    ((try refine Or.inl ?_);refine ⟨_,(l1Put_d (rs (xs.take k)) (xs.getD k 0) (by omega)),amF,?_⟩;refine amC ?_)
    rw [e]
    refine amGo ?_
    refine ⟨k+1,by omega,by omega,.inl ?_⟩
    ((try simp only [xk]);(repeat (refine leK_cons ?_ ?_;first | (exact amE) | rotate_left));(try exact leK_nil rfl);(all_goals (try (simp only [xr,simprocAttr];try refine int_eq1 ?_))))
  · have hk':k=xs.length:=by have:=of_decide_eq_false hc;omega
    subst hk'
    rw [List.take_length]
    refine amGo ?_
    (simp only [xe,simprocAttr];refine ⟨_,rfl,rfl,Imp.eq ?_⟩)
    rfl
end Go.Proofs.YtjblpcgkffhgfaaGreat
