/- The laws' small functions on choices, numbers and fractions, on the machine. Conditions: bytes are bytes. -/
import Derived.Test.YtjblpcgkffhgfaaGreatGCU
import Derived.Test.YtjblpcgkffhgfaaGreatME
import Derived.Test.YtjblpcgkffhgfaaGreatGCT
set_option linter.all false
set_option linter.unusedSimpArgs false
set_option linter.unusedVariables false
namespace Go.Proofs.YtjblpcgkffhgfaaGreat
open Go Go.RowKit Am

theorem vBig_d (bs:List Int):Does Tryz.prog 17 [.lf (.b (.raw bs))] (.imm (.bool (decide (65536<(bs.length:Int))))):=by
  refine spec_imm Tryz.func17 rfl Tryz.ntmps17 cfOK (fun _ _=>by kernel_rfl) rfl (Nat.le_of_ble_eq_true rfl) ?_
  intro M0 w0
  rw [Tryz.results17]
  refine amGo ?_
  (simp only [xe,simprocAttr];refine ⟨_,rfl,rfl,Imp.eq ?_⟩)
  rfl
theorem vInts_d (xs ys:List Int):Does Tryz.prog 29 [.sl (.ints xs),.sl (.ints ys)] (.imm (.bool (decide (xs=ys)))):=by
  refine spec_imm Tryz.func29 rfl Tryz.ntmps29 cfOK (fun _ _=>by kernel_rfl) rfl (Nat.le_of_ble_eq_true rfl) ?_
  intro M0 w0
  rw [Tryz.results29]
  (refine awp_fits 0 rfl fun hf1 => ?_;simp only [xp,simprocAttr] at hf1;simp only [xf,simprocAttr] at hf1)
  (refine awp_fits 1 rfl fun hf2 => ?_;simp only [xp,simprocAttr] at hf2;simp only [xf,simprocAttr] at hf2)
  refine amGo ?_
  refine awp_cond amQ (fun h1 => ?_) (fun h1 => ?_)
  · refine amGo ?_
    (simp only [xe,simprocAttr];refine ⟨_,rfl,rfl,Imp.eq ?_⟩)
    have hne:xs≠ys:=by rintro rfl;simp at h1
    rw [decide_eq_false hne]
  have hl:xs.length=ys.length:=by simp at h1;omega
  refine amGo ?_
  refine awp_rounds (α:=Nat) (fun k=>[(5,true,.int k)]) [0,1] (fun _=>[]) (fun k=>k≤xs.length∧xs.take k=ys.take k) (fun k=>xs.length-k) 0 (by ((try simp only [xk]);(repeat (refine leK_cons ?_ ?_;first | (exact amE) | rotate_left));(try exact leK_nil rfl);(all_goals (try (simp only [xr,simprocAttr];try refine int_eq1 ?_))))) ⟨Nat.zero_le _,rfl⟩ fun k hk => ?_
  obtain ⟨hk,hk2⟩:=hk
  simp only [xr,simprocAttr]
  refine amGo ?_
  refine awp_cond amQ (fun h2 => ?_) (fun h2 => ?_)
  · have h2:=of_decide_eq_true h2
    have hx:k<xs.length:=by omega
    have hy:k<ys.length:=by omega
    refine amGo ?_
    refine awp_cond amQ (fun h3 => ?_) (fun h3 => ?_)
    · refine amGo ?_
      (simp only [xe,simprocAttr];refine ⟨_,rfl,rfl,Imp.eq ?_⟩)
      have hne:xs≠ys:=by rintro rfl;simp at h3
      rw [decide_eq_false hne]
    · have h3:xs.getD k 0=ys.getD k 0:=by simpa using h3
      refine amGo ?_
      refine ⟨k+1,by omega,?_,by omega,.inl ?_⟩
      · rw [List.take_succ_eq_append_getElem hx,List.take_succ_eq_append_getElem hy,hk2]
        rw [List.getD_eq_getElem?_getD,List.getD_eq_getElem?_getD,List.getElem?_eq_getElem hx,List.getElem?_eq_getElem hy] at h3
        simp only [Option.getD_some] at h3
        rw [h3]
      · ((try simp only [xk]);(repeat (refine leK_cons ?_ ?_;first | (exact amE) | rotate_left));(try exact leK_nil rfl);(all_goals (try (simp only [xr,simprocAttr];try refine int_eq1 ?_))))
  · have h2:=of_decide_eq_false h2
    obtain rfl:k=xs.length:=by omega
    have he:xs=ys:=by
      rw [List.take_length,hl,List.take_length] at hk2
      exact hk2
    refine amGo ?_
    (simp only [xe,simprocAttr];refine ⟨_,rfl,rfl,Imp.eq ?_⟩)
    rw [decide_eq_true he]
end Go.Proofs.YtjblpcgkffhgfaaGreat
