/- The laws' small functions on sizes and lists, on the machine. Conditions: none. -/
import Derived.Test.YtlhdeofkhajigaaGreatGAX
import Derived.Test.YtlhdeofkhajigaaGreatGCT
set_option linter.all false
set_option linter.unusedSimpArgs false
set_option linter.unusedVariables false
namespace Go.Proofs.YtlhdeofkhajigaaGreat
open Go Go.RowKit Am

theorem rBig_d (bs:List Int):Does Tryz.prog 6 [.lf (.b (.raw bs))] (.imm (.bool (decide (65536<(bs.length:Int))))):=by
  refine spec_imm Tryz.func6 rfl Tryz.ntmps6 cfOK (fun _ _=>by kernel_rfl) rfl (Nat.le_of_ble_eq_true rfl) ?_
  intro M0 w0
  rw [Tryz.results6]
  refine amGo ?_
  (simp only [xe,simprocAttr];refine ⟨_,rfl,rfl,Imp.eq ?_⟩)
  rfl
theorem rInts_s (xs:List Int):Does Tryz.prog 24 [.sl (.ints xs),.sl (.ints xs)] (.imm (.bool true)):=by
  refine spec_imm Tryz.func24 rfl Tryz.ntmps24 cfOK (fun _ _=>by kernel_rfl) rfl (Nat.le_of_ble_eq_true rfl) ?_
  intro M0 w0
  rw [Tryz.results24]
  (refine awp_fits 0 rfl fun hf => ?_;simp only [xp,simprocAttr] at hf;simp only [xf,simprocAttr] at hf)
  refine amGo ?_
  refine awp_cond amQ (fun hc => ?_) (fun hc => ?_)
  · simp at hc
  refine amGo ?_
  refine awp_rounds (α:=Nat) (fun k=>[(5,true,.int k)]) [0,1] (fun _=>[]) (fun k=>k≤xs.length) (fun k=>xs.length-k) 0 (by ((try simp only [xk]);(repeat (refine leK_cons ?_ ?_;first | (exact amE) | rotate_left));(try exact leK_nil rfl);(all_goals (try (simp only [xr,simprocAttr];try refine int_eq1 ?_))))) (Nat.zero_le _) fun k hk => ?_
  simp only [xr,simprocAttr]
  refine amGo ?_
  refine awp_cond amQ (fun hd => ?_) (fun hd => ?_)
  · have hd:=of_decide_eq_true hd
    have hk':k<xs.length:=by omega
    refine amGo ?_
    refine awp_cond amQ (fun he => ?_) (fun he => ?_)
    · simp at he
    · refine amGo ?_
      refine ⟨k+1,by omega,by omega,.inl ?_⟩
      ((try simp only [xk]);(repeat (refine leK_cons ?_ ?_;first | (exact amE) | rotate_left));(try exact leK_nil rfl);(all_goals (try (simp only [xr,simprocAttr];try refine int_eq1 ?_))))
  · refine amGo ?_
    (simp only [xe,simprocAttr];refine ⟨_,rfl,rfl,Imp.eq ?_⟩)
    rfl
end Go.Proofs.YtlhdeofkhajigaaGreat
