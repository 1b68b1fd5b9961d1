/- slices.Max and slices.Min of own and other slices of ints, on the machine. Conditions: slices that are not empty. -/
import Derived.Test.YtkcelmnbfbehbaaMD
set_option linter.all false
set_option linter.unusedSimpArgs false
set_option linter.unusedVariables false
namespace Go.Proofs.Ytkcelmnbfbehbaa
open Go Go.RowKit Am

def mxN (w:List Int):Nat→Int
  | 0=>w.getD 0 0
  | k+1=>max (mxN w k) (w.getD (k+1) 0)
theorem sliceMaxQ_d (w:List Int) (hw:0<w.length):Does Try.prog 49 [.sl (.ints w)] (.imm (.int (mxN w (w.length-1)))):=by
  refine spec_imm Try.func49 rfl Try.ntmps49 cfOK (fun _ _=>by kernel_rfl) rfl (Nat.le_of_ble_eq_true rfl) ?_
  intro M0 w0
  rw [Try.results49]
  (refine awp_fits 0 rfl fun hf => ?_;simp only [xp,simprocAttr] at hf;simp only [xf,simprocAttr] at hf)
  refine amGo ?_
  refine awp_cond amQ (fun hq => ?_) (fun hq => ?_)
  · have hq:=of_decide_eq_true hq
    omega
  refine amGo ?_
  refine awp_rounds (α:=Nat) (fun k=>[(3,true,.int (mxN w k)),(4,true,.int ((k:Int)+1))]) [0] (fun _=>[]) (fun k=>k≤w.length-1) (fun k=>w.length-1-k) 0 (by ((try simp only [xk]);(repeat (refine leK_cons ?_ ?_;first | (exact amE) | rotate_left));(try exact leK_nil rfl);(all_goals (try (simp only [xr,simprocAttr];try refine int_eq1 ?_))))) (Nat.zero_le _) fun k hk => ?_
  simp only [xr,simprocAttr]
  refine amGo ?_
  refine awp_cond amQ (fun hc => ?_) (fun hc => ?_)
  · have hc:=of_decide_eq_true hc
    have hk':k+1<w.length:=by omega
    refine amGo ?_
    refine ⟨k+1,by omega,by omega,.inl ?_⟩
    ((try simp only [xk]);(repeat (refine leK_cons ?_ ?_;first | (exact amE) | rotate_left));(try exact leK_nil rfl);(all_goals (try (simp only [xr,simprocAttr];try refine int_eq1 ?_))))
  · have hc:=of_decide_eq_false hc
    have hk':k=w.length-1:=by omega
    subst hk'
    refine amGo ?_
    (simp only [xe,simprocAttr];refine ⟨_,rfl,rfl,Imp.eq ?_⟩)
    rfl
end Go.Proofs.Ytkcelmnbfbehbaa
