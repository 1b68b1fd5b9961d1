/- The reference's uniform tables and lines, and what its requests are, on the machine. Conditions: small numbers. -/
import Derived.Test.YtjblpcgkffhgfaaGreatGCU
import Derived.Test.YtjblpcgkffhgfaaGreatME
import Derived.Test.YtjblpcgkffhgfaaGreatPS
import Derived.Test.YtjblpcgkffhgfaaGreatKitG
set_option linter.all false
set_option linter.unusedSimpArgs false
set_option linter.unusedVariables false
namespace Go.Proofs.YtjblpcgkffhgfaaGreat
open Go Go.RowKit Am

theorem l1Most_e (a b:Int):Does Tryz.prog 113 [.int a,.int b] (.imm (.int (max a b))):=by
  refine spec_imm Tryz.func113 rfl Tryz.ntmps113 cfOK (fun _ _=>by kernel_rfl) rfl (Nat.le_of_ble_eq_true rfl) ?_
  intro M0 w0
  rw [Tryz.results113]
  refine amGo ?_
  refine awp_cond amQ (fun hc => ?_) (fun hc => ?_)
  · have:=of_decide_eq_true hc
    refine amGo ?_
    (simp only [xe,simprocAttr];refine ⟨_,rfl,rfl,Imp.eq ?_⟩)
    rw [Int.max_eq_left (by omega)]
  · have:=of_decide_eq_false hc
    refine amGo ?_
    (simp only [xe,simprocAttr];refine ⟨_,rfl,rfl,Imp.eq ?_⟩)
    rw [Int.max_eq_right (by omega)]
end Go.Proofs.YtjblpcgkffhgfaaGreat
