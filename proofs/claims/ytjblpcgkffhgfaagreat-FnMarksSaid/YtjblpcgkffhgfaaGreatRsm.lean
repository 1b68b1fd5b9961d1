/- The laws' small functions on sizes and lists, on the machine. Conditions: none. -/
import Derived.Test.YtjblpcgkffhgfaaGreatKitG
import Derived.Test.YtjblpcgkffhgfaaGreatGCT
set_option linter.all false
set_option linter.unusedSimpArgs false
set_option linter.unusedVariables false
namespace Go.Proofs.YtjblpcgkffhgfaaGreat
open Go Go.RowKit Am

theorem rBig_d (bs:List Int):Does Tryz.prog 6 [.lf (.b (.raw bs))] (.imm (.bool (decide (65536<(bs.length:Int))))):=by
  refine spec_imm Tryz.func6 rfl Tryz.ntmps6 cfOK (fun _ _=>by kernel_rfl) rfl (Nat.le_of_ble_eq_true rfl) ?_
  intro M0 w0
  rw [Tryz.results6]
  refine amGo ?_
  (simp only [xe,simprocAttr];refine ⟨_,rfl,rfl,Imp.eq ?_⟩)
  rfl
end Go.Proofs.YtjblpcgkffhgfaaGreat
