/- What every law's row asks of the program, laws apart. Conditions: none. -/
import Derived.Test.YtcllhjdohiklkaaDoorRows
import Derived.Test.YtcllhjdohiklkaaDoorLawEnd
set_option linter.all false
set_option linter.unusedSimpArgs false
set_option linter.unusedVariables false
namespace Go.Proofs.YtcllhjdohiklkaaDoor
open Go

theorem mayF : Tryd.prog.mayEnter = true := by kernel_rfl
theorem liftF : Tryd.prog.liftsFinal = Rows.fnExactEncodeRecordRow.lifted := by kernel_rfl
theorem makeF : Tryd.prog.make = some Rows.fnExactEncodeRecordRow.make := by kernel_rfl
theorem laidF : laidOutB Tryd.prog = true := by kernel_rfl
theorem mapsF : mapsRowed Tryd.prog = true := by kernel_rfl
end Go.Proofs.YtcllhjdohiklkaaDoor
