/- What every law's row asks of the program, laws apart. Conditions: none. -/
import Derived.Test.YtjblpcgkffhgfaaGreatRows
import Derived.Test.YtjblpcgkffhgfaaGreatLawEnd
set_option linter.all false
set_option linter.unusedSimpArgs false
set_option linter.unusedVariables false
namespace Go.Proofs.YtjblpcgkffhgfaaGreat
open Go

theorem mayF:Tryz.prog.mayEnter=true:=by kernel_rfl
theorem liftF:Tryz.prog.liftsFinal=Rows.fnMarksRow.lifted:=by kernel_rfl
theorem makeF:Tryz.prog.make=some Rows.fnMarksRow.make:=by kernel_rfl
theorem laidF:laidOutB Tryz.prog=true:=by kernel_rfl
theorem mapsF:mapsRowed Tryz.prog=true:=by kernel_rfl
end Go.Proofs.YtjblpcgkffhgfaaGreat
