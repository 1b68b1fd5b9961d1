/- What every law's row asks of the program, laws apart. Conditions: none. -/
import Derived.Test.YtkcelmnbfbehbaaRows
import Derived.Test.YtkcelmnbfbehbaaLawEnd
set_option linter.all false
set_option linter.unusedSimpArgs false
set_option linter.unusedVariables false
namespace Go.Proofs.Ytkcelmnbfbehbaa
open Go

theorem mayF:Try.prog.mayEnter=true:=by kernel_rfl
theorem liftF:Try.prog.liftsFinal=Rows.fnExactFindCreditRow.lifted:=by kernel_rfl
theorem makeF:Try.prog.make=some Rows.fnExactFindCreditRow.make:=by kernel_rfl
theorem laidF:laidOutB Try.prog=true:=by kernel_rfl
theorem mapsF:mapsRowed Try.prog=true:=by kernel_rfl
end Go.Proofs.Ytkcelmnbfbehbaa
