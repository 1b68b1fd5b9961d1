/- What every law's row asks of the program, laws apart. Conditions: none. -/
import Derived.Test.YtlhdeofkhajigaaGreatRows
import Derived.Test.YtlhdeofkhajigaaGreatLawEnd
set_option linter.all false
set_option linter.unusedSimpArgs false
set_option linter.unusedVariables false
namespace Go.Proofs.YtlhdeofkhajigaaGreat
open Go

theorem mayF:Tryz.prog.mayEnter=true:=by kernel_rfl
theorem liftF:Tryz.prog.liftsFinal=Rows.fnPotentialsRow.lifted:=by kernel_rfl
theorem makeF:Tryz.prog.make=some Rows.fnPotentialsRow.make:=by kernel_rfl
theorem laidF:laidOutB Tryz.prog=true:=by kernel_rfl
theorem mapsF:mapsRowed Tryz.prog=true:=by kernel_rfl
end Go.Proofs.YtlhdeofkhajigaaGreat
