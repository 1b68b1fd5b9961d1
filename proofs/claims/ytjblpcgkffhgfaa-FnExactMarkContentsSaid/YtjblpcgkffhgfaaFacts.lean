/- What every law's row asks of the program, laws apart. Conditions: none. -/
import Derived.Test.YtjblpcgkffhgfaaRows
import Derived.Test.YtjblpcgkffhgfaaLawEnd
set_option linter.all false
set_option linter.unusedSimpArgs false
set_option linter.unusedVariables false
namespace Go.Proofs.Ytjblpcgkffhgfaa
open Go

theorem mayF:Try.prog.mayEnter=true:=by kernel_rfl
theorem liftF:Try.prog.liftsFinal=Rows.fnExactMarkFaultsRow.lifted:=by kernel_rfl
theorem makeF:Try.prog.make=some Rows.fnExactMarkFaultsRow.make:=by kernel_rfl
theorem laidF:laidOutB Try.prog=true:=by kernel_rfl
theorem mapsF:mapsRowed Try.prog=true:=by kernel_rfl
end Go.Proofs.Ytjblpcgkffhgfaa
