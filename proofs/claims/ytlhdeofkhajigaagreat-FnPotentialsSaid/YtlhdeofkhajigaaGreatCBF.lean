/- The closure of FindCycle, on the machine. Conditions: edges that lead to pairs, and gains that are not large. -/
import Derived.Test.YtlhdeofkhajigaaGreatCB
set_option linter.all false
set_option linter.unusedSimpArgs false
set_option linter.unusedVariables false
namespace Go.Proofs.YtlhdeofkhajigaaGreat
open Go Go.RowKit Am

/-- a walk that leads back with a gain -/
def goodE (a:Int×Int) (E:List (List Int)) (K p:Nat) (rs:List Int):Bool:=decide ((afterE E K p rs:Int)=(p:Int)) && decide (0<gainE a E K p rs)
end Go.Proofs.YtlhdeofkhajigaaGreat
/- All sequences with the closure of FindCycle, on the machine. Conditions: edges that lead to pairs, and gains that are not large. -/
set_option linter.all false
set_option linter.unusedSimpArgs false
set_option linter.unusedVariables false
namespace Go.Proofs.YtlhdeofkhajigaaGreat
open Go Go.RowKit Am

end Go.Proofs.YtlhdeofkhajigaaGreat
