/- FindCycle of the program, on the machine. Conditions: none. -/
import Derived.Test.YtlhdeofkhajigaaGreatGED
import Derived.Test.YtlhdeofkhajigaaGreatGSQ
import Derived.Test.YtlhdeofkhajigaaGreatCBF
import Derived.Test.YtlhdeofkhajigaaGreatGraph
set_option linter.all false
set_option linter.unusedSimpArgs false
set_option linter.unusedVariables false
namespace Go.Proofs.YtlhdeofkhajigaaGreat
open Go Go.RowKit Am

def findN (a:Int×Int) (E:List (List Int)) (K N n:Nat):Option (Nat×List Int):=(List.range N).findSome? fun p=>(firstS K n (goodE a E K p)).map fun w=>(p,w)
def findC (a:Int×Int) (E:List (List Int)) (K N:Nat):Option (Nat×List Int):=(List.range 6).findSome? fun i=>findN a E K N (i+1)
def cyc (m s nx:List (List Int)) (x:Int) (a:Int×Int):Option (Nat×List Int):=bif (prQ m s nx x).2 || !ratioB a then none else findC a (egs (prQ m s nx x).1.rows) s.length (prQ m s nx x).1.list.length
end Go.Proofs.YtlhdeofkhajigaaGreat
/- FindCycle of the reference, on the machine. Conditions: none. -/
set_option linter.all false
set_option linter.unusedSimpArgs false
set_option linter.unusedVariables false
namespace Go.Proofs.YtlhdeofkhajigaaGreat
open Go Go.RowKit Am

end Go.Proofs.YtlhdeofkhajigaaGreat
/- FindCycle of the reference, on the machine, and both as the law wants them. Conditions: none. -/
set_option linter.all false
set_option linter.unusedSimpArgs false
set_option linter.unusedVariables false
namespace Go.Proofs.YtlhdeofkhajigaaGreat
open Go Go.RowKit Am

end Go.Proofs.YtlhdeofkhajigaaGreat
