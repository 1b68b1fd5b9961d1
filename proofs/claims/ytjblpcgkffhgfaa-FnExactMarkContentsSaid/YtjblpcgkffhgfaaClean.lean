/- CleanCounts of the program and of the reference, on the machine. Conditions: those that each names. -/
import Derived.Test.YtjblpcgkffhgfaaPhase
set_option linter.all false
set_option linter.unusedSimpArgs false
set_option linter.unusedVariables false
namespace Go.Proofs.Ytjblpcgkffhgfaa
open Go Go.RowKit Am

theorem szB_bif (n size:Int) (xs:List Int):(bif !rng size 1 6 then true else !rqB n xs) = !szB n size xs:=by
  unfold szB
  cases rng size 1 6<;>rfl
end Go.Proofs.Ytjblpcgkffhgfaa
