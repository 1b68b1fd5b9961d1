/- Sequences of requests, by the reference's function. Conditions: none. -/
import Derived.Test.YtpihfeganpdjiaaPS
import Derived.Test.YtpihfeganpdjiaaChances
import Derived.IntWalk
set_option linter.all false
set_option linter.unusedSimpArgs false
set_option linter.unusedVariables false
namespace Go.Proofs.Ytpihfeganpdjiaa
open Go.RowKit

def takesB (m s : List (List Int)) (start : Int) (xs : List Int) : Bool := probB m s && rng start 0 ((m.length : Int) - 1) && seqB s.length xs

end Go.Proofs.Ytpihfeganpdjiaa
