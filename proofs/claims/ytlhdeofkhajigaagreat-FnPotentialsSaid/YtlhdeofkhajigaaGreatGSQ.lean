/- All sequences of a length of numbers below a bound, in lexicographic order: the plain laws. Conditions: a bound of at least 1. -/
import Derived.Test.YtlhdeofkhajigaaGreatListP
set_option linter.all false
set_option linter.unusedSimpArgs false
set_option linter.unusedVariables false
namespace Go.Proofs.YtlhdeofkhajigaaGreat

/-- digit s of k, the last one being digit 0 -/
def digS (b k s:Nat):Nat:=k / b ^ s % b
/-- the k-th sequence -/
def sq (b n k:Nat):List Int:=(List.range n).map fun (i:Nat)=>((digS b k (n-1-i):Nat):Int)
/-- the first sequence with a property -/
def firstS (b n:Nat) (p:List Int→Bool):Option (List Int):=((List.range (b ^ n)).find? fun k=>p (sq b n k)).map (sq b n)
end Go.Proofs.YtlhdeofkhajigaaGreat
/- The first good sequence, found digit by digit. No program here. -/
set_option linter.all false
set_option linter.unusedSimpArgs false
set_option linter.unusedVariables false
namespace Go.Proofs.YtlhdeofkhajigaaGreat

end Go.Proofs.YtlhdeofkhajigaaGreat
