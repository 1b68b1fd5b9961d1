/- Is a list a matrix: by the program's and the reference's functions. Conditions: none. -/
import Derived.Test.YtlhdeofkhajigaaSums
set_option linter.all false
set_option linter.unusedSimpArgs false
set_option linter.unusedVariables false
namespace Go.Proofs.Ytlhdeofkhajigaa
open Go.RowKit

def areInB (r : List Int) (many lo hi : Int) : Bool := rng r.length 1 many && allIn lo hi r
def rowB (n : Nat) (r : List Int) : Bool := (r.length == n) && areInB r 3 0 40
def headLen (m : List (List Int)) : Nat := (m.headD []).length
def matB (m : List (List Int)) : Bool := rng m.length 1 3 && m.all (rowB (headLen m))

theorem not_any_not (lo hi : Int) (xs : List Int) : (!xs.any fun x => !rng x lo hi) = allIn lo hi xs := by
  unfold allIn
  rw [List.any_eq_not_all_not]
  simp

end Go.Proofs.Ytlhdeofkhajigaa
