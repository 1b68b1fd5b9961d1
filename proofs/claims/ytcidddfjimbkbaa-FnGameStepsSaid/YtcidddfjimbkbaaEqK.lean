/- The laws' likeness of arrays, and of slices of arrays, on the machine. Conditions: arrays of so many ints. -/
import Derived.Test.YtcidddfjimbkbaaME
set_option linter.all false
set_option linter.unusedSimpArgs false
set_option linter.unusedVariables false
namespace Go.Proofs.Ytcidddfjimbkbaa
open Go Go.RowKit Am

theorem lits : ((0 : Nat) : Int) = 0 ∧ ((1 : Nat) : Int) = 1 ∧ ((2 : Nat) : Int) = 2 ∧ ((3 : Nat) : Int) = 3 ∧ ((4 : Nat) : Int) = 4 ∧ ((5 : Nat) : Int) = 5 ∧ ((6 : Nat) : Int) = 6 := ⟨rfl, rfl, rfl, rfl, rfl, rfl, rfl⟩
end Go.Proofs.Ytcidddfjimbkbaa
