/- slices.Delete of one number: it turns an own row in place. Conditions: a place in the row. -/
import Derived.Shelf.Slices.Delete
import Derived.Test.YtobhlnaogbadjaaDel
set_option linter.all false
set_option linter.unusedSimpArgs false
set_option linter.unusedVariables false
namespace Go.Proofs.Ytobhlnaogbadjaa
open Go Go.RowKit Go.Shelf Go.Sort Am

def del1Ren : Ren := ⟨fun n => if n = 23 then 86 else 0, fun n => if n = 0 then 0 else if n = 3 then 3 else if n = 4 then 4 else if n = 22 then 22 else 0, fun _ => 0⟩
theorem del1Lays : Lays2.n23 Try.prog del1Ren where
  mixed := by kernel_rfl
  f23 := by kernel_rfl
  t0 := by kernel_rfl
  a0 := fun _ => by kernel_rfl
  z0 := fun _ => by kernel_rfl
  v0 := fun _ => by kernel_rfl
  t3 := by kernel_rfl
  a3 := fun _ => by kernel_rfl
  z3 := fun _ => by kernel_rfl
  v3 := fun _ => by kernel_rfl
  t4 := by kernel_rfl
  a4 := fun _ => by kernel_rfl
  z4 := fun _ => by kernel_rfl
  v4 := fun _ => by kernel_rfl
  t22 := by kernel_rfl
  a22 := fun _ => by kernel_rfl
  z22 := fun _ => by kernel_rfl
  v22 := fun _ => by kernel_rfl
  i3 := by kernel_rfl
theorem delete_h (xs : List Int) (i : Nat) (hi : i < xs.length) : DoesH Try.prog 86 [.lf (.own 0), .int i, .int ((i : Int) + 1)] [] [.row 3 (.ints xs)] (.lf (.own 0)) [.row 3 (.ints (xs.eraseIdx i))] := by
  have hl : (xs.eraseIdx i).length = xs.length - 1 := List.length_eraseIdx_of_lt hi
  refine doesH_turn (args := [.int i, .int ((i : Int) + 1)]) true (fun _ _ => by kernel_rfl) rfl (by omega) (fun h => by cases h) (fun hx M w us hm ha => ?_) (fun M w us hm ha g cap cur hg hoff h1 h2 h3 h4 => ?_)
  · subst hx
    exact absurd hi (Nat.not_lt_zero _)
  · obtain ⟨u, us', rfl, ha1, ha2⟩ := args_inv ha
    obtain ⟨u2, us2, rfl, ha3, ha4⟩ := args_inv ha2
    obtain rfl := args_inv0 ha4
    have ha1 : u = .int .i64 i := ha1
    have ha3 : u2 = .int .i64 ((i : Int) + 1) := ha3
    subst ha1
    subst ha3
    have hmx : maxLen ≤ 9223372036854775807 := by decide
    have e1 : xs.length - (i + 1 - i) = xs.length - 1 := by omega
    have e2 : xs.take i ++ xs.drop (i + 1) = xs.eraseIdx i := (List.eraseIdx_eq_take_drop_succ _ _).symm
    have H := Any.slices_Delete_int del1Lays g 0 cap i (i + 1) xs w (holds_row hg h4) h1 (by omega) (by omega) (by omega)
    rw [e1, e2, show (((i + 1 : Nat)) : Int) = (i : Int) + 1 by omega] at H
    refine H.mono ?_
    rintro ex w' ⟨rfl, q, hw⟩
    have hw' : w' = grow (putRow (Value.int .i64) (Sort.ahead w q) g 0 (xs.eraseIdx i ++ List.replicate (i + 1 - i) 0).toArray) #[] := by rw [hw, grow_empty]
    obtain ⟨k1, cur', k2, k3, k4⟩ := put_row hg (by rw [List.length_append, List.length_replicate, hl, h3]; omega) hw'
    refine ⟨by rw [hl]; rfl, k1, cur', k2, by omega, ?_⟩
    rw [k4 _ (by simp)]
    simp
end Go.Proofs.Ytobhlnaogbadjaa
