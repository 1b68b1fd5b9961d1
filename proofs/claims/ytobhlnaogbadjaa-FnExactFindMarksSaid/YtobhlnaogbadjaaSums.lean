/- Sums and greatest numbers, by the program's and the reference's functions. Conditions: no partial sum leaves the range of an int. -/
import Derived.Test.YtobhlnaogbadjaaOA
set_option linter.all false
set_option linter.unusedSimpArgs false
set_option linter.unusedVariables false
namespace Go.Proofs.Ytobhlnaogbadjaa
open Go.RowKit

theorem sum_take_succ (xs : List Int) (k : Nat) (h : k < xs.length) : (xs.take (k + 1)).sum = (xs.take k).sum + xs[k] := by
  rw [List.take_succ_eq_append_getElem h, List.sum_append]
  simp
theorem sum_bounds {xs : List Int} {B : Int} (h : ∀ x ∈ xs, 0 ≤ x ∧ x ≤ B) : 0 ≤ xs.sum ∧ xs.sum ≤ xs.length * B := by
  induction xs with
  | nil => simp
  | cons x xs ih =>
    have h1 := h x (by simp)
    have h2 := ih fun y hy => h y (by simp [hy])
    simp only [List.sum_cons, List.length_cons, Int.natCast_add, Int.add_mul]
    omega
/-- no partial sum leaves the range of an int -/
def SumFits (xs : List Int) : Prop := ∀ k, k ≤ xs.length → -9223372036854775808 ≤ (xs.take k).sum ∧ (xs.take k).sum ≤ 9223372036854775807
theorem sumFits_of {xs : List Int} {B : Int} (h : ∀ x ∈ xs, 0 ≤ x ∧ x ≤ B) (hB : xs.length * B ≤ 9223372036854775807) (hB0 : 0 ≤ B) : SumFits xs := fun k hk => by
  have h1 := sum_bounds (xs := xs.take k) (B := B) fun x hx => h x (List.mem_of_mem_take hx)
  have h2 : ((xs.take k).length : Int) * B ≤ xs.length * B := Int.mul_le_mul_of_nonneg_right (by simp; omega) hB0
  omega

/-- the greatest of some numbers and another one -/
def greatest (a : Int) (xs : List Int) : Int := xs.foldl max a
theorem greatest_take (a : Int) (xs : List Int) (k : Nat) (h : k < xs.length) : greatest a (xs.take (k + 1)) = max (greatest a (xs.take k)) xs[k] := by
  unfold greatest
  rw [List.take_succ_eq_append_getElem h, List.foldl_append]
  rfl
theorem greatest_mono (xs : List Int) : ∀ a : Int, a ≤ greatest a xs := by
  induction xs with
  | nil => exact fun a => Int.le_refl a
  | cons x xs ih => exact fun a => Int.le_trans (Int.le_max_left a x) (ih (max a x))
theorem greatest_max (xs : List Int) : ∀ a b : Int, greatest (max a b) xs = max a (greatest b xs) := by
  induction xs with
  | nil => exact fun _ _ => rfl
  | cons x xs ih =>
    intro a b
    show greatest (max (max a b) x) xs = max a (greatest (max b x) xs)
    rw [Int.max_assoc, ih]
/-- from the first on, or from 0 on where none is below 0: the same -/
theorem greatest_zero {x : Int} {xs : List Int} (h : 0 ≤ x) : greatest x xs = greatest 0 (x :: xs) := by
  show _ = greatest (max 0 x) xs
  rw [Int.max_eq_right h]

theorem l1Most_any (w : World) (a b : Int) : Calls Try.prog 60 #[.int .i64 a, .int .i64 b] w fun e w' => e = .returned (.int .i64 (max a b)) ∧ w = w' := by
  by_cases h : b < a
  · have e : max a b = a := Int.max_eq_left (by omega)
    rw [e]
    go_enter Try.func60, Try.ntmps60
    go_wp2
    go_ret
    exact ⟨rfl, rfl⟩
  · have e : max a b = b := Int.max_eq_right (by omega)
    rw [e]
    go_enter Try.func60, Try.ntmps60
    go_wp2
    go_ret
    exact ⟨rfl, rfl⟩
end Go.Proofs.Ytobhlnaogbadjaa
