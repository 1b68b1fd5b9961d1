/- 'within' of the program and 'l1In' of the reference: is a number in a range. Conditions: none. -/
import Derived.Test.YtlhdeofkhajigaaProg
import Derived.Test.YtlhdeofkhajigaaBase
set_option linter.all false
set_option linter.unusedSimpArgs false
set_option linter.unusedVariables false
namespace Go.Proofs.Ytlhdeofkhajigaa
open Go.RowKit

/-- is n in lo..hi -/
def rng (n lo hi : Int) : Bool := decide (lo ≤ n ∧ n ≤ hi)
theorem rng_yes {n lo hi : Int} (h1 : lo ≤ n) (h2 : n ≤ hi) : rng n lo hi = true := decide_eq_true ⟨h1, h2⟩
theorem rng_no {n lo hi : Int} (h : n < lo ∨ hi < n) : rng n lo hi = false := decide_eq_false (by omega)
theorem rng_iff {n lo hi : Int} : rng n lo hi = true ↔ lo ≤ n ∧ n ≤ hi := by simp [rng]
theorem rng_iff_no {n lo hi : Int} : rng n lo hi = false ↔ n < lo ∨ hi < n := by simp [rng]; omega

theorem within_any (w : World) (n lo hi : Int) : Calls Try.prog 88 #[.int .i64 n, .int .i64 lo, .int .i64 hi] w fun e w' => e = .returned (.bool (rng n lo hi)) ∧ w = w' := by
  by_cases h1 : lo ≤ n
  · by_cases h2 : n ≤ hi
    · have hd : decide (n ≤ hi) = true := by simpa using h2
      rw [rng_yes h1 h2]
      go_enter Try.func88, Try.ntmps88
      go_wp2
      go_ret
      exact ⟨by simp, rfl⟩
    · have hd : decide (n ≤ hi) = false := by simpa using h2
      rw [rng_no (.inr (by omega))]
      go_enter Try.func88, Try.ntmps88
      go_wp2
      go_ret
      exact ⟨by simp, rfl⟩
  · have hd : decide (lo ≤ n) = false := by simpa using h1
    rw [rng_no (.inl (by omega))]
    go_enter Try.func88, Try.ntmps88
    go_wp2
    go_ret
    exact ⟨by simp, rfl⟩
theorem within_yes (w : World) (n lo hi : Int) (h1 : lo ≤ n) (h2 : n ≤ hi) : Calls Try.prog 88 #[.int .i64 n, .int .i64 lo, .int .i64 hi] w fun e w' => e = .returned (.bool true) ∧ w = w' :=
  (within_any w n lo hi).mono fun _ _ ⟨h, h'⟩ => ⟨by rw [h, rng_yes h1 h2], h'⟩
theorem within_no (w : World) (n lo hi : Int) (h : n < lo ∨ hi < n) : Calls Try.prog 88 #[.int .i64 n, .int .i64 lo, .int .i64 hi] w fun e w' => e = .returned (.bool false) ∧ w = w' :=
  (within_any w n lo hi).mono fun _ _ ⟨h1, h'⟩ => ⟨by rw [h1, rng_no h], h'⟩
theorem l1In_any (w : World) (n lo hi : Int) : Calls Try.prog 72 #[.int .i64 n, .int .i64 lo, .int .i64 hi] w fun e w' => e = .returned (.bool (rng n lo hi)) ∧ w = w' := by
  by_cases h1 : lo ≤ n
  · by_cases h2 : n ≤ hi
    · have hd : decide (n ≤ hi) = true := by simpa using h2
      rw [rng_yes h1 h2]
      go_enter Try.func72, Try.ntmps72
      go_wp2
      go_ret
      exact ⟨by simp, rfl⟩
    · have hd : decide (n ≤ hi) = false := by simpa using h2
      rw [rng_no (.inr (by omega))]
      go_enter Try.func72, Try.ntmps72
      go_wp2
      go_ret
      exact ⟨by simp, rfl⟩
  · have hd : decide (lo ≤ n) = false := by simpa using h1
    rw [rng_no (.inl (by omega))]
    go_enter Try.func72, Try.ntmps72
    go_wp2
    go_ret
    exact ⟨by simp, rfl⟩
theorem l1In_yes (w : World) (n lo hi : Int) (h1 : lo ≤ n) (h2 : n ≤ hi) : Calls Try.prog 72 #[.int .i64 n, .int .i64 lo, .int .i64 hi] w fun e w' => e = .returned (.bool true) ∧ w = w' :=
  (l1In_any w n lo hi).mono fun _ _ ⟨h, h'⟩ => ⟨by rw [h, rng_yes h1 h2], h'⟩
theorem l1In_no (w : World) (n lo hi : Int) (h : n < lo ∨ hi < n) : Calls Try.prog 72 #[.int .i64 n, .int .i64 lo, .int .i64 hi] w fun e w' => e = .returned (.bool false) ∧ w = w' :=
  (l1In_any w n lo hi).mono fun _ _ ⟨h1, h'⟩ => ⟨by rw [h1, rng_no h], h'⟩
end Go.Proofs.Ytlhdeofkhajigaa
