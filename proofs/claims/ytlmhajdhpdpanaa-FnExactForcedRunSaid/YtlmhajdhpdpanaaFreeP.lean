/- Sums and least numbers over the first numbers; the best cost by independent draws: the plain laws. Conditions: none. -/
import Derived.Test.YtlmhajdhpdpanaaOA
import Derived.Test.YtlmhajdhpdpanaaListP
set_option linter.all false
set_option linter.unusedSimpArgs false
set_option linter.unusedVariables false
namespace Go.Proofs.Ytlmhajdhpdpanaa

def sumTo (f : Nat → Int) : Nat → Int
  | 0 => 0
  | n + 1 => sumTo f n + f n
/-- the least of f over the numbers below n that p takes, from 2^60 down -/
def minTo (p : Nat → Bool) (f : Nat → Int) : Nat → Int
  | 0 => 1152921504606846976
  | n + 1 => if p n then min (minTo p f n) (f n) else minTo p f n
/-- the same, from the first that is taken; -1: none yet -/
def minS (p : Nat → Bool) (f : Nat → Int) : Nat → Int
  | 0 => -1
  | n + 1 => if p n then (if minS p f n < 0 ∨ f n < minS p f n then f n else minS p f n) else minS p f n
theorem minS_eq {p : Nat → Bool} {f : Nat → Int} {n : Nat} (h : ∀ y, y < n → p y = true → 0 ≤ f y ∧ f y ≤ 1152921504606846976) :
    (minS p f n = -1 ∧ minTo p f n = 1152921504606846976 ∧ ∀ y, y < n → p y = false) ∨ (minS p f n = minTo p f n ∧ 0 ≤ minTo p f n ∧ minTo p f n ≤ 1152921504606846976 ∧ ∃ y, y < n ∧ p y = true ∧ minTo p f n ≤ f y) := by
  induction n with
  | zero => exact .inl ⟨rfl, rfl, fun y hy => by omega⟩
  | succ n ih =>
    have ih := ih fun y hy => h y (by omega)
    cases hp : p n with
    | false =>
      rcases ih with ⟨h1, h2, h3⟩ | ⟨h1, h2, h3, y, h4, h5, h6⟩
      · refine .inl ⟨by simp [minS, hp, h1], by simp [minTo, hp, h2], fun y hy => ?_⟩
        rcases Nat.lt_or_ge y n with h4 | h4
        · exact h3 y h4
        · rw [show y = n by omega]; exact hp
      · exact .inr ⟨by simp [minS, minTo, hp, h1], by simp [minTo, hp, h2], by simp [minTo, hp, h3], y, by omega, h5, by simp [minTo, hp, h6]⟩
    | true =>
      have hn := h n (by omega) hp
      rcases ih with ⟨h1, h2, h3⟩ | ⟨h1, h2, h3, y, h4, h5, h6⟩
      · have e1 : minS p f (n + 1) = f n := by simp [minS, hp, h1]
        have e2 : minTo p f (n + 1) = f n := by simp only [minTo, hp, if_true, h2]; omega
        exact .inr ⟨by rw [e1, e2], by omega, by omega, n, by omega, hp, by omega⟩
      · have e2 : minTo p f (n + 1) = min (minTo p f n) (f n) := by simp only [minTo, hp, if_true]
        have e1 : minS p f (n + 1) = min (minTo p f n) (f n) := by
          simp only [minS, hp, if_true, h1]
          by_cases hc : minTo p f n < 0 ∨ f n < minTo p f n
          · rw [if_pos hc]; omega
          · rw [if_neg hc]; omega
        exact .inr ⟨by rw [e1, e2], by rw [e2]; omega, by rw [e2]; omega, n, by omega, hp, by rw [e2]; omega⟩
/-- the least cost of k further requests from state x, times the weights' sum to the power k -/
def freeM (m s : List (List Int)) (ws : List Int) : Nat → Nat → Int
  | 0, _ => 0
  | k + 1, x => sumTo (fun r => ws.getD r 0 * minTo (fun y => decide (0 ≤ at2 s r y)) (fun y => ws.sum ^ k * (at2 m x y + at2 s r y) + freeM m s ws k y) m.length) s.length
end Go.Proofs.Ytlmhajdhpdpanaa
