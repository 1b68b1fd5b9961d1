/- Problems: is a table of moves a metric, and are moves and serving costs a Problem, by the program's and the reference's functions. Conditions: none. -/
import Derived.Test.YtpihfeganpdjiaaPT
set_option linter.all false
set_option linter.unusedSimpArgs false
set_option linter.unusedVariables false
namespace Go.Proofs.Ytpihfeganpdjiaa
open Go.RowKit

def metB (m : List (List Int)) : Bool := tableB m && noDet m
/-- are the costs of a request right, for n states -/
def reqB (n : Nat) (row : List Int) : Bool := (row.length == n) && allIn (-1) 20 row && row.any fun c => decide (0 ≤ c)
def probB (m s : List (List Int)) : Bool := rng m.length 1 4 && metB m && rng s.length 1 4 && s.all (reqB m.length)

theorem any_nonneg (x : Int) (xs : List Int) : (x :: xs).any (fun c => decide (0 ≤ c)) = decide (0 ≤ greatest x xs) := by
  induction xs generalizing x with
  | nil => simp only [greatest, List.any_cons, List.any_nil, Bool.or_false, List.foldl_nil]; exact decide_eq_decide.2 Iff.rfl
  | cons y xs ih =>
    have h := ih (max x y)
    show _ = decide (0 ≤ greatest (max x y) xs)
    rw [← h]
    simp only [List.any_cons]
    by_cases h1 : 0 ≤ x <;> by_cases h2 : 0 ≤ y <;> simp [h1, h2] <;> omega
/-! ### Problems -/
def ProbIn (w : World) (v : Value) (m s : List (List Int)) : Prop := ∃ u1 u2, v = .agg #[u1, u2] ∧ SlII w u1 m ∧ SlII w u2 s
theorem ProbIn.below {w w' : World} {v : Value} {m s : List (List Int)} (h : ProbIn w v m s) (hb : Below w.heap.size w w') : ProbIn w' v m s := by
  obtain ⟨u1, u2, e, h1, h2⟩ := h
  exact ⟨u1, u2, e, SlII.below h1 hb, SlII.below h2 hb⟩
theorem probB_1 {m s : List (List Int)} (h : rng m.length 1 4 = false) : probB m s = false := by unfold probB; rw [h]; rfl
theorem probB_2 {m s : List (List Int)} (h : metB m = false) : probB m s = false := by unfold probB; rw [h]; simp
theorem probB_3 {m s : List (List Int)} (h : rng s.length 1 4 = false) : probB m s = false := by unfold probB; rw [h]; simp
theorem probB_4 {m s : List (List Int)} (h1 : rng m.length 1 4 = true) (h2 : metB m = true) (h3 : rng s.length 1 4 = true) : probB m s = s.all (reqB m.length) := by unfold probB; rw [h1, h2, h3]; rfl

end Go.Proofs.Ytpihfeganpdjiaa
/- Problems, by the reference's functions. Conditions: none. -/
set_option linter.all false
set_option linter.unusedSimpArgs false
set_option linter.unusedVariables false
namespace Go.Proofs.Ytpihfeganpdjiaa
open Go.RowKit

def canAny (xs : List Int) (k : Nat) : Bool := (xs.take k).any fun c => decide (0 ≤ c)
theorem canAny_succ (xs : List Int) (k : Nat) (h : k < xs.length) : canAny xs (k + 1) = (canAny xs k || decide (0 ≤ xs[k])) := by
  unfold canAny
  rw [List.take_succ_eq_append_getElem h, List.any_append]
  simp only [List.any_cons, List.any_nil, Bool.or_false]

end Go.Proofs.Ytpihfeganpdjiaa
