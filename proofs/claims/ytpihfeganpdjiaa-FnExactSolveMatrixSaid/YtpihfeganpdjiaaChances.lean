/- Sequences of requests and chances: are they right for a problem, by the program's functions. Conditions: none. -/
import Derived.Test.YtpihfeganpdjiaaPS
set_option linter.all false
set_option linter.unusedSimpArgs false
set_option linter.unusedVariables false
namespace Go.Proofs.Ytpihfeganpdjiaa
open Go.RowKit

/-- is a sequence of requests right, for n kinds -/
def seqB (n : Nat) (xs : List Int) : Bool := decide (xs.length ≤ 60) && allIn 0 ((n : Int) - 1) xs
def ChIn (w : World) (v : Value) (ws : List Int) (qs : List (List Int)) : Prop := ∃ u1 u2, v = .agg #[u1, u2] ∧ SlI w u1 ws ∧ SlII w u2 qs
theorem ChIn.below {w w' : World} {v : Value} {ws : List Int} {qs : List (List Int)} (h : ChIn w v ws qs) (hb : Below w.heap.size w w') : ChIn w' v ws qs := by
  obtain ⟨u1, u2, e, h1, h2⟩ := h
  exact ⟨u1, u2, e, SlI.below h1 hb, SlII.below h2 hb⟩
/-- is a drawn sequence right, for n kinds and length l -/
def drawnB (n l : Nat) (xs : List Int) : Bool := decide (xs.length ≤ 6) && (xs.length == l) && seqB n xs
def chB (n : Nat) (ws : List Int) (qs : List (List Int)) : Bool := rng qs.length 1 12 && (ws.length == qs.length) && allIn 1 9 ws && qs.all (drawnB n (headLen qs))

theorem headLen_eq {qs : List (List Int)} (h : 0 < qs.length) : headLen qs = (qs[0]).length := by
  unfold headLen
  cases qs with
  | nil => simp at h
  | cons x xs => rfl

end Go.Proofs.Ytpihfeganpdjiaa
