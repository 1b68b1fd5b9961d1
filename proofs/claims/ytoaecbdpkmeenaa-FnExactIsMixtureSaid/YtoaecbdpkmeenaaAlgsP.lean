/- Algorithms, mixtures: the plain laws. Conditions: none. -/
import Derived.Test.YtoaecbdpkmeenaaMetricP
import Derived.Test.YtoaecbdpkmeenaaWeights
namespace Go.Proofs.Ytoaecbdpkmeenaa

/-- may a move of request r go to state x, for n states -/
def toOk (n : Nat) (s : List (List Int)) (r : Nat) (x : Int) : Bool := rng x 0 ((n : Int) - 1) && decide (0 ≤ at2 s r x.toNat)
/-- is a row of moves right -/
def servB (n : Nat) (s : List (List Int)) (row : List Int) : Bool := (row.length == s.length) && allLt row.length fun r => toOk n s r (row.getD r 0)
def algB (m s : List (List Int)) (next : List (List Int)) : Bool := (next.length == m.length) && next.all (servB m.length s)
def mixB (m s : List (List Int)) (ws : List Int) (ns : List (List (List Int))) (most : Int) : Bool := rng ns.length 1 most && (ws.length == ns.length) && allIn 1 9 ws && ns.all (algB m s)

theorem servB_no {n : Nat} {s : List (List Int)} {row : List Int} {r : Nat} (hr : r < row.length) (h : toOk n s r row[r] = false) : servB n s row = false := by
  unfold servB
  rw [allLt_no hr (by rw [List.getD_eq_getElem?_getD, List.getElem?_eq_getElem hr]; exact h)]
  simp
theorem servB_len {n : Nat} {s : List (List Int)} {row : List Int} (h : row.length ≠ s.length) : servB n s row = false := by unfold servB; simp [h]
theorem servB_yes {n : Nat} {s : List (List Int)} {row : List Int} (h : row.length = s.length) (h2 : ∀ r (hr : r < row.length), toOk n s r row[r] = true) : servB n s row = true := by
  unfold servB
  rw [allLt_iff.2 fun r hr => by rw [List.getD_eq_getElem?_getD, List.getElem?_eq_getElem hr]; exact h2 r hr]
  simp [h]
theorem algB_len {m s next : List (List Int)} (h : next.length ≠ m.length) : algB m s next = false := by unfold algB; simp [h]
theorem algB_yes {m s next : List (List Int)} (h : next.length = m.length) : algB m s next = next.all (servB m.length s) := by unfold algB; simp [h]
end Go.Proofs.Ytoaecbdpkmeenaa
