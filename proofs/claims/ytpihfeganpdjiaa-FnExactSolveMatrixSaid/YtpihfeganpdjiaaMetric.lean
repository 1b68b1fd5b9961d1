/- Metrics: is a table of distances one, by the program's function. Conditions: none. -/
import Derived.Test.YtpihfeganpdjiaaMatrix
import Derived.Test.YtpihfeganpdjiaaOA
set_option linter.all false
set_option linter.unusedSimpArgs false
set_option linter.unusedVariables false
namespace Go.Proofs.Ytpihfeganpdjiaa
open Go.RowKit

/-- a row of a square table, in memory -/
theorem rowAt {w : World} {ad : Addr} {m : List (List Int)} (hcell : ∀ j (hj : j < m.length), ∃ ad' v, some ad = some ad' ∧ w.cell? (ad'.add j) = some v ∧ SlI w v m[j]) (hsq : sqB m = true) {x : Nat} (hx : x < m.length) :
    ∃ ax cx, w.cell? (ad.add x) = some (.slice (some ax) m.length cx) ∧ m.length ≤ cx ∧ ∀ y, y < m.length → w.cell? (ax.add y) = some (.int .i64 (at2 m x y)) := by
  obtain ⟨ad', v, e, hc, hv⟩ := hcell x hx
  cases e
  obtain ⟨A, c, rfl, h1, h2, h3⟩ := SlI.view hv
  have hl := sqB_iff.1 hsq _ (List.getElem_mem hx)
  obtain ⟨ax, rfl, _⟩ := h3 0 (by omega)
  refine ⟨ax, c, by rw [hc, hl], by omega, fun y hy => ?_⟩
  obtain ⟨ax', e, hcy⟩ := h3 y (by omega)
  cases e
  rw [hcy, at2_eq hx (by omega)]

def metVal (u : Value) : Value := .agg #[u]
def tableB (m : List (List Int)) : Bool := rng m.length 1 6 && sqB m && tabB m

end Go.Proofs.Ytpihfeganpdjiaa
