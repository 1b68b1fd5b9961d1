/- All steps of a game: the plain laws. Conditions: games that are whole. -/
import Derived.Test.YtlhdeofkhajigaaGA
set_option linter.all false
set_option linter.unusedSimpArgs false
set_option linter.unusedVariables false
namespace Go.Proofs.Ytlhdeofkhajigaa

/-- what is told of a choice: from, request, state, to, cost, growth -/
def p6 (c : List Int) : List Int := [c.getD 0 0, c.getD 4 0, c.getD 5 0, c.getD 1 0, c.getD 2 0, c.getD 3 0]
def s2 (a : List (List (List Int))) : List (List Int) := a.flatMap fun row => row.map p6
def s1 (ch : List (List (List (List Int)))) : List (List Int) := ch.flatMap s2
theorem s1_take {ch : List (List (List (List Int)))} {i : Nat} (h : i < ch.length) : s1 (ch.take (i + 1)) = s1 (ch.take i) ++ s2 (ch.getD i []) := by
  unfold s1
  rw [take_getD h [], List.flatMap_append]
  simp
theorem s2_take {a : List (List (List Int))} {r : Nat} (h : r < a.length) : s2 (a.take (r + 1)) = s2 (a.take r) ++ (a.getD r []).map p6 := by
  unfold s2
  rw [take_getD h [], List.flatMap_append]
  simp
theorem p6_take {row : List (List Int)} {k : Nat} (h : k < row.length) : (row.take (k + 1)).map p6 = (row.take k).map p6 ++ [p6 (row.getD k [])] := by
  rw [take_getD h [], List.map_append]
  rfl
theorem s2_len : ∀ {a : List (List (List Int))}, (∀ row ∈ a, row.length ≤ 4) → (s2 a).length ≤ a.length * 4
  | [], _ => by simp [s2]
  | row :: a, h => by
    have h1 := h row (by simp)
    have h2 := s2_len (a := a) fun r hr => h r (by simp [hr])
    unfold s2 at h2 ⊢
    rw [List.flatMap_cons, List.length_append, List.length_map, List.length_cons, Nat.succ_mul]
    omega
theorem s1_len : ∀ {ch : List (List (List (List Int)))}, (∀ a ∈ ch, a.length ≤ 4 ∧ ∀ row ∈ a, row.length ≤ 4) → (s1 ch).length ≤ ch.length * 16
  | [], _ => by simp [s1]
  | a :: ch, h => by
    have h1 := h a (by simp)
    have h2 := s2_len h1.2
    have h3 := s1_len (ch := ch) fun b hb => h b (by simp [hb])
    unfold s1 at h3 ⊢
    rw [List.flatMap_cons, List.length_append, List.length_cons, Nat.succ_mul]
    omega
theorem s1_six {ch : List (List (List (List Int)))} : ∀ x ∈ s1 ch, x.length = 6 := fun x hx => by
  unfold s1 s2 at hx
  simp only [List.mem_flatMap, List.mem_map] at hx
  obtain ⟨a, _, row, _, c, _, rfl⟩ := hx
  rfl
theorem row_len {m s : List (List Int)} {n f r : Nat} {row : List (List Int)} (hp : probB m s = true) (h : RowOK m s n f r row) : row.length ≤ 4 := by
  have h1 := congrArg List.length h.st
  rw [List.length_map] at h1
  have h2 := srv_len s m.length r
  have h3 := prob_len hp
  omega
theorem full_len {m s : List (List Int)} {g : GmT} (h : GmFull m s g) : ∀ a ∈ g.ch, a.length ≤ 4 ∧ ∀ row ∈ a, row.length ≤ 4 := fun a ha => by
  obtain ⟨j, hj, rfl⟩ := List.getElem_of_mem ha
  have h1 := h.c.len j hj
  rw [getD_in hj] at h1
  have h3 := prob_len h.prob
  refine ⟨by omega, fun row hrow => ?_⟩
  obtain ⟨r, hrl, rfl⟩ := List.getElem_of_mem hrow
  have h2 := h.c.row j r hj (by omega)
  rw [getD_in hj, getD_in hrl] at h2
  exact row_len h.prob h2
end Go.Proofs.Ytlhdeofkhajigaa
