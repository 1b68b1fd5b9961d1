/- All steps of a game: the plain laws. Conditions: games that are whole. -/
import Derived.Test.YtlhdeofkhajigaaGA
set_option linter.all false
set_option linter.unusedSimpArgs false
set_option linter.unusedVariables false
namespace Go.Proofs.Ytlhdeofkhajigaa

/-- what is told of a choice: from, request, state, to, cost, growth -/
def p6 (c : List Int) : List Int := [c.getD 0 0, c.getD 4 0, c.getD 5 0, c.getD 1 0, c.getD 2 0, c.getD 3 0]
def s2 (a : List (List (List Int))) : List (List Int) := a.flatMap fun row => row.map p6
def s1 (ch : List (List (List (List Int)))) : List (List Int) := ch.flatMap s2
theorem s1_take {ch : List (List (List (List Int)))} {i : Nat} (h : i < ch.length) : s1 (ch.take (i + 1)) = s1 (ch.take i) ++ s2 (ch.getD i []) := by
  unfold s1
  rw [take_getD h [], List.flatMap_append]
  simp
theorem s2_take {a : List (List (List Int))} {r : Nat} (h : r < a.length) : s2 (a.take (r + 1)) = s2 (a.take r) ++ (a.getD r []).map p6 := by
  unfold s2
  rw [take_getD h [], List.flatMap_append]
  simp
theorem p6_take {row : List (List Int)} {k : Nat} (h : k < row.length) : (row.take (k + 1)).map p6 = (row.take k).map p6 ++ [p6 (row.getD k [])] := by
  rw [take_getD h [], List.map_append]
  rfl
theorem s2_len : ∀ {a : List (List (List Int))}, (∀ row ∈ a, row.length ≤ 4) → (s2 a).length ≤ a.length * 4
  | [], _ => by simp [s2]
  | row :: a, h => by
    have h1 := h row (by simp)
    have h2 := s2_len (a := a) fun r hr => h r (by simp [hr])
    unfold s2 at h2 ⊢
    rw [List.flatMap_cons, List.length_append, List.length_map, List.length_cons, Nat.succ_mul]
    omega
theorem s1_len : ∀ {ch : List (List (List (List Int)))}, (∀ a ∈ ch, a.length ≤ 4 ∧ ∀ row ∈ a, row.length ≤ 4) → (s1 ch).length ≤ ch.length * 16
  | [], _ => by simp [s1]
  | a :: ch, h => by
    have h1 := h a (by simp)
    have h2 := s2_len h1.2
    have h3 := s1_len (ch := ch) fun b hb => h b (by simp [hb])
    unfold s1 at h3 ⊢
    rw [List.flatMap_cons, List.length_append, List.length_cons, Nat.succ_mul]
    omega
theorem s1_six {ch : List (List (List (List Int)))} : ∀ x ∈ s1 ch, x.length = 6 := fun x hx => by
  unfold s1 s2 at hx
  simp only [List.mem_flatMap, List.mem_map] at hx
  obtain ⟨a, _, row, _, c, _, rfl⟩ := hx
  rfl
theorem row_len {m s : List (List Int)} {n f r : Nat} {row : List (List Int)} (hp : probB m s = true) (h : RowOK m s n f r row) : row.length ≤ 4 := by
  have h1 := congrArg List.length h.st
  rw [List.length_map] at h1
  have h2 := srv_len s m.length r
  have h3 := prob_len hp
  omega
theorem full_len {m s : List (List Int)} {g : GmT} (h : GmFull m s g) : ∀ a ∈ g.ch, a.length ≤ 4 ∧ ∀ row ∈ a, row.length ≤ 4 := fun a ha => by
  obtain ⟨j, hj, rfl⟩ := List.getElem_of_mem ha
  have h1 := h.c.len j hj
  rw [getD_in hj] at h1
  have h3 := prob_len h.prob
  refine ⟨by omega, fun row hrow => ?_⟩
  obtain ⟨r, hrl, rfl⟩ := List.getElem_of_mem hrow
  have h2 := h.c.row j r hj (by omega)
  rw [getD_in hj, getD_in hrl] at h2
  exact row_len h.prob h2
end Go.Proofs.Ytlhdeofkhajigaa
/- Credits and holds of games: the plain laws. Conditions: games that are whole. -/
set_option linter.all false
set_option linter.unusedSimpArgs false
set_option linter.unusedVariables false
namespace Go.Proofs.Ytlhdeofkhajigaa

/-- what a choice gains with a ratio of num and den -/
def gainC (num den : Int) (c : List Int) : Int := den * c.getD 2 0 - num * c.getD 3 0
def toC (c : List Int) : Nat := (c.getD 1 0).toNat
def tableB1 (g : GmT) (tab : List Int) : Bool := (tab.length == g.list.length) && allIn 0 1000000000000000 tab
def allowC (num den : Int) (tab : List Int) (i : Nat) (c : List Int) : Bool := decide (gainC num den c + tab.getD (toC c) 0 ≤ tab.getD i 0)
/-- a list is a credit: at each position each request has a choice that it allows -/
def creditB (g : GmT) (num den : Int) (tab : List Int) : Bool := tableB1 g tab && (List.range g.ch.length).all fun i => (g.ch.getD i []).all fun row => row.any (allowC num den tab i)
def asksB (s : List (List Int)) (g : GmT) (asks : List Int) : Bool := (asks.length == g.list.length) && allIn 0 ((s.length : Int) - 1) asks
def holdC (g : GmT) (num den : Int) (debts delays : List Int) (i : Nat) (c : List Int) : Bool :=
  !(decide (gainC num den c + debts.getD i 0 < debts.getD (toC c) 0) || decide ((g.list.length : Int) * (gainC num den c + c.getD 3 0) + delays.getD i 0 < delays.getD (toC c) 0 + 1))
def holdB (s : List (List Int)) (g : GmT) (num den : Int) (asks debts delays : List Int) : Bool :=
  asksB s g asks && tableB1 g debts && tableB1 g delays && (List.range asks.length).all fun i => ((g.ch.getD i []).getD (asks.getD i 0).toNat []).all (holdC g num den debts delays i)
theorem gain_bd {m : List (List Int)} {n f r : Nat} {c : List Int} (h : elOK m n f r c) {num den : Int} (h1 : 0 ≤ num) (h2 : num ≤ 1000000000) (h3 : 0 ≤ den) (h4 : den ≤ 1000000000) : toC c < n ∧ c.getD 1 0 = (toC c : Int) ∧ c.getD 0 0 = (f : Int) ∧ 0 ≤ c.getD 2 0 ∧ c.getD 2 0 ≤ 119 ∧ 0 ≤ c.getD 3 0 ∧ c.getD 3 0 ≤ 100000 ∧ 0 ≤ den * c.getD 2 0 ∧ den * c.getD 2 0 ≤ 119000000000 ∧ 0 ≤ num * c.getD 3 0 ∧ num * c.getD 3 0 ≤ 100000000000000 := by
  obtain ⟨k, u, a, b, rfl, k1, k2, k3, k4, k5, k6⟩ := h
  have e1 : 0 ≤ den * a := Int.mul_nonneg h3 k3
  have e2 : den * a ≤ 1000000000 * 119 := Int.mul_le_mul h4 k4 k3 (by omega)
  have e3 : 0 ≤ num * b := Int.mul_nonneg h1 k5
  have e4 : num * b ≤ 1000000000 * 100000 := Int.mul_le_mul h2 (Int.le_trans k6 (by decide)) k5 (by omega)
  refine ⟨?_, ?_, rfl, k3, k4, k5, Int.le_trans k6 (by decide), e1, by simpa using e2, e3, by simpa using e4⟩
  · show ((k : Int)).toNat < n
    omega
  · show (k : Int) = (((k : Int)).toNat : Int)
    omega
end Go.Proofs.Ytlhdeofkhajigaa
