/- Credits and holds of games: the plain laws. Conditions: games that are whole. -/
import Derived.Test.YtlhdeofkhajigaaStepsP
set_option linter.all false
set_option linter.unusedSimpArgs false
set_option linter.unusedVariables false
namespace Go.Proofs.Ytlhdeofkhajigaa

/-- what a choice gains with a ratio of num and den -/
def gainC (num den : Int) (c : List Int) : Int := den * c.getD 2 0 - num * c.getD 3 0
def toC (c : List Int) : Nat := (c.getD 1 0).toNat
def tableB1 (g : GmT) (tab : List Int) : Bool := (tab.length == g.list.length) && allIn 0 1000000000000000 tab
def allowC (num den : Int) (tab : List Int) (i : Nat) (c : List Int) : Bool := decide (gainC num den c + tab.getD (toC c) 0 ≤ tab.getD i 0)
/-- a list is a credit: at each position each request has a choice that it allows -/
def creditB (g : GmT) (num den : Int) (tab : List Int) : Bool := tableB1 g tab && (List.range g.ch.length).all fun i => (g.ch.getD i []).all fun row => row.any (allowC num den tab i)
def asksB (s : List (List Int)) (g : GmT) (asks : List Int) : Bool := (asks.length == g.list.length) && allIn 0 ((s.length : Int) - 1) asks
def holdC (g : GmT) (num den : Int) (debts delays : List Int) (i : Nat) (c : List Int) : Bool :=
  !(decide (gainC num den c + debts.getD i 0 < debts.getD (toC c) 0) || decide ((g.list.length : Int) * (gainC num den c + c.getD 3 0) + delays.getD i 0 < delays.getD (toC c) 0 + 1))
def holdB (s : List (List Int)) (g : GmT) (num den : Int) (asks debts delays : List Int) : Bool :=
  asksB s g asks && tableB1 g debts && tableB1 g delays && (List.range asks.length).all fun i => ((g.ch.getD i []).getD (asks.getD i 0).toNat []).all (holdC g num den debts delays i)
theorem gain_bd {m : List (List Int)} {n f r : Nat} {c : List Int} (h : elOK m n f r c) {num den : Int} (h1 : 0 ≤ num) (h2 : num ≤ 1000000000) (h3 : 0 ≤ den) (h4 : den ≤ 1000000000) : toC c < n ∧ c.getD 1 0 = (toC c : Int) ∧ c.getD 0 0 = (f : Int) ∧ 0 ≤ c.getD 2 0 ∧ c.getD 2 0 ≤ 119 ∧ 0 ≤ c.getD 3 0 ∧ c.getD 3 0 ≤ 100000 ∧ 0 ≤ den * c.getD 2 0 ∧ den * c.getD 2 0 ≤ 119000000000 ∧ 0 ≤ num * c.getD 3 0 ∧ num * c.getD 3 0 ≤ 100000000000000 := by
  obtain ⟨k, u, a, b, rfl, k1, k2, k3, k4, k5, k6⟩ := h
  have e1 : 0 ≤ den * a := Int.mul_nonneg h3 k3
  have e2 : den * a ≤ 1000000000 * 119 := Int.mul_le_mul h4 k4 k3 (by omega)
  have e3 : 0 ≤ num * b := Int.mul_nonneg h1 k5
  have e4 : num * b ≤ 1000000000 * 100000 := Int.mul_le_mul h2 (Int.le_trans k6 (by decide)) k5 (by omega)
  refine ⟨?_, ?_, rfl, k3, k4, k5, Int.le_trans k6 (by decide), e1, by simpa using e2, e3, by simpa using e4⟩
  · show ((k : Int)).toNat < n
    omega
  · show (k : Int) = (((k : Int)).toNat : Int)
    omega
end Go.Proofs.Ytlhdeofkhajigaa
