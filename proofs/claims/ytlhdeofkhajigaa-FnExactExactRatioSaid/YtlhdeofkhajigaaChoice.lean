/- Choices of games on the machine: small facts. Conditions: games that are whole. -/
import Derived.Test.YtlhdeofkhajigaaGB
import Derived.Test.YtlhdeofkhajigaaGA
set_option linter.all false
set_option linter.unusedSimpArgs false
set_option linter.unusedVariables false
namespace Go.Proofs.Ytlhdeofkhajigaa
open Go Go.RowKit Am

abbrev bT (b : Bool) : TV := .one (.b (.val (.bool b)))
theorem map_at {α β : Type} {f : α → β} {xs : List α} {k : Nat} (h : k < xs.length) (d : α) (d' : β) : (xs.map f).getD k d' = f (xs.getD k d) := by simp [h]
theorem ch4_at {ch : List (List (List (List Int)))} {i : Nat} (h : i < ch.length) : (ch4 ch).getD i [] = (ch.getD i []).map fun r => r.map c4 := map_at h [] []
theorem ch4_at2 {ch : List (List (List (List Int)))} {i r : Nat} (h : i < ch.length) (hr : r < (ch.getD i []).length) : ((ch4 ch).getD i []).getD r [] = ((ch.getD i []).getD r []).map c4 := by
  rw [ch4_at h]
  exact map_at hr [] []
theorem all_no {α : Type} {p : α → Bool} {xs : List α} {i : Nat} (hi : i < xs.length) (d : α) (h : p (xs.getD i d) = false) : xs.all p = false := by
  rw [Bool.eq_false_iff]
  intro e
  have := List.all_eq_true.1 e (xs.getD i d) (by rw [getD_in hi]; exact List.getElem_mem hi)
  rw [h] at this
  cases this
theorem gmQ_eq {m s : List (List Int)} {y : Nat} (h : takesB m s y [] = true) : gmQ m s y = gm m s y := by unfold gmQ; rw [h, Int.toNat_natCast]; rfl
theorem gmQ_takes {m s : List (List Int)} {x : Int} (h : (gmQ m s x).2 = false) : takesB m s x [] = true := by
  cases e : takesB m s x []
  · rw [gmQ_bad e] at h; cases h
  · rfl
theorem gmQ_full {m s : List (List Int)} {x : Int} (h : (gmQ m s x).2 = false) : GmFull m s (gmQ m s x).1 := by
  have ht := gmQ_takes h
  obtain ⟨hp, ⟨y, rfl, hy⟩, -, -⟩ := takes_ok ht
  rw [gmQ_eq ht] at h ⊢
  exact gm_full hp hy h
abbrev six (c : List Int) : AV := .tv (.agg [.b (.val (.int .i64 (c.getD 0 0))), .b (.val (.int .i64 (c.getD 1 0))), .b (.val (.int .i64 (c.getD 2 0))), .b (.val (.int .i64 (c.getD 3 0))), .b (.val (.int .i64 (c.getD 4 0))), .b (.val (.int .i64 (c.getD 5 0)))])
end Go.Proofs.Ytlhdeofkhajigaa
