/- Numbers that a law writes through elements of some cells each, and reads again: the plain laws. Conditions: none. -/
import Derived.Test.YtcidddfjimbkbaaGreatListP
import Derived.Test.YtcidddfjimbkbaaGreatME
set_option linter.all false
set_option linter.unusedSimpArgs false
set_option linter.unusedVariables false
namespace Go.Proofs.YtcidddfjimbkbaaGreat

/-- the first i elements are marked, and j cells of the next one -/
def mkKto (n : Nat) (k : Int) (xs : List (List Int)) (i j : Nat) : List (List Int) := (List.range xs.length).map fun (a : Nat) => (List.range n).map fun (o : Nat) => if a < i ∨ (a = i ∧ o < j) then k + ((a * n + o : Nat) : Int) else (xs.getD a []).getD o 0
def mkK (n : Nat) (k : Int) (xs : List (List Int)) : List (List Int) := (List.range xs.length).map fun (a : Nat) => (List.range n).map fun (o : Nat) => k + ((a * n + o : Nat) : Int)
theorem mkKto_len (n : Nat) (k : Int) (xs : List (List Int)) (i j : Nat) : (mkKto n k xs i j).length = xs.length := by simp [mkKto]
theorem mkK_len (n : Nat) (k : Int) (xs : List (List Int)) : (mkK n k xs).length = xs.length := by simp [mkK]
theorem range_self {x : List Int} : (List.range x.length).map (fun (o : Nat) => x.getD o 0) = x := by
  refine List.ext_getElem (by simp) fun j h1 h2 => ?_
  simp [h2]
theorem mkKto_0 {n : Nat} (k : Int) {xs : List (List Int)} (h : ∀ x ∈ xs, x.length = n) : mkKto n k xs 0 0 = xs := by
  refine List.ext_getElem? fun a => ?_
  unfold mkKto
  rw [List.getElem?_map]
  by_cases h2 : a < xs.length
  · have h3 := h _ (List.getElem_mem h2)
    have e : ∀ o, o < n → (if a < 0 ∨ (a = 0 ∧ o < 0) then k + ((a * n + o : Nat) : Int) else (xs.getD a []).getD o 0) = xs[a].getD o 0 := fun o _ => by
      rw [if_neg (by omega)]
      simp [h2]
    rw [List.getElem?_range h2, List.getElem?_eq_getElem h2, Option.map_some]
    congr 1
    rw [rangeMap_congr e, ← h3]
    exact range_self
  · rw [List.getElem?_eq_none (by simpa using h2), List.getElem?_eq_none (by omega)]
    rfl
theorem mkKto_next (n : Nat) (k : Int) (xs : List (List Int)) (i : Nat) : mkKto n k xs i n = mkKto n k xs (i + 1) 0 := by
  refine rangeMap_congr fun a _ => rangeMap_congr fun o ho => ?_
  by_cases h : a < i ∨ a = i
  · rw [if_pos (by omega), if_pos (by omega)]
  · rw [if_neg (by omega), if_neg (by omega)]
theorem mkKto_all (n : Nat) (k : Int) (xs : List (List Int)) : mkKto n k xs xs.length 0 = mkK n k xs := rangeMap_congr fun _ ha => rangeMap_congr fun _ _ => if_pos (.inl ha)
theorem mkKto_set {n : Nat} {k : Int} {xs : List (List Int)} {i j : Nat} (hi : i < xs.length) (hj : j < n) : (mkKto n k xs i j).set i (((mkKto n k xs i j).getD i []).set j (k + ((i * n + j : Nat) : Int))) = mkKto n k xs i (j + 1) := by
  have h1 : (mkKto n k xs i j).getD i [] = (List.range n).map fun (o : Nat) => if i < i ∨ (i = i ∧ o < j) then k + ((i * n + o : Nat) : Int) else (xs.getD i []).getD o 0 := by
    unfold mkKto
    rw [rangeMap_getD _ _ hi]
  rw [h1]
  unfold mkKto
  rw [rangeMap_set, rangeMap_set]
  refine rangeMap_congr fun a _ => ?_
  by_cases e : a = i
  · subst e
    rw [if_pos rfl]
    refine rangeMap_congr fun o _ => ?_
    by_cases e2 : o = j
    · subst e2
      rw [if_pos rfl, if_pos (by omega)]
    · rw [if_neg e2]
      by_cases h : o < j
      · rw [if_pos (by omega), if_pos (by omega)]
      · rw [if_neg (by omega), if_neg (by omega)]
  · rw [if_neg e]
    refine rangeMap_congr fun o _ => ?_
    by_cases h : a < i
    · rw [if_pos (.inl h), if_pos (.inl h)]
    · rw [if_neg (by omega), if_neg (by omega)]
theorem mkK_at {n : Nat} {k : Int} {xs : List (List Int)} {i j : Nat} (hi : i < xs.length) (hj : j < n) : ((mkK n k xs).getD i []).getD j 0 = k + ((i * n + j : Nat) : Int) := by
  unfold mkK
  rw [rangeMap_getD _ _ hi, rangeMap_getD _ _ hj]
end Go.Proofs.YtcidddfjimbkbaaGreat
/- Numbers that a law writes through fractions, on the machine. Conditions: lengths that a law allows. -/
set_option linter.all false
set_option linter.unusedSimpArgs false
set_option linter.unusedVariables false
namespace Go.Proofs.YtcidddfjimbkbaaGreat
open Go Go.RowKit Am

end Go.Proofs.YtcidddfjimbkbaaGreat
