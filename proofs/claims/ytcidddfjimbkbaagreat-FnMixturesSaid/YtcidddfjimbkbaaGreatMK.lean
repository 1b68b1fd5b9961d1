/- Numbers that a law writes through a result and reads again: the plain laws. Conditions: none. -/
import Derived.Test.YtcidddfjimbkbaaGreatListP
import Derived.Test.YtcidddfjimbkbaaGreatME
set_option linter.all false
set_option linter.unusedSimpArgs false
set_option linter.unusedVariables false
namespace Go.Proofs.YtcidddfjimbkbaaGreat

def mkI (k : Int) (xs : List Int) : List Int := (List.range xs.length).map fun (j : Nat) => k + (j : Int)
/-- a row of which the first i are marked -/
def mkTo (k : Int) (xs : List Int) (i : Nat) : List Int := (List.range xs.length).map fun (j : Nat) => if j < i then k + (j : Int) else xs.getD j 0
theorem mkI_len (k : Int) (xs : List Int) : (mkI k xs).length = xs.length := by simp [mkI]
theorem mkTo_len (k : Int) (xs : List Int) (i : Nat) : (mkTo k xs i).length = xs.length := by simp [mkTo]
theorem mkTo_0 (k : Int) (xs : List Int) : mkTo k xs 0 = xs := by
  refine List.ext_getElem? fun j => ?_
  unfold mkTo
  rw [List.getElem?_map]
  by_cases h : j < xs.length
  · rw [List.getElem?_range h]
    simp [h]
  · rw [List.getElem?_eq_none (by simpa using h), List.getElem?_eq_none (by omega)]
    rfl
theorem mkTo_all (k : Int) (xs : List Int) : mkTo k xs xs.length = mkI k xs := rangeMap_congr fun j hj => if_pos hj
theorem mkTo_set (k : Int) (xs : List Int) (i : Nat) : (mkTo k xs i).set i (k + (i : Int)) = mkTo k xs (i + 1) := by
  unfold mkTo
  rw [rangeMap_set]
  refine rangeMap_congr fun j _ => ?_
  by_cases e : j = i
  · subst e
    rw [if_pos rfl, if_pos (by omega)]
  · rw [if_neg e]
    by_cases h : j < i
    · rw [if_pos h, if_pos (by omega)]
    · rw [if_neg h, if_neg (by omega)]
theorem mkI_at {k : Int} {xs : List Int} {j : Nat} (h : j < xs.length) : (mkI k xs).getD j 0 = k + (j : Int) := rangeMap_getD _ _ h
/-- the same, a level further out: mk marks one element, sz is its number of cells -/
def mkL {α : Type} (mk : Int → α → α) (sz : α → Nat) : Int → List α → List α
  | _, [] => []
  | k, x :: xs => mk k x :: mkL mk sz (k + sz x) xs
def szL {α : Type} (sz : α → Nat) (xs : List α) : Nat := (xs.map sz).sum
section
variable {α : Type} {mk : Int → α → α} {sz : α → Nat} {d : α}
theorem mkL_len : ∀ (k : Int) (xs : List α), (mkL mk sz k xs).length = xs.length
  | _, [] => rfl
  | k, x :: xs => by simp [mkL, mkL_len _ xs]
theorem mkL_app : ∀ (k : Int) (xs ys : List α), mkL mk sz k (xs ++ ys) = mkL mk sz k xs ++ mkL mk sz (k + szL sz xs) ys
  | k, [], ys => by simp [mkL, szL]
  | k, x :: xs, ys => by
    simp only [List.cons_append, mkL, mkL_app _ xs ys, szL, List.map_cons, List.sum_cons]
    congr 3
    omega
theorem szL_take {xs : List α} {i : Nat} (h : i < xs.length) (d : α) : szL sz (xs.take (i + 1)) = szL sz (xs.take i) + sz (xs.getD i d) := by
  unfold szL
  rw [take_getD h d, List.map_append, List.sum_append]
  simp
theorem szL_take_le {xs : List α} (i : Nat) : szL sz (xs.take i) ≤ szL sz xs := by
  have h : szL sz (xs.take i ++ xs.drop i) = szL sz (xs.take i) + szL sz (xs.drop i) := by unfold szL; rw [List.map_append, List.sum_append]
  rw [List.take_append_drop] at h
  omega
/-- the first i elements are marked -/
def mkLto (mk : Int → α → α) (sz : α → Nat) (k : Int) (xs : List α) (i : Nat) : List α := mkL mk sz k (xs.take i) ++ xs.drop i
theorem mkLto_0 (k : Int) (xs : List α) : mkLto mk sz k xs 0 = xs := by simp [mkLto, mkL]
theorem mkLto_all (k : Int) (xs : List α) : mkLto mk sz k xs xs.length = mkL mk sz k xs := by simp [mkLto]
theorem mkLto_len {k : Int} {xs : List α} {i : Nat} (h : i ≤ xs.length) : (mkLto mk sz k xs i).length = xs.length := by
  unfold mkLto
  rw [List.length_append, mkL_len, List.length_take, List.length_drop]
  omega
theorem mkLto_at {k : Int} {xs : List α} {i : Nat} (h : i < xs.length) (d : α) : (mkLto mk sz k xs i).getD i d = xs.getD i d := by
  unfold mkLto
  have hl : (mkL mk sz k (xs.take i)).length = i := by rw [mkL_len, List.length_take]; omega
  rw [List.getD_eq_getElem?_getD, List.getD_eq_getElem?_getD, List.getElem?_append_right (by omega), hl, Nat.sub_self, List.getElem?_drop]
  simp
theorem mkLto_set {k : Int} {xs : List α} {i : Nat} (h : i < xs.length) (d : α) : (mkLto mk sz k xs i).set i (mk (k + szL sz (xs.take i)) (xs.getD i d)) = mkLto mk sz k xs (i + 1) := by
  unfold mkLto
  have hl : (mkL mk sz k (xs.take i)).length = i := by rw [mkL_len, List.length_take]; omega
  rw [List.set_append_right _ _ (by omega), hl, Nat.sub_self, take_getD h d, mkL_app, List.append_assoc]
  congr 1
  rw [List.drop_eq_getElem_cons h, List.set_cons_zero]
  rfl
theorem mkL_at {xs : List α} {i : Nat} {k : Int} (h : i < xs.length) (d : α) : (mkL mk sz k xs).getD i d = mk (k + szL sz (xs.take i)) (xs.getD i d) := by
  have e : xs = xs.take i ++ (xs.getD i d :: xs.drop (i + 1)) := by simp [h]
  have hl : (mkL mk sz k (xs.take i)).length = i := by rw [mkL_len, List.length_take]; omega
  rw [show mkL mk sz k xs = mkL mk sz k (xs.take i ++ (xs.getD i d :: xs.drop (i + 1))) by rw [← e], mkL_app, List.getD_eq_getElem?_getD, List.getElem?_append_right (by omega), hl, Nat.sub_self]
  rfl
end
abbrev mkII : Int → List (List Int) → List (List Int) := mkL mkI List.length
abbrev nII : List (List Int) → Nat := szL List.length
abbrev mkIII : Int → List (List (List Int)) → List (List (List Int)) := mkL mkII nII
abbrev nIII : List (List (List Int)) → Nat := szL nII
end Go.Proofs.YtcidddfjimbkbaaGreat
/- The numbers that a law writes through its arguments and its results, and reads again, on the machine. Conditions: lengths that a law allows. -/
set_option linter.all false
set_option linter.unusedSimpArgs false
set_option linter.unusedVariables false
namespace Go.Proofs.YtcidddfjimbkbaaGreat
open Go Go.RowKit Am

end Go.Proofs.YtcidddfjimbkbaaGreat
