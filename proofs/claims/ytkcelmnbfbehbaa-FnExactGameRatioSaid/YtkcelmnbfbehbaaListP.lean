/- Facts of lists. Conditions: none. -/
import Derived.Test.YtkcelmnbfbehbaaMA
set_option linter.all false
set_option linter.unusedSimpArgs false
set_option linter.unusedVariables false
namespace Go.Proofs.Ytkcelmnbfbehbaa

theorem rangeMap_getD {α:Type} (g:Nat→α) (d:α) {n x:Nat} (h:x<n):((List.range n).map g).getD x d=g x:=by
  rw [List.getD_eq_getElem?_getD,List.getElem?_map,List.getElem?_range h]
  rfl
theorem rangeMap_set {α:Type} (g:Nat→α) (v:α) (n x:Nat):((List.range n).map g).set x v=(List.range n).map fun j=>if j=x then v else g j:=by
  refine List.ext_getElem? fun j => ?_
  rw [List.getElem?_set]
  by_cases h:j<n
  · by_cases e:x=j
    · subst e
      rw [if_pos rfl,if_pos (by simpa using h),List.getElem?_map,List.getElem?_range h]
      simp
    · rw [if_neg e,List.getElem?_map,List.getElem?_map,List.getElem?_range h]
      have e2:¬ j=x:=fun e'=>e e'.symm
      simp [e2]
  · rw [List.getElem?_map,List.getElem?_map,List.getElem?_eq_none (by simpa using h)]
    simp only [Option.map_none,List.length_map,List.length_range]
    split
    · rw [if_neg (by omega)]
    · rfl
theorem rangeMap_congr {α:Type} {g g':Nat→α} {n:Nat} (h:∀ j,j<n→g j=g' j):(List.range n).map g=(List.range n).map g':=List.map_congr_left fun j hj=>h j (by simpa using hj)
theorem take_getD {α:Type} {rs:List α} {k:Nat} (h:k<rs.length) (d:α):rs.take (k+1)=rs.take k++[rs.getD k d]:=by
  rw [List.take_succ_eq_append_getElem h]
  simp [h]
end Go.Proofs.Ytkcelmnbfbehbaa
