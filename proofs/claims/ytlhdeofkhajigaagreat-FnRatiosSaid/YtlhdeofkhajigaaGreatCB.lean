/- Walks along the edges of pairs, on the machine. Conditions: edges that lead to pairs. -/
import Derived.Test.YtlhdeofkhajigaaGreatGWI
import Derived.Test.YtlhdeofkhajigaaGreatListP
import Derived.Test.YtlhdeofkhajigaaGreatPR
import Derived.Test.YtlhdeofkhajigaaGreatGCR
set_option linter.all false
set_option linter.unusedSimpArgs false
set_option linter.unusedVariables false
namespace Go.Proofs.YtlhdeofkhajigaaGreat
open Go Go.RowKit Am

abbrev fourE (c : List Int) : AV := .tv (.agg [.b (.val (.int .i64 (c.getD 0 0))), .b (.val (.int .i64 (c.getD 1 0))), .b (.val (.int .i64 (c.getD 2 0))), .b (.val (.int .i64 (c.getD 3 0)))])
abbrev prX (L E : List (List Int)) (K : Nat) : AV := .lf (.ip [.sl (.k 2 L), .sl (.k 4 E), .val (.int .i64 K)] 0)
structure EdOK (E : List (List Int)) (K N : Nat) : Prop where
  len : E.length = N * K
  n : N ≤ 1000
  k : 1 ≤ K ∧ K ≤ 10
  to : ∀ c ∈ E, 0 ≤ c.getD 1 0 ∧ c.getD 1 0 < (N : Int)
theorem EdOK.at {E : List (List Int)} {K N : Nat} (h : EdOK E K N) {i r : Nat} (hi : i < N) (hr : r < K) : i * K + r < E.length ∧ i * K ≤ 10000 := by
  have h1 := Nat.mul_le_mul_right K (show i + 1 ≤ N by omega)
  rw [Nat.succ_mul] at h1
  have h2 : i * K ≤ 1000 * 10 := Nat.mul_le_mul (by have := h.n; omega) h.k.2
  rw [h.len]
  omega
def toE (E : List (List Int)) (K p r : Nat) : Nat := ((E.getD (p * K + r) []).getD 1 0).toNat
def afterE (E : List (List Int)) (K p : Nat) (rs : List Int) : Nat := rs.foldl (fun p r => toE E K p r.toNat) p
theorem toE_at {E : List (List Int)} {K N : Nat} (h : EdOK E K N) {i r : Nat} (hi : i < N) (hr : r < K) : (E.getD (i * K + r) []).getD 1 0 = (toE E K i r : Int) ∧ toE E K i r < N := by
  have h1 := h.at hi hr
  have h2 := h.to (E.getD (i * K + r) []) (by rw [getD_in h1.1]; exact List.getElem_mem h1.1)
  unfold toE
  omega
theorem after_take {E : List (List Int)} {K p k : Nat} {rs : List Int} (hk : k < rs.length) : afterE E K p (rs.take (k + 1)) = toE E K (afterE E K p (rs.take k)) (rs.getD k 0).toNat := by
  unfold afterE
  rw [List.take_succ_eq_append_getElem hk, List.foldl_append, getD_in hk]
  rfl
end Go.Proofs.YtlhdeofkhajigaaGreat
/- The gain of a walk along the edges of pairs, on the machine. Conditions: edges that lead to pairs, and gains that are not large. -/
set_option linter.all false
set_option linter.unusedSimpArgs false
set_option linter.unusedVariables false
namespace Go.Proofs.YtlhdeofkhajigaaGreat
open Go Go.RowKit Am

end Go.Proofs.YtlhdeofkhajigaaGreat
