/- Walks along the edges of pairs, on the machine. Conditions: edges that lead to pairs. -/
import Derived.Test.YtlhdeofkhajigaaCloneA
import Derived.Test.YtlhdeofkhajigaaPR
import Derived.Test.YtlhdeofkhajigaaGCR
set_option linter.all false
set_option linter.unusedSimpArgs false
set_option linter.unusedVariables false
namespace Go.Proofs.Ytlhdeofkhajigaa
open Go Go.RowKit Am

abbrev fourE (c : List Int) : AV := .tv (.agg [.b (.val (.int .i64 (c.getD 0 0))), .b (.val (.int .i64 (c.getD 1 0))), .b (.val (.int .i64 (c.getD 2 0))), .b (.val (.int .i64 (c.getD 3 0)))])
abbrev prX (L E : List (List Int)) (K : Nat) : AV := .lf (.ip [.sl (.k 2 L), .sl (.k 4 E), .val (.int .i64 K)] 0)
structure EdOK (E : List (List Int)) (K N : Nat) : Prop where
  len : E.length = N * K
  n : N ≤ 1000
  k : 1 ≤ K ∧ K ≤ 10
  to : ∀ c ∈ E, 0 ≤ c.getD 1 0 ∧ c.getD 1 0 < (N : Int)
theorem EdOK.at {E : List (List Int)} {K N : Nat} (h : EdOK E K N) {i r : Nat} (hi : i < N) (hr : r < K) : i * K + r < E.length ∧ i * K ≤ 10000 := by
  have h1 := Nat.mul_le_mul_right K (show i + 1 ≤ N by omega)
  rw [Nat.succ_mul] at h1
  have h2 : i * K ≤ 1000 * 10 := Nat.mul_le_mul (by have := h.n; omega) h.k.2
  rw [h.len]
  omega
def toE (E : List (List Int)) (K p r : Nat) : Nat := ((E.getD (p * K + r) []).getD 1 0).toNat
def afterE (E : List (List Int)) (K p : Nat) (rs : List Int) : Nat := rs.foldl (fun p r => toE E K p r.toNat) p
theorem toE_at {E : List (List Int)} {K N : Nat} (h : EdOK E K N) {i r : Nat} (hi : i < N) (hr : r < K) : (E.getD (i * K + r) []).getD 1 0 = (toE E K i r : Int) ∧ toE E K i r < N := by
  have h1 := h.at hi hr
  have h2 := h.to (E.getD (i * K + r) []) (by rw [getD_in h1.1]; exact List.getElem_mem h1.1)
  unfold toE
  omega
theorem after_take {E : List (List Int)} {K p k : Nat} {rs : List Int} (hk : k < rs.length) : afterE E K p (rs.take (k + 1)) = toE E K (afterE E K p (rs.take k)) (rs.getD k 0).toNat := by
  unfold afterE
  rw [List.take_succ_eq_append_getElem hk, List.foldl_append, getD_in hk]
  rfl
theorem after_lt {E : List (List Int)} {K N p : Nat} (h : EdOK E K N) (hp : p < N) {rs : List Int} (hq : reqsB K rs) : ∀ k, k ≤ rs.length → afterE E K p (rs.take k) < N
  | 0, _ => by simpa [afterE] using hp
  | k + 1, hk => by
    have hk' : k < rs.length := by omega
    obtain ⟨r, h1, h2⟩ := hq.at hk'
    rw [after_take hk', h1, Int.toNat_natCast]
    exact (toE_at h (after_lt h hp hq k (by omega)) h2).2
end Go.Proofs.Ytlhdeofkhajigaa
/- The gain of a walk along the edges of pairs, on the machine. Conditions: edges that lead to pairs, and gains that are not large. -/
set_option linter.all false
set_option linter.unusedSimpArgs false
set_option linter.unusedVariables false
namespace Go.Proofs.Ytlhdeofkhajigaa
open Go Go.RowKit Am

def GnOK (a : Int × Int) (E : List (List Int)) : Prop := ∀ c ∈ E, 0 ≤ a.2 * c.getD 2 0 ∧ a.2 * c.getD 2 0 ≤ 100000000000000 ∧ 0 ≤ a.1 * c.getD 3 0 ∧ a.1 * c.getD 3 0 ≤ 100000000000000
def gainE (a : Int × Int) (E : List (List Int)) (K : Nat) : Nat → List Int → Int
  | _, [] => 0
  | p, r :: rs => gainC a.1 a.2 (E.getD (p * K + r.toNat) []) + gainE a E K (toE E K p r.toNat) rs
theorem gainE_app {a : Int × Int} {E : List (List Int)} {K : Nat} : ∀ (xs ys : List Int) (p : Nat), gainE a E K p (xs ++ ys) = gainE a E K p xs + gainE a E K (afterE E K p xs) ys
  | [], ys, p => by simp [gainE, afterE]
  | x :: xs, ys, p => by
    rw [List.cons_append, gainE, gainE, gainE_app xs ys, Int.add_assoc]
    rfl
theorem gainE_take {a : Int × Int} {E : List (List Int)} {K p k : Nat} {rs : List Int} (hk : k < rs.length) : gainE a E K p (rs.take (k + 1)) = gainE a E K p (rs.take k) + gainC a.1 a.2 (E.getD (afterE E K p (rs.take k) * K + (rs.getD k 0).toNat) []) := by
  rw [List.take_succ_eq_append_getElem hk, gainE_app, getD_in hk]
  simp [gainE]
theorem gainE_bd {a : Int × Int} {E : List (List Int)} {K N p : Nat} (h : EdOK E K N) (hg : GnOK a E) (hp : p < N) {rs : List Int} (hq : reqsB K rs) : ∀ k, k ≤ rs.length → -100000000000000 * (k : Int) ≤ gainE a E K p (rs.take k) ∧ gainE a E K p (rs.take k) ≤ 100000000000000 * (k : Int)
  | 0, _ => by simp [gainE]
  | k + 1, hk => by
    have hk' : k < rs.length := by omega
    obtain ⟨r, h1, h2⟩ := hq.at hk'
    have h3 := (h.at (after_lt h hp hq k (by omega)) h2).1
    have h4 := hg _ (show E.getD (afterE E K p (rs.take k) * K + r) [] ∈ E by rw [getD_in h3]; exact List.getElem_mem h3)
    have ih := gainE_bd h hg hp hq k (by omega)
    rw [gainE_take hk', h1, Int.toNat_natCast]
    unfold gainC
    omega
end Go.Proofs.Ytlhdeofkhajigaa
