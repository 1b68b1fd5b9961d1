/- The greatest cost of all sequences of a length, and the first sequence with it: the plain laws. Conditions: costs of at least 0. -/
import Derived.Test.YtcidddfjimbkbaaSeqP
set_option linter.all false
set_option linter.unusedSimpArgs false
set_option linter.unusedVariables false
namespace Go.Proofs.Ytcidddfjimbkbaa

/-- the best of the first k sequences, and its cost -/
def wkS (c : List Int → Int) (b n : Nat) : Nat → List Int × Int
  | 0 => ([], -1)
  | k + 1 => if (wkS c b n k).2 < c (sq b n k) then (sq b n k, c (sq b n k)) else wkS c b n k
theorem wkS_len {c : List Int → Int} {b n : Nat} (hc : ∀ k, k < b ^ n → 0 ≤ c (sq b n k)) : ∀ k, k < b ^ n → (wkS c b n (k + 1)).1.length = n
  | 0, h => by
    have h1 := hc 0 h
    have h2 : (wkS c b n 0).2 = -1 := rfl
    rw [wkS, if_pos (by omega)]
    exact sq_len b n 0
  | k + 1, h => by
    rw [wkS]
    split
    · exact sq_len b n (k + 1)
    · exact wkS_len hc k (by omega)
theorem wkS_bd {c : List Int → Int} {b n : Nat} {B : Int} (hB : -1 ≤ B) (hc : ∀ k, k < b ^ n → c (sq b n k) ≤ B) : ∀ k, k ≤ b ^ n → -1 ≤ (wkS c b n k).2 ∧ (wkS c b n k).2 ≤ B
  | 0, _ => ⟨Int.le_refl _, hB⟩
  | k + 1, h => by
    have h1 := wkS_bd hB hc k (by omega)
    have h2 := hc k (by omega)
    rw [wkS]
    split
    · dsimp only
      omega
    · exact h1
theorem wkS_pos {c : List Int → Int} {b n : Nat} (hc : ∀ k, k < b ^ n → 0 ≤ c (sq b n k)) : ∀ k, k < b ^ n → 0 ≤ (wkS c b n (k + 1)).2
  | 0, h => by
    have h1 := hc 0 h
    have h2 : (wkS c b n 0).2 = -1 := rfl
    rw [wkS, if_pos (by omega)]
    exact h1
  | k + 1, h => by
    have h1 := wkS_pos hc k (by omega)
    have h2 := hc (k + 1) h
    rw [wkS]
    split
    · exact h2
    · exact h1
/-- the k-th sequence, of whose digits the last t are there -/
def sqU (b n k t : Nat) : List Int := (List.range n).map fun (i : Nat) => if n ≤ i + t then ((digS b k (n - 1 - i) : Nat) : Int) else 0
theorem sqU_len (b n k t : Nat) : (sqU b n k t).length = n := by simp [sqU]
theorem sqU_0 (b n k : Nat) : sqU b n k 0 = List.replicate n 0 := by
  refine List.ext_getElem (by simp [sqU]) fun i h1 h2 => ?_
  have : i < n := by simpa using h2
  simp only [sqU, List.getElem_map, List.getElem_range, List.getElem_replicate]
  rw [if_neg (by omega)]
theorem sqU_all (b n k : Nat) : sqU b n k n = sq b n k := rangeMap_congr fun i hi => if_pos (by omega)
theorem sqU_set {b n k t : Nat} (ht : t < n) : (sqU b n k t).set (n - 1 - t) ((digS b k t : Nat) : Int) = sqU b n k (t + 1) := by
  unfold sqU
  rw [rangeMap_set]
  refine rangeMap_congr fun i hi => ?_
  by_cases e : i = n - 1 - t
  · rw [if_pos e, if_pos (by omega), show n - 1 - i = t by omega]
  · rw [if_neg e]
    by_cases h : n ≤ i + t
    · rw [if_pos h, if_pos (by omega)]
    · rw [if_neg h, if_neg (by omega)]
theorem digS_div {b k t : Nat} : k / b ^ t / b = k / b ^ (t + 1) := by rw [Nat.div_div_eq_div_mul, ← Nat.pow_succ]
end Go.Proofs.Ytcidddfjimbkbaa
