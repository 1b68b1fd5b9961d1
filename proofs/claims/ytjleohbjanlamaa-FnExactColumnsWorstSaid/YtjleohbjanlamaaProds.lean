/- Sums of products of a matrix, by the program's and the reference's functions. Conditions: at most three rows, all of the first one's length; numbers of 0 to 40; factors of at most 10^9. -/
import Derived.Test.YtjleohbjanlamaaSums
import Derived.Test.YtjleohbjanlamaaLawI
import Derived.RegionTactic
import Derived.BigRegion
namespace Go.Proofs.Ytjleohbjanlamaa
open Go.RowKit

def addRow (acc row : List Int) (c : Int) : List Int := List.zipWith (fun a r => a + c * r) acc row
def prods : List Int → List (List Int) → List Int → List Int
  | acc, row :: m, c :: ws => prods (addRow acc row c) m ws
  | acc, _, _ => acc
def prodsTo (z : List Int) (m : List (List Int)) (ws : List Int) (k : Nat) : List Int := prods z (m.take k) (ws.take k)
theorem addRow_len (acc row : List Int) (c : Int) (h : row.length = acc.length) : (addRow acc row c).length = acc.length := by simp [addRow, h]
theorem prods_len : ∀ (z : List Int) (m : List (List Int)) (ws : List Int), (∀ r ∈ m, r.length = z.length) → (prods z m ws).length = z.length
  | z, [], ws, _ => by simp [prods]
  | z, row :: m, [], _ => by simp [prods]
  | z, row :: m, c :: ws, h => by
    have hl := addRow_len z row c (h row (by simp))
    rw [prods, prods_len _ m ws (fun r hr => by rw [hl]; exact h r (by simp [hr])), hl]
theorem prods_snoc : ∀ (z : List Int) (m : List (List Int)) (ws : List Int) (row : List Int) (c : Int), m.length = ws.length → prods z (m ++ [row]) (ws ++ [c]) = addRow (prods z m ws) row c
  | z, [], [], row, c, _ => rfl
  | z, r :: m, d :: ws, row, c, h => prods_snoc (addRow z r d) m ws row c (by simpa using h)
  | z, [], d :: ws, row, c, h => by simp at h
  | z, r :: m, [], row, c, h => by simp at h
theorem prodsTo_succ (z : List Int) (m : List (List Int)) (ws : List Int) (k : Nat) (h : k < m.length) (h' : k < ws.length) : prodsTo z m ws (k + 1) = addRow (prodsTo z m ws k) m[k] ws[k] := by
  unfold prodsTo
  rw [List.take_succ_eq_append_getElem h, List.take_succ_eq_append_getElem h', prods_snoc _ _ _ _ _ (by simp; omega)]
theorem prodsTo_len (z : List Int) (m : List (List Int)) (ws : List Int) (k : Nat) (h : ∀ r ∈ m, r.length = z.length) : (prodsTo z m ws k).length = z.length :=
  prods_len _ _ _ fun r hr => h r (List.mem_of_mem_take hr)
/-- what a row's loop has done after j columns -/
def mixTo (acc row : List Int) (c : Int) (j : Nat) : List Int := (addRow acc row c).take j ++ acc.drop j
theorem mixTo_len (acc row : List Int) (c : Int) (j : Nat) (h : row.length = acc.length) (hj : j ≤ acc.length) : (mixTo acc row c j).length = acc.length := by
  simp [mixTo, addRow_len _ _ _ h]; omega
theorem mixTo_zero (acc row : List Int) (c : Int) : mixTo acc row c 0 = acc := by simp [mixTo]
theorem mixTo_all (acc row : List Int) (c : Int) (h : row.length = acc.length) : mixTo acc row c acc.length = addRow acc row c := by
  simp [mixTo, addRow_len _ _ _ h, List.take_of_length_le]
theorem mixTo_at (acc row : List Int) (c : Int) (j : Nat) (h : row.length = acc.length) (hj : j < acc.length) : (mixTo acc row c j)[j]? = some acc[j] := by
  unfold mixTo
  rw [List.getElem?_append_right (by simp; omega)]
  simp [addRow_len _ _ _ h]
  rw [show j + (j - min j acc.length) = j by omega, List.getElem?_eq_getElem hj]
theorem mixTo_set (acc row : List Int) (c : Int) (j : Nat) (h : row.length = acc.length) (hj : j < acc.length) : (mixTo acc row c j).set j (acc[j] + c * row[j]) = mixTo acc row c (j + 1) := by
  have hl := addRow_len acc row c h
  unfold mixTo
  rw [List.drop_eq_getElem_cons hj, List.set_append_right _ _ (by simp; omega)]
  rw [show ((addRow acc row c).take j).length = j by simp [hl]; omega, Nat.sub_self, List.set_cons_zero, List.take_succ_eq_append_getElem (by omega), List.append_assoc]
  simp [addRow]
theorem prods_bound : ∀ (z : List Int) (m : List (List Int)) (ws : List Int) (B : Int), (∀ a ∈ z, -B ≤ a ∧ a ≤ B) → (∀ r ∈ m, ∀ x ∈ r, 0 ≤ x ∧ x ≤ 40) → (∀ c ∈ ws, -1000000000 ≤ c ∧ c ≤ 1000000000) →
    ∀ a ∈ prods z m ws, -(B + m.length * 40000000000) ≤ a ∧ a ≤ B + m.length * 40000000000
  | z, [], ws, B, hz, _, _ => by simpa [prods] using hz
  | z, row :: m, [], B, hz, _, _ => by
    intro a ha
    have := hz a (by simpa [prods] using ha)
    simp only [List.length_cons]
    omega
  | z, row :: m, c :: ws, B, hz, hm, hw => by
    intro a ha
    have h := prods_bound (addRow z row c) m ws (B + 40000000000) (fun b hb => by
      unfold addRow at hb
      rw [List.mem_iff_getElem] at hb
      obtain ⟨i, hi, rfl⟩ := hb
      rw [List.getElem_zipWith]
      have h1 := hz _ (List.getElem_mem (show i < z.length by simp at hi; omega))
      have h2 := hm row (by simp) _ (List.getElem_mem (show i < row.length by simp at hi; omega))
      have h3 := hw c (by simp)
      generalize z[i]'_ = y at h1 ⊢
      generalize row[i]'_ = x at h2 ⊢
      have h4 : c * x ≤ 1000000000 * 40 := by
        rcases Int.le_total 0 c with h | h
        · exact Int.mul_le_mul h3.2 h2.2 h2.1 (by omega)
        · exact Int.le_trans (Int.mul_nonpos_of_nonpos_of_nonneg h h2.1) (by omega)
      have h5 : -(1000000000 * 40) ≤ c * x := by
        rcases Int.le_total 0 c with h | h
        · exact Int.le_trans (by omega) (Int.mul_nonneg h h2.1)
        · have := Int.mul_le_mul (show -c ≤ 1000000000 by omega) h2.2 h2.1 (by omega)
          rw [Int.neg_mul] at this
          omega
      omega) (fun r hr => hm r (by simp [hr])) (fun d hd => hw d (by simp [hd])) a (by simpa [prods] using ha)
    simp only [List.length_cons]
    omega
/-- one product and one sum of such stay in the range of an int -/
theorem prod_step {c x y : Int} (h1 : -120000000000 ≤ y ∧ y ≤ 120000000000) (h2 : 0 ≤ x ∧ x ≤ 40) (h3 : -1000000000 ≤ c ∧ c ≤ 1000000000) :
    (-40000000000 ≤ c * x ∧ c * x ≤ 40000000000) ∧ -160000000000 ≤ y + c * x ∧ y + c * x ≤ 160000000000 := by
  have h4 : c * x ≤ 1000000000 * 40 := by
    rcases Int.le_total 0 c with h | h
    · exact Int.mul_le_mul h3.2 h2.2 h2.1 (by omega)
    · exact Int.le_trans (Int.mul_nonpos_of_nonpos_of_nonneg h h2.1) (by omega)
  have h5 : -(1000000000 * 40) ≤ c * x := by
    rcases Int.le_total 0 c with h | h
    · exact Int.le_trans (by omega) (Int.mul_nonneg h h2.1)
    · have := Int.mul_le_mul (show -c ≤ 1000000000 by omega) h2.2 h2.1 (by omega)
      rw [Int.neg_mul] at this
      omega
  omega
end Go.Proofs.Ytjleohbjanlamaa
