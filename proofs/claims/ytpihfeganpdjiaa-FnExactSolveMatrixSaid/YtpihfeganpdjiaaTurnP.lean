/- A matrix turned, and least numbers: the plain laws. Conditions: none. -/
set_option linter.all false
set_option linter.unusedSimpArgs false
set_option linter.unusedVariables false
namespace Go.Proofs.Ytpihfeganpdjiaa

/-- column j of a matrix -/
def colOf (m : List (List Int)) (j : Nat) : List Int := m.map fun r => r.getD j 0
/-- the n columns of a matrix -/
def colsOf (n : Nat) (m : List (List Int)) : List (List Int) := (List.range n).map (colOf m)
theorem colsOf_len (n : Nat) (m : List (List Int)) : (colsOf n m).length = n := by simp [colsOf]
theorem colsOf_at (n : Nat) (m : List (List Int)) (j : Nat) (h : j < (colsOf n m).length) : (colsOf n m)[j] = colOf m j := by simp [colsOf]
theorem colOf_snoc (m : List (List Int)) (r : List Int) (j : Nat) : colOf (m ++ [r]) j = colOf m j ++ [r.getD j 0] := by simp [colOf]
/-- what 'turned' has after i rows and j numbers of the next one -/
def turnTo (n : Nat) (m : List (List Int)) (r : List Int) (j : Nat) : List (List Int) := (colsOf n (m ++ [r])).take j ++ (colsOf n m).drop j
theorem turnTo_len (n : Nat) (m : List (List Int)) (r : List Int) (j : Nat) (h : j ≤ n) : (turnTo n m r j).length = n := by simp [turnTo, colsOf_len]; omega
theorem turnTo_zero (n : Nat) (m : List (List Int)) (r : List Int) : turnTo n m r 0 = colsOf n m := by simp [turnTo]
theorem turnTo_all (n : Nat) (m : List (List Int)) (r : List Int) : turnTo n m r n = colsOf n (m ++ [r]) := by
  unfold turnTo
  rw [List.take_of_length_le (by rw [colsOf_len]; exact Nat.le_refl _), List.drop_eq_nil_of_le (by rw [colsOf_len]; exact Nat.le_refl _), List.append_nil]
theorem turnTo_at (n : Nat) (m : List (List Int)) (r : List Int) (j : Nat) (h : j < n) (h' : j < (turnTo n m r j).length) : (turnTo n m r j)[j] = colOf m j := by
  have e : (turnTo n m r j)[j]? = some (colOf m j) := by
    unfold turnTo
    rw [List.getElem?_append_right (by simp [colsOf_len]; omega)]
    simp only [List.length_take, colsOf_len, List.getElem?_drop]
    rw [show j + (j - min j n) = j by omega, List.getElem?_eq_getElem (by rw [colsOf_len]; exact h), colsOf_at]
  rw [List.getElem?_eq_getElem h'] at e
  exact Option.some.inj e
theorem turnTo_set (n : Nat) (m : List (List Int)) (r : List Int) (j : Nat) (h : j < n) : (turnTo n m r j).set j (colOf m j ++ [r.getD j 0]) = turnTo n m r (j + 1) := by
  have h1 : j < (colsOf n m).length := by rw [colsOf_len]; exact h
  have h2 : j < (colsOf n (m ++ [r])).length := by rw [colsOf_len]; exact h
  unfold turnTo
  rw [List.drop_eq_getElem_cons h1, List.set_append_right _ _ (by simp; omega), show ((colsOf n (m ++ [r])).take j).length = j by simp [colsOf_len]; omega, Nat.sub_self, List.set_cons_zero,
    List.take_succ_eq_append_getElem h2, List.append_assoc, colsOf_at, colOf_snoc]
  rfl
theorem colsOf_take (n : Nat) (m : List (List Int)) (k : Nat) (h : k < n) : (colsOf n m).take (k + 1) = (colsOf n m).take k ++ [colOf m k] := by
  rw [List.take_succ_eq_append_getElem (by rw [colsOf_len]; exact h), colsOf_at]

/-- the least of some numbers and another one -/
def leastOf (a : Int) (xs : List Int) : Int := xs.foldl min a
theorem leastOf_take (a : Int) (xs : List Int) (k : Nat) (h : k < xs.length) : leastOf a (xs.take (k + 1)) = min (leastOf a (xs.take k)) xs[k] := by
  unfold leastOf
  rw [List.take_succ_eq_append_getElem h, List.foldl_append]
  rfl
theorem leastOf_le : ∀ (xs : List Int) (a : Int), leastOf a xs ≤ a
  | [], _ => Int.le_refl _
  | x :: xs, a => Int.le_trans (leastOf_le xs (min a x)) (Int.min_le_left a x)
theorem leastOf_ge {B : Int} : ∀ (xs : List Int) (a : Int), B ≤ a → (∀ x ∈ xs, B ≤ x) → B ≤ leastOf a xs
  | [], _, h, _ => h
  | x :: xs, a, h, hx => leastOf_ge xs (min a x) (Int.le_min.2 ⟨h, hx x (by simp)⟩) fun y hy => hx y (by simp [hy])
end Go.Proofs.Ytpihfeganpdjiaa
