/- How many new items a phase has, and harmonic numbers: the plain laws. Conditions: those that each names. -/
import Derived.Test.YtiaddmelbonhcaaClean
import Derived.Test.YtiaddmelbonhcaaFracP
set_option linter.all false
set_option linter.unusedSimpArgs false
set_option linter.unusedVariables false
namespace Go.Proofs.Ytiaddmelbonhcaa

theorem phL_filter {size : Int} {xs : List Int} {m : Nat} : ∀ n, m ≤ n → phL size xs m = (phL size xs n).filter fun x => decide (x < m)
  | 0, h => by
    obtain rfl : m = 0 := by omega
    rfl
  | n + 1, h => by
    rcases Nat.lt_or_ge n m with h1 | h1
    · obtain rfl : m = n + 1 := by omega
      rw [List.filter_eq_self.2 fun x hx => decide_eq_true (phL_mem _ x hx)]
    · have ih := phL_filter (size := size) (xs := xs) n h1
      rw [phL]
      split
      · rw [List.filter_append, ← ih]
        simp
        omega
      · exact ih
theorem filter_take {l : List Nat} (h : l.Pairwise (· < ·)) {i : Nat} {e : Nat} (hi : i < l.length) (h1 : l.getD i 0 < e) (h2 : ∀ (hj : i + 1 < l.length), e ≤ l.getD (i + 1) 0) : l.filter (fun x => decide (x < e)) = l.take (i + 1) := by
  have e1 : l = l.take (i + 1) ++ l.drop (i + 1) := (List.take_append_drop _ _).symm
  have k1 : (l.take (i + 1)).filter (fun x => decide (x < e)) = l.take (i + 1) := List.filter_eq_self.2 fun x hx => by
    obtain ⟨j, hj, rfl⟩ := List.getElem_of_mem hx
    simp only [List.length_take] at hj
    rw [List.getElem_take]
    rw [getD_inL hi] at h1
    refine decide_eq_true ?_
    rcases Nat.lt_or_ge j i with h3 | h3
    · have := List.pairwise_iff_getElem.1 h j i (by omega) hi h3
      omega
    · obtain rfl : j = i := by omega
      exact h1
  have k2 : (l.drop (i + 1)).filter (fun x => decide (x < e)) = [] := List.filter_eq_nil_iff.2 fun x hx => by
    obtain ⟨j, hj, rfl⟩ := List.getElem_of_mem hx
    simp only [List.length_drop] at hj
    rw [List.getElem_drop]
    have h3 := h2 (by omega)
    rw [getD_inL (by omega)] at h3
    have h4 : l[i + 1]'(by omega) ≤ l[i + 1 + j]'(by omega) := by
      rcases Nat.eq_zero_or_pos j with rfl | h5
      · exact Nat.le_refl _
      · exact Nat.le_of_lt (List.pairwise_iff_getElem.1 h (i + 1) (i + 1 + j) (by omega) (by omega) (by omega))
    simp
    omega
  have e2 : l.filter (fun x => decide (x < e)) = (l.take (i + 1) ++ l.drop (i + 1)).filter (fun x => decide (x < e)) := congrArg _ e1
  rw [e2, List.filter_append, k1, k2, List.append_nil]
theorem itm_own {size : Int} {xs : List Int} {i : Nat} (hi : i < (phL size xs xs.length).length) : itm size xs (phB size xs (i + 1)) = ownP size xs i := by
  have h1 := phB_lt hi
  have e : phL size xs (phB size xs (i + 1)) = (phL size xs xs.length).take (i + 1) := by
    rw [phL_filter (size := size) (xs := xs) xs.length h1.2]
    refine filter_take (phL_lt _) hi ?_ fun hj => ?_
    · rw [← phB_in hi]; exact h1.1
    · rw [phB_in hj]
      exact Nat.le_refl _
  unfold itm ownP
  rw [e, phB_in hi, take_getD hi 0, getLastD_snoc]
theorem itm_size {size : Int} {xs : List Int} (hs : 1 ≤ size) : ∀ i, i ≤ xs.length → ((itm size xs i).length : Int) ≤ size
  | 0, _ => by
    have := itm_len (size := size) (xs := xs) 0
    omega
  | i + 1, h => by
    rw [itm_next (by omega)]
    split
    · simpa using hs
    · omega
theorem ownP_size {size : Int} {xs : List Int} (hs : 1 ≤ size) {i : Nat} (hi : i < (phL size xs xs.length).length) : ((ownP size xs i).length : Int) ≤ size := by
  rw [← itm_own hi]
  exact itm_size hs _ (phB_lt hi).2
theorem cnt_size {size : Int} {xs : List Int} (hs : 1 ≤ size) {i : Nat} (hi : i < (phL size xs xs.length).length) : ((opn (ownP size xs i) (prvP size xs i)).length : Int) ≤ size := by
  have h1 := ownP_size hs hi
  have h2 : (opn (ownP size xs i) (prvP size xs i)).length ≤ (ownP size xs i).length := List.length_filter_le _ _
  omega
/-! ### harmonic numbers, as sixtieths -/
def hN (n : Nat) : Int := ([0, 60, 90, 110, 125, 137, 147] : List Int).getD n 0
theorem hN_bd (n : Nat) : 0 ≤ hN n ∧ hN n ≤ 147 := by
  unfold hN
  match n with
  | 0 => decide
  | 1 => decide
  | 2 => decide
  | 3 => decide
  | 4 => decide
  | 5 => decide
  | 6 => decide
  | n + 7 => simp
theorem hN_next {n : Nat} (h : n < 6) : hN (n + 1) = hN n + 60 / ((n : Int) + 1) := by
  match n, h with
  | 0, _ => decide
  | 1, _ => decide
  | 2, _ => decide
  | 3, _ => decide
  | 4, _ => decide
  | 5, _ => decide
theorem fr_zero {D : Int} (h : 0 < D) : mkFr 0 D = (0, 1) := by
  have e : mkFr 0 D = mkFr 0 1 := (fr_cross h (by decide) (by simp)).2
  rw [e]
  decide +kernel
theorem fr_inv {n : Nat} (h : n < 6) : IsFr (1, (n : Int) + 1) (60 / ((n : Int) + 1)) 60 := by
  match n, h with
  | 0, _ => exact ⟨by decide +kernel, by decide, by decide⟩
  | 1, _ => exact ⟨by decide +kernel, by decide, by decide⟩
  | 2, _ => exact ⟨by decide +kernel, by decide, by decide⟩
  | 3, _ => exact ⟨by decide +kernel, by decide, by decide⟩
  | 4, _ => exact ⟨by decide +kernel, by decide, by decide⟩
  | 5, _ => exact ⟨by decide +kernel, by decide, by decide⟩
theorem fr_har (n : Nat) : IsFr (mkFr (hN n) 60) (hN n) 60 := by
  have := hN_bd n
  exact isFr_small (by decide) (by decide) (by omega) (by omega)
/-- what a phase with c new items adds to the bound, as sixtieths -/
def mbT (s c : Nat) : Int := (hN s - hN c + 60) * c
theorem mbT_bd {s c : Nat} (hc : c ≤ 6) : -1242 ≤ mbT s c ∧ mbT s c ≤ 1242 := by
  have h1 := hN_bd s
  have h2 := hN_bd c
  have := mul_bd (x := hN s - hN c + 60) (y := (c : Int)) (X := 207) (Y := 6) ⟨by omega, by omega⟩ ⟨by omega, by omega⟩
  unfold mbT
  omega
/-- the bound of the first k phases, as sixtieths -/
def mbS (size : Int) (xs : List Int) : Nat → Int
  | 0 => 0
  | k + 1 => mbS size xs k + mbT size.toNat (opn (ownP size xs k) (prvP size xs k)).length
theorem mbS_bd {size : Int} {xs : List Int} (hs : 1 ≤ size) (hs2 : size ≤ 6) : ∀ k, k ≤ (phL size xs xs.length).length → -(1242 * (k : Int)) ≤ mbS size xs k ∧ mbS size xs k ≤ 1242 * (k : Int)
  | 0, _ => by simp [mbS]
  | k + 1, h => by
    have ih := mbS_bd (xs := xs) hs hs2 k (by omega)
    have h1 := cnt_size (xs := xs) hs (i := k) (by omega)
    have h2 := mbT_bd (s := size.toNat) (c := (opn (ownP size xs k) (prvP size xs k)).length) (by omega)
    simp only [mbS]
    omega
def mbV (size : Int) (xs : List Int) : Int × Int := mkFr (mbS size xs (phL size xs xs.length).length) 60
end Go.Proofs.Ytiaddmelbonhcaa
