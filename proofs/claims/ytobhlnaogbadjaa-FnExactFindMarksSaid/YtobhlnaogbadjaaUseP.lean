/- Uses of pages, intervals, marks and their bounds: the plain laws. Conditions: those that each names. -/
import Derived.Test.YtobhlnaogbadjaaReqP
set_option linter.all false
set_option linter.unusedSimpArgs false
set_option linter.unusedVariables false
namespace Go.Proofs.Ytobhlnaogbadjaa

/-! ### the next use -/
/-- the first place behind a place with a page, the number of places if there is none -/
def useP (xs : List Int) (a : Nat) (p : Int) : Nat := a + 1 + (xs.drop (a + 1)).idxOf p
theorem use_gt (xs : List Int) (a : Nat) (p : Int) : a + 1 ≤ useP xs a p := Nat.le_add_right _ _
theorem use_le {xs : List Int} {a : Nat} (p : Int) (h : a < xs.length) : useP xs a p ≤ xs.length := by
  have := List.idxOf_le_length (l := xs.drop (a + 1)) (a := p)
  rw [List.length_drop] at this
  unfold useP
  omega
theorem use_ne {xs : List Int} {a j : Nat} {p : Int} (h1 : a < j) (h2 : j < useP xs a p) (h3 : j < xs.length) : xs.getD j 0 ≠ p := by
  unfold useP at h2
  have h4 := List.not_of_lt_findIdx (p := (· == p)) (xs := xs.drop (a + 1)) (i := j - (a + 1)) (by show _ < List.idxOf p _; omega)
  rw [List.getElem_drop] at h4
  rw [getD_inL h3]
  intro e
  have e2 : xs[a + 1 + (j - (a + 1))]'(by omega) = p := by rw [← e]; congr 1; omega
  simp [e2] at h4
theorem use_at {xs : List Int} {a : Nat} {p : Int} (h : useP xs a p < xs.length) : xs.getD (useP xs a p) 0 = p := by
  have h2 : (xs.drop (a + 1)).idxOf p < (xs.drop (a + 1)).length := by
    rw [List.length_drop]
    unfold useP at h
    omega
  have h3 := List.getElem_idxOf h2
  rw [List.getElem_drop] at h3
  rw [getD_inL h]
  exact h3
theorem use_eq {xs : List Int} {a i : Nat} {p : Int} (h1 : a < i) (h2 : i < xs.length) (h3 : xs.getD i 0 = p) (h4 : ∀ j, a < j → j < i → xs.getD j 0 ≠ p) : useP xs a p = i := by
  have hg := use_gt xs a p
  rcases Nat.lt_trichotomy (useP xs a p) i with h | h | h
  · exact absurd (use_at (by omega)) (h4 _ (by omega) h)
  · exact h
  · exact absurd h3 (use_ne h1 h h2)
/-- the next use of the page of a place, -1 for none -/
def nxI (xs : List Int) (i : Nat) : Int := if useP xs i (xs.getD i 0) < xs.length then (useP xs i (xs.getD i 0) : Int) else -1
def nxL (xs : List Int) : List Int := (List.range xs.length).map (nxI xs)
theorem nxL_at {xs : List Int} {i : Nat} (h : i < xs.length) : (nxL xs).getD i 0 = nxI xs i := by
  unfold nxL
  rw [List.getD_eq_getElem?_getD, List.getElem?_map, List.getElem?_range h]
  rfl
/-! ### the last use -/
/-- one more than the last place ahead of a place with a page, 0 if there is none -/
def lstN (xs : List Int) (p : Int) : Nat → Nat
  | 0 => 0
  | j + 1 => if xs.getD j 0 = p then j + 1 else lstN xs p j
theorem lstN_le (xs : List Int) (p : Int) : ∀ i, lstN xs p i ≤ i
  | 0 => Nat.le_refl _
  | i + 1 => by
    unfold lstN
    split
    · exact Nat.le_refl _
    · have := lstN_le xs p i; omega
theorem lstN_at {xs : List Int} {p : Int} : ∀ {i}, lstN xs p i ≠ 0 → xs.getD (lstN xs p i - 1) 0 = p
  | 0, h => absurd rfl h
  | i + 1, h => by
    unfold lstN at h ⊢
    split
    · rename_i h1
      exact h1
    · rename_i h1
      rw [if_neg h1] at h
      exact lstN_at h
theorem lstN_ne {xs : List Int} {p : Int} : ∀ {i j}, lstN xs p i ≤ j → j < i → xs.getD j 0 ≠ p
  | 0, j, _, h => absurd h (Nat.not_lt_zero _)
  | i + 1, j, h1, h2 => by
    unfold lstN at h1
    split at h1
    · omega
    · rename_i h3
      rcases Nat.lt_or_ge j i with h4 | h4
      · exact lstN_ne h1 h4
      · obtain rfl : j = i := by omega
        exact h3
/-- the last places as the program tells them -/
def lsL (xs : List Int) (k : Nat) : List Int := (List.range k).map fun i => (lstN xs (xs.getD i 0) i : Int) - 1
theorem lsL_at {xs : List Int} {k i : Nat} (h : i < k) : (lsL xs k).getD i 0 = (lstN xs (xs.getD i 0) i : Int) - 1 := by
  unfold lsL
  rw [List.getD_eq_getElem?_getD, List.getElem?_map, List.getElem?_range h]
  rfl
theorem lsL_next (xs : List Int) (k : Nat) : lsL xs (k + 1) = lsL xs k ++ [(lstN xs (xs.getD k 0) k : Int) - 1] := by
  unfold lsL
  rw [List.range_succ, List.map_append]
  rfl
theorem lsL_len (xs : List Int) (k : Nat) : (lsL xs k).length = k := by simp [lsL]
/-- the next uses of which the first t places tell -/
def nxK (xs : List Int) (t : Nat) : List Int := (List.range xs.length).map fun j => if useP xs j (xs.getD j 0) < t then (useP xs j (xs.getD j 0) : Int) else -1
theorem nxK_len (xs : List Int) (t : Nat) : (nxK xs t).length = xs.length := by simp [nxK]
theorem nxK_zero (xs : List Int) : nxK xs 0 = List.replicate xs.length (-1) := by
  unfold nxK
  simp [List.map_const']
theorem nxK_end (xs : List Int) : nxK xs xs.length = nxL xs := rfl
theorem lst_use {xs : List Int} {t j : Nat} (ht : t < xs.length) (hj : j < xs.length) : useP xs j (xs.getD j 0) = t ↔ lstN xs (xs.getD t 0) t = j + 1 := by
  constructor
  · intro h
    have h1 : xs.getD t 0 = xs.getD j 0 := by
      have := use_at (xs := xs) (a := j) (p := xs.getD j 0) (by omega)
      rwa [h] at this
    have hg := use_gt xs j (xs.getD j 0)
    have h2 := lstN_le xs (xs.getD t 0) t
    rcases Nat.lt_trichotomy (lstN xs (xs.getD t 0) t) (j + 1) with h3 | h3 | h3
    · exact absurd h1.symm (lstN_ne (i := t) (j := j) (by omega) (by omega))
    · exact h3
    · have h4 := lstN_at (xs := xs) (p := xs.getD t 0) (i := t) (by omega)
      rw [h1] at h4
      exact absurd (by rw [h1]; exact h4) (use_ne (xs := xs) (a := j) (j := lstN xs (xs.getD t 0) t - 1) (p := xs.getD j 0) (by omega) (by omega) (by omega))
  · intro h
    have h2 := lstN_le xs (xs.getD t 0) t
    have h1 := lstN_at (xs := xs) (p := xs.getD t 0) (i := t) (by omega)
    rw [h, show j + 1 - 1 = j by omega] at h1
    refine use_eq (by omega) ht h1.symm fun m h3 h4 => ?_
    rw [h1]
    exact lstN_ne (i := t) (j := m) (by omega) h4
theorem nxK_set {xs : List Int} {t : Nat} (ht : t < xs.length) (h : lstN xs (xs.getD t 0) t ≠ 0) : (nxK xs t).set (lstN xs (xs.getD t 0) t - 1) t = nxK xs (t + 1) := by
  have hle := lstN_le xs (xs.getD t 0) t
  refine List.ext_getElem (by simp [nxK]) fun j h1 h2 => ?_
  have hj : j < xs.length := by simpa [nxK] using h2
  have hu := lst_use ht hj
  rw [List.getElem_set]
  simp only [nxK, List.getElem_map, List.getElem_range]
  by_cases e : lstN xs (xs.getD t 0) t - 1 = j
  · have e2 : useP xs j (xs.getD j 0) = t := hu.2 (by omega)
    rw [if_pos e, e2, if_pos (by omega)]
  · have e2 : useP xs j (xs.getD j 0) ≠ t := fun h3 => e (by have := hu.1 h3; omega)
    rw [if_neg e]
    by_cases h4 : useP xs j (xs.getD j 0) < t
    · rw [if_pos h4, if_pos (by omega)]
    · rw [if_neg h4, if_neg (by omega)]
theorem nxK_same {xs : List Int} {t : Nat} (ht : t < xs.length) (h : lstN xs (xs.getD t 0) t = 0) : nxK xs (t + 1) = nxK xs t := by
  unfold nxK
  refine List.map_congr_left fun j hj => ?_
  rw [List.mem_range] at hj
  have hu := lst_use ht hj
  have e2 : useP xs j (xs.getD j 0) ≠ t := fun h3 => by have := hu.1 h3; omega
  by_cases h4 : useP xs j (xs.getD j 0) < t
  · rw [if_pos h4, if_pos (by omega)]
  · rw [if_neg h4, if_neg (by omega)]
/-! ### sums -/
def sumN (f : Nat → Int) : Nat → Int
  | 0 => 0
  | n + 1 => sumN f n + f n
theorem sumN_add (f g : Nat → Int) : ∀ n, sumN (fun i => f i + g i) n = sumN f n + sumN g n
  | 0 => rfl
  | n + 1 => by
    show sumN (fun i => f i + g i) n + (f n + g n) = (sumN f n + f n) + (sumN g n + g n)
    rw [sumN_add f g n]
    omega
theorem sumN_congr {f g : Nat → Int} : ∀ {n}, (∀ i, i < n → f i = g i) → sumN f n = sumN g n
  | 0, _ => rfl
  | n + 1, h => by
    show sumN f n + f n = sumN g n + g n
    rw [sumN_congr fun i hi => h i (by omega), h n (by omega)]
theorem sumN_bd {f : Nat → Int} {lo hi : Int} : ∀ {n}, (∀ i, i < n → lo ≤ f i ∧ f i ≤ hi) → (n : Int) * lo ≤ sumN f n ∧ sumN f n ≤ n * hi
  | 0, _ => by simp [sumN]
  | n + 1, h => by
    have h1 := sumN_bd (n := n) fun i hi => h i (by omega)
    have h2 := h n (by omega)
    have e1 : ((n + 1 : Nat) : Int) * lo = n * lo + lo := by rw [Int.natCast_add, Int.add_mul]; simp
    have e2 : ((n + 1 : Nat) : Int) * hi = n * hi + hi := by rw [Int.natCast_add, Int.add_mul]; simp
    show _ ≤ sumN f n + f n ∧ sumN f n + f n ≤ _
    omega
/-! ### what a mark adds -/
/-- whether an interval takes one from what a mark adds behind a last mark -/
def hitI (xs : List Int) (last : Int) (m : Nat) (i : Nat) : Int := if (m : Int) ≤ i then 0 else if nxI xs i < 0 then 1 else if (m : Int) < nxI xs i ∧ (i : Int) < last then 1 else 0
theorem hitI_bd (xs : List Int) (last : Int) (m i : Nat) : 0 ≤ hitI xs last m i ∧ hitI xs last m i ≤ 1 := by
  unfold hitI
  split
  · omega
  · split
    · omega
    · split <;> omega
def gn0 (k : Int) (xs : List Int) (m : Nat) : Int := ((rs (xs.take (m + 1))).length : Int) - k
def gnV (k : Int) (xs : List Int) (last : Int) (m : Nat) : Int := gn0 k xs m - sumN (hitI xs last m) xs.length
theorem rs_short {k n : Nat} {xs : List Int} (h : xs.length ≤ n) : (rs (xs.take k)).length ≤ n := by
  have h1 := rs_len (xs.take k)
  rw [List.length_take] at h1
  omega
theorem gn0_bd {k : Int} {xs : List Int} (h0 : 0 ≤ k) (hk : k ≤ 6) (hn : xs.length ≤ 60) (m : Nat) : -6 ≤ gn0 k xs m ∧ gn0 k xs m ≤ 60 := by
  unfold gn0
  have := rs_short (k := m + 1) hn
  omega
theorem hit_sum (xs : List Int) (hn : xs.length ≤ 60) (last : Int) (m n : Nat) (h : n ≤ xs.length) : 0 ≤ sumN (hitI xs last m) n ∧ sumN (hitI xs last m) n ≤ 60 := by
  have := sumN_bd (f := hitI xs last m) (lo := 0) (hi := 1) (n := n) fun i _ => hitI_bd xs last m i
  omega
theorem gnV_bd {k : Int} {xs : List Int} (h0 : 0 ≤ k) (hk : k ≤ 6) (hn : xs.length ≤ 60) (last : Int) (m : Nat) : -66 ≤ gnV k xs last m ∧ gnV k xs last m ≤ 60 := by
  have h1 := gn0_bd h0 hk hn m
  have h2 := hit_sum xs hn last m xs.length (Nat.le_refl _)
  unfold gnV
  omega
/-! ### the bound of marks -/
/-- the mark ahead of a mark, -1 for none -/
def lastM (ms : List Int) (j : Nat) : Int := if j = 0 then -1 else ms.getD (j - 1) 0
def bdI (k : Int) (xs ms : List Int) (t : Nat) : Int := ((rs xs).length : Int) + sumN (fun j => gnV k xs (lastM ms j) (ms.getD j 0).toNat) t
def bdS (k : Int) (xs ms : List Int) (t : Nat) : Int := ((rs xs).length : Int) + sumN (fun j => gn0 k xs (ms.getD j 0).toNat) t
/-- how many marks an interval has -/
def cntI (xs ms : List Int) (i : Nat) : Int := ((ms.filter fun m => decide ((i : Int) < m ∧ (nxI xs i < 0 ∨ m < nxI xs i))).length : Int)
def cutI (xs : List Int) (i : Nat) (c : Int) : Int := if 0 ≤ nxI xs i then max (c - 1) 0 else c
theorem cntI_snoc (xs ms : List Int) (i : Nat) (m : Int) : cntI xs (ms ++ [m]) i = cntI xs ms i + if (i : Int) < m ∧ (nxI xs i < 0 ∨ m < nxI xs i) then 1 else 0 := by
  unfold cntI
  rw [List.filter_append, List.length_append, Int.natCast_add]
  congr 1
  by_cases h : (i : Int) < m ∧ (nxI xs i < 0 ∨ m < nxI xs i)
  · rw [if_pos h]; simp [h]
  · rw [if_neg h]
    rw [List.filter_cons_of_neg (by simpa using h)]
    rfl
theorem cntI_pos {xs ms : List Int} {i : Nat} : 1 ≤ cntI xs ms i ↔ ∃ m ∈ ms, (i : Int) < m ∧ (nxI xs i < 0 ∨ m < nxI xs i) := by
  unfold cntI
  constructor
  · intro h
    have h1 : 0 < (ms.filter fun m => decide ((i : Int) < m ∧ (nxI xs i < 0 ∨ m < nxI xs i))).length := by omega
    obtain ⟨m, hm⟩ := List.exists_mem_of_length_pos h1
    rw [List.mem_filter] at hm
    exact ⟨m, hm.1, of_decide_eq_true hm.2⟩
  · rintro ⟨m, h1, h2⟩
    have h3 : m ∈ ms.filter fun m => decide ((i : Int) < m ∧ (nxI xs i < 0 ∨ m < nxI xs i)) := List.mem_filter.2 ⟨h1, decide_eq_true h2⟩
    have := List.length_pos_of_mem h3
    omega
theorem cntI_nn (xs ms : List Int) (i : Nat) : 0 ≤ cntI xs ms i := Int.natCast_nonneg _
/-- the marks of a list are right -/
structure MkOK (xs ms : List Int) : Prop where
  lt : ms.Pairwise (· < ·)
  low : ∀ m ∈ ms, 0 ≤ m
  high : ∀ m ∈ ms, m < (xs.length : Int)
theorem mk_at {xs ms : List Int} (h : MkOK xs ms) {t : Nat} (ht : t < ms.length) : ∃ m : Nat, ms.getD t 0 = (m : Int) ∧ m < xs.length := by
  have hm : ms.getD t 0 ∈ ms := by rw [getD_inL ht]; exact List.getElem_mem _
  have h1 := h.low _ hm
  have h2 := h.high _ hm
  exact ⟨(ms.getD t 0).toNat, by omega, by omega⟩
theorem mk_last {xs ms : List Int} (h : MkOK xs ms) {t : Nat} (ht : t < ms.length) : ∀ m ∈ ms.take t, m ≤ lastM ms t ∧ lastM ms t < ms.getD t 0 := fun m hm => by
  obtain ⟨i, hi, rfl⟩ := List.getElem_of_mem hm
  rw [List.getElem_take]
  rw [List.length_take] at hi
  have h0 : t ≠ 0 := by omega
  have hp := List.pairwise_iff_getElem.1 h.lt
  have h1 : (ms.getD (t - 1) 0) = ms[t - 1]'(by omega) := getD_inL (by omega)
  have h2 : (ms.getD t 0) = ms[t]'ht := getD_inL ht
  unfold lastM
  rw [if_neg h0, h1, h2]
  refine ⟨?_, hp (t - 1) t (by omega) ht (by omega)⟩
  rcases Nat.lt_or_ge i (t - 1) with h3 | h3
  · exact Int.le_of_lt (hp i (t - 1) (by omega) (by omega) h3)
  · have : i = t - 1 := by omega
    subst this
    exact Int.le_refl _
theorem cut_step {xs ms : List Int} (h : MkOK xs ms) {t : Nat} (ht : t < ms.length) {i : Nat} : cutI xs i (cntI xs (ms.take (t + 1)) i) = cutI xs i (cntI xs (ms.take t) i) + hitI xs (lastM ms t) (ms.getD t 0).toNat i := by
  obtain ⟨m, hm, hml⟩ := mk_at h ht
  have hl := mk_last h ht
  rw [take_getD ht 0, cntI_snoc, hm, Int.toNat_natCast]
  rw [hm] at hl
  have hnn := cntI_nn xs (ms.take t) i
  unfold hitI
  by_cases h1 : (m : Int) ≤ i
  · rw [if_pos h1, if_neg (by omega), Int.add_zero, Int.add_zero]
  · rw [if_neg h1]
    by_cases h2 : nxI xs i < 0
    · rw [if_pos h2, if_pos ⟨by omega, .inl h2⟩]
      unfold cutI
      rw [if_neg (show ¬ 0 ≤ nxI xs i by omega), if_neg (show ¬ 0 ≤ nxI xs i by omega)]
    · rw [if_neg h2]
      unfold cutI
      rw [if_pos (show 0 ≤ nxI xs i by omega), if_pos (show 0 ≤ nxI xs i by omega)]
      by_cases h3 : (m : Int) < nxI xs i
      · rw [if_pos ⟨by omega, .inr h3⟩]
        by_cases h4 : (i : Int) < lastM ms t
        · rw [if_pos ⟨h3, h4⟩]
          have h0 : t ≠ 0 := fun e => by rw [e] at h4; unfold lastM at h4; rw [if_pos rfl] at h4; omega
          have hmem : lastM ms t ∈ ms.take t := by
            unfold lastM
            rw [if_neg h0, getD_inL (by omega)]
            rw [List.mem_take_iff_getElem]
            exact ⟨t - 1, by omega, rfl⟩
          have h5 : 1 ≤ cntI xs (ms.take t) i := cntI_pos.2 ⟨_, hmem, h4, .inr (by have := (hl _ hmem).2; omega)⟩
          omega
        · rw [if_neg fun h5 => h4 h5.2]
          have h5 : ¬ 1 ≤ cntI xs (ms.take t) i := fun h6 => by
            obtain ⟨x, hx, hx2, _⟩ := cntI_pos.1 h6
            have := (hl x hx).1
            omega
          omega
      · rw [if_neg fun h4 => h4.2.elim h2 h3, if_neg fun h4 => h3 h4.1]
        omega
theorem bd_eq {k : Int} {xs ms : List Int} (h : MkOK xs ms) : ∀ t, t ≤ ms.length → bdI k xs ms t = bdS k xs ms t - sumN (fun i => cutI xs i (cntI xs (ms.take t) i)) xs.length
  | 0, _ => by
    have e : sumN (fun i => cutI xs i (cntI xs (ms.take 0) i)) xs.length = sumN (fun _ => 0) xs.length := sumN_congr fun i _ => by
      show (if 0 ≤ nxI xs i then max ((0 : Int) - 1) 0 else 0) = 0
      split <;> rfl
    have e0 : ∀ n, sumN (fun _ => 0) n = 0 := fun n => by
      induction n with
      | zero => rfl
      | succ n ih => show sumN (fun _ => 0) n + 0 = 0; rw [ih]; rfl
    rw [e, e0]
    show ((rs xs).length : Int) + 0 = (rs xs).length + 0 - 0
    omega
  | t + 1, ht => by
    have ih := bd_eq (k := k) h t (by omega)
    have e : sumN (fun i => cutI xs i (cntI xs (ms.take (t + 1)) i)) xs.length = sumN (fun i => cutI xs i (cntI xs (ms.take t) i)) xs.length + sumN (hitI xs (lastM ms t) (ms.getD t 0).toNat) xs.length := by
      rw [← sumN_add]
      exact sumN_congr fun i _ => cut_step h (by omega)
    have e1 : bdI k xs ms (t + 1) = bdI k xs ms t + gnV k xs (lastM ms t) (ms.getD t 0).toNat := by
      unfold bdI
      show _ + (_ + gnV k xs (lastM ms t) (ms.getD t 0).toNat) = _
      omega
    have e2 : bdS k xs ms (t + 1) = bdS k xs ms t + gn0 k xs (ms.getD t 0).toNat := by
      unfold bdS
      show _ + (_ + gn0 k xs (ms.getD t 0).toNat) = _
      omega
    rw [e, e1, e2, ih]
    unfold gnV
    omega
theorem mk_len {xs ms : List Int} (h : MkOK xs ms) : ms.length ≤ xs.length := by
  have key : ∀ t, t < ms.length → (t : Int) ≤ ms.getD t 0 := fun t => by
    induction t with
    | zero => intro ht; have := h.low (ms.getD 0 0) (by rw [getD_inL ht]; exact List.getElem_mem _); exact this
    | succ t ih =>
      intro ht
      have h1 := ih (by omega)
      have h2 := List.pairwise_iff_getElem.1 h.lt t (t + 1) (by omega) ht (by omega)
      rw [getD_inL (by omega)] at h1
      rw [getD_inL ht]
      omega
  by_cases h0 : ms.length = 0
  · omega
  · have h1 := key (ms.length - 1) (by omega)
    have h2 := h.high (ms.getD (ms.length - 1) 0) (by rw [getD_inL (by omega)]; exact List.getElem_mem _)
    omega
theorem bdI_bd {k : Int} {xs ms : List Int} (h0 : 0 ≤ k) (hk : k ≤ 6) (hn : xs.length ≤ 60) {t : Nat} (ht : t ≤ 60) : -4000 ≤ bdI k xs ms t ∧ bdI k xs ms t ≤ 4000 := by
  have h1 := sumN_bd (f := fun j => gnV k xs (lastM ms j) (ms.getD j 0).toNat) (lo := -66) (hi := 60) (n := t) fun i _ => gnV_bd h0 hk hn _ _
  have h2 := rs_len xs
  unfold bdI
  omega
theorem bdS_bd {k : Int} {xs ms : List Int} (h0 : 0 ≤ k) (hk : k ≤ 6) (hn : xs.length ≤ 60) {t : Nat} (ht : t ≤ 60) : -4000 ≤ bdS k xs ms t ∧ bdS k xs ms t ≤ 4000 := by
  have h1 := sumN_bd (f := fun j => gn0 k xs (ms.getD j 0).toNat) (lo := -6) (hi := 60) (n := t) fun i _ => gn0_bd h0 hk hn _
  have h2 := rs_len xs
  unfold bdS
  omega
theorem cntI_bd (xs ms : List Int) (i : Nat) : cntI xs ms i ≤ (ms.length : Int) := by
  unfold cntI
  have := List.length_filter_le (fun m => decide ((i : Int) < m ∧ (nxI xs i < 0 ∨ m < nxI xs i))) ms
  omega
theorem cutI_bd (xs ms : List Int) (i : Nat) : 0 ≤ cutI xs i (cntI xs ms i) ∧ cutI xs i (cntI xs ms i) ≤ (ms.length : Int) := by
  have h1 := cntI_bd xs ms i
  have h2 := cntI_nn xs ms i
  unfold cutI
  split <;> omega
end Go.Proofs.Ytobhlnaogbadjaa
