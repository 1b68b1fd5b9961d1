/- All algorithms of a problem, in order: the plain laws. Conditions: a problem that is right. -/
import Derived.Test.YtlhdeofkhajigaaLip
set_option linter.all false
set_option linter.unusedSimpArgs false
set_option linter.unusedVariables false
namespace Go.Proofs.Ytlhdeofkhajigaa

/-! ### all lists with a number of each place's own -/
/-- the lists of the first p places, the last place turning first -/
def lstP (o : Nat → List Int) : Nat → List (List Int)
  | 0 => [[]]
  | p + 1 => (lstP o p).flatMap fun l => (o p).map fun t => l ++ [t]
theorem flat_len {α : Type} {f : List Int → List α} {c : Nat} : ∀ {L : List (List Int)}, (∀ l ∈ L, (f l).length = c) → (L.flatMap f).length = L.length * c
  | [], _ => by simp
  | l :: L, h => by
    have h1 := h l (by simp)
    have h2 := flat_len (L := L) fun x hx => h x (by simp [hx])
    simp only [List.flatMap_cons, List.length_append, List.length_cons, Nat.succ_mul]
    omega
theorem flat_get {α : Type} {f : List Int → List α} {c : Nat} {d : α} : ∀ {L : List (List Int)} {i r : Nat}, (∀ l ∈ L, (f l).length = c) → i < L.length → r < c → (L.flatMap f).getD (i * c + r) d = (f (L.getD i [])).getD r d
  | [], i, r, _, hi, _ => by simp at hi
  | l :: L, 0, r, h, _, hr => by
    have h1 := h l (by simp)
    simp only [List.flatMap_cons, Nat.zero_mul, Nat.zero_add, List.getD_cons_zero]
    rw [List.getD_eq_getElem?_getD, List.getElem?_append_left (by omega), ← List.getD_eq_getElem?_getD]
  | l :: L, i + 1, r, h, hi, hr => by
    have h1 := h l (by simp)
    have ih := flat_get (L := L) (i := i) (r := r) (d := d) (fun x hx => h x (by simp [hx])) (by simpa using hi) hr
    simp only [List.flatMap_cons, List.getD_cons_succ]
    rw [← ih, List.getD_eq_getElem?_getD, List.getElem?_append_right (by rw [h1, Nat.succ_mul]; omega), h1, ← List.getD_eq_getElem?_getD]
    congr 1
    rw [Nat.succ_mul]
    omega
def cntP (o : Nat → List Int) : Nat → Nat
  | 0 => 1
  | p + 1 => cntP o p * (o p).length
theorem lstP_len (o : Nat → List Int) : ∀ p, (lstP o p).length = cntP o p
  | 0 => rfl
  | p + 1 => by
    rw [lstP, flat_len (c := (o p).length) fun l _ => by simp, lstP_len o p]
    rfl
theorem lstP_el (o : Nat → List Int) : ∀ p, ∀ l ∈ lstP o p, l.length = p
  | 0, l, hl => by simp [lstP] at hl; simp [hl]
  | p + 1, l, hl => by
    simp only [lstP, List.mem_flatMap, List.mem_map] at hl
    obtain ⟨l', h1, t, h2, rfl⟩ := hl
    simp [lstP_el o p l' h1]
theorem lstP_mem (o : Nat → List Int) : ∀ p, ∀ l ∈ lstP o p, ∀ i, i < p → l.getD i 0 ∈ o i
  | 0, l, hl, i, hi => by omega
  | p + 1, l, hl, i, hi => by
    simp only [lstP, List.mem_flatMap, List.mem_map] at hl
    obtain ⟨l', h1, t, h2, rfl⟩ := hl
    have h3 := lstP_el o p l' h1
    by_cases e : i = p
    · subst e
      rw [List.getD_eq_getElem?_getD, List.getElem?_append_right (by omega), h3]
      simpa using h2
    · rw [List.getD_eq_getElem?_getD, List.getElem?_append_left (by omega), ← List.getD_eq_getElem?_getD]
      exact lstP_mem o p l' h1 i (by omega)
theorem cntP_le {o : Nat → List Int} (h : ∀ p, 0 < (o p).length) (p : Nat) : ∀ q, cntP o p ≤ cntP o (p + q)
  | 0 => Nat.le_refl _
  | q + 1 => by
    have h1 := cntP_le h p q
    have h2 := h (p + q)
    have h3 : cntP o (p + q) * 1 ≤ cntP o (p + q) * (o (p + q)).length := Nat.mul_le_mul_left _ h2
    show cntP o p ≤ cntP o (p + q) * (o (p + q)).length
    omega
theorem lstP_at {o : Nat → List Int} {p j : Nat} (hj : j < cntP o (p + 1)) : (lstP o (p + 1)).getD j [] = (lstP o p).getD (j / (o p).length) [] ++ [(o p).getD (j % (o p).length) 0] := by
  have hc : 0 < (o p).length := by
    rcases Nat.eq_zero_or_pos (o p).length with h | h
    · simp only [cntP, h, Nat.mul_zero] at hj; omega
    · exact h
  have h1 : j / (o p).length < (lstP o p).length := by
    rw [lstP_len]
    exact Nat.div_lt_of_lt_mul (by rw [Nat.mul_comm]; exact hj)
  have h2 := Nat.mod_lt j hc
  have h3 := flat_get (f := fun l => (o p).map fun t => l ++ [t]) (c := (o p).length) (d := []) (L := lstP o p) (i := j / (o p).length) (r := j % (o p).length) (fun l _ => by simp) h1 h2
  rw [show j / (o p).length * (o p).length + j % (o p).length = j by rw [Nat.mul_comm]; exact Nat.div_add_mod _ _] at h3
  rw [lstP, h3, getD_in (by simpa using h2), List.getElem_map, getD_in h2]
/-- the next list: place p - 1 turns first; none behind the last one -/
def nxtP (o : Nat → List Int) (w : Nat → Int → Nat) : Nat → List Int → Option (List Int)
  | 0, _ => none
  | p + 1, l => if w p (l.getD p 0) + 1 < (o p).length then some (l.set p ((o p).getD (w p (l.getD p 0) + 1) 0)) else nxtP o w p (l.set p ((o p).getD 0 0))
theorem app_get {a z : List Int} {x : Int} {p : Nat} (h : a.length = p) : (a ++ x :: z).getD p 0 = x := by
  subst h
  rw [List.getD_eq_getElem?_getD, List.getElem?_append_right (Nat.le_refl _)]
  simp
theorem app_set {a z : List Int} {x y : Int} {p : Nat} (h : a.length = p) : (a ++ x :: z).set p y = a ++ y :: z := by
  subst h
  rw [List.set_append_right _ _ (Nat.le_refl _)]
  simp
theorem nxt_ok {o : Nat → List Int} {w : Nat → Int → Nat} (hw : ∀ p i, i < (o p).length → w p ((o p).getD i 0) = i) : ∀ (p j : Nat) (z : List Int), j < cntP o p →
    nxtP o w p ((lstP o p).getD j [] ++ z) = if j + 1 < cntP o p then some ((lstP o p).getD (j + 1) [] ++ z) else none
  | 0, j, z, hj => by
    have : j = 0 := by simp only [cntP] at hj; omega
    subst this
    simp [nxtP, cntP]
  | p + 1, j, z, hj => by
    have hc : 0 < (o p).length := by
      rcases Nat.eq_zero_or_pos (o p).length with h | h
      · simp only [cntP, h, Nat.mul_zero] at hj; omega
      · exact h
    have h1 : j / (o p).length < cntP o p := Nat.div_lt_of_lt_mul (by rw [Nat.mul_comm]; exact hj)
    have h2 := Nat.mod_lt j hc
    have hdm : j / (o p).length * (o p).length + j % (o p).length = j := by rw [Nat.mul_comm]; exact Nat.div_add_mod _ _
    have hla : ((lstP o p).getD (j / (o p).length) []).length = p := lstP_el o p _ (by rw [getD_in (by rw [lstP_len]; exact h1)]; exact List.getElem_mem _)
    rw [lstP_at hj, List.append_assoc, List.singleton_append]
    simp only [nxtP]
    rw [app_get hla, hw p _ h2]
    by_cases hl : j % (o p).length + 1 < (o p).length
    · have e1 : (j + 1) / (o p).length = j / (o p).length := by
        rw [show j + 1 = (j % (o p).length + 1) + (o p).length * (j / (o p).length) by rw [Nat.mul_comm]; omega, Nat.add_mul_div_left _ _ hc, Nat.div_eq_of_lt hl]
        omega
      have e2 : (j + 1) % (o p).length = j % (o p).length + 1 := by
        rw [show j + 1 = (j % (o p).length + 1) + (o p).length * (j / (o p).length) by rw [Nat.mul_comm]; omega, Nat.add_mul_mod_self_left, Nat.mod_eq_of_lt hl]
      have hj1 : j + 1 < cntP o (p + 1) := by
        have h3 : (j / (o p).length + 1) * (o p).length ≤ cntP o p * (o p).length := Nat.mul_le_mul_right _ h1
        rw [Nat.add_mul, Nat.one_mul] at h3
        show _ < cntP o p * _
        omega
      rw [if_pos hl, if_pos hj1, lstP_at hj1, e1, e2, app_set hla, List.append_assoc, List.singleton_append]
    · have e0 : j % (o p).length + 1 = (o p).length := by omega
      have e3 : j + 1 = (j / (o p).length + 1) * (o p).length := by rw [Nat.add_mul, Nat.one_mul]; omega
      have e1 : (j + 1) / (o p).length = j / (o p).length + 1 := by rw [e3, Nat.mul_div_cancel _ hc]
      have e2 : (j + 1) % (o p).length = 0 := by rw [e3, Nat.mul_mod_left]
      rw [if_neg hl, app_set hla, nxt_ok hw p _ _ h1]
      by_cases hj1 : j + 1 < cntP o (p + 1)
      · have h4 : j / (o p).length + 1 < cntP o p := by
          have h5 : (j / (o p).length + 1) * (o p).length < cntP o p * (o p).length := by rw [← e3]; exact hj1
          exact Nat.lt_of_mul_lt_mul_right h5
        rw [if_pos h4, if_pos hj1, lstP_at hj1, e1, e2, List.append_assoc, List.singleton_append]
      · have h4 : ¬ j / (o p).length + 1 < cntP o p := fun h5 => hj1 (by
          have h6 : (j / (o p).length + 1) * (o p).length < cntP o p * (o p).length := Nat.mul_lt_mul_of_pos_right h5 hc
          rw [← e3] at h6
          exact h6)
        rw [if_neg h4, if_neg hj1]
/-- the list in rows of K -/
def rowsP (K n : Nat) (l : List Int) : List (List Int) := (List.range n).map fun i => (l.drop (i * K)).take K
theorem rowsP_len (K n : Nat) (l : List Int) : (rowsP K n l).length = n := by simp [rowsP]
theorem rowsP_row {K n : Nat} {l : List Int} {i : Nat} (hi : i < n) : (rowsP K n l).getD i [] = (l.drop (i * K)).take K := by
  rw [getD_in (by simpa [rowsP] using hi)]
  simp [rowsP]
theorem mulK {K n i : Nat} (hi : i < n) : i * K + K ≤ n * K := by
  have h1 := Nat.mul_le_mul_right K (show i + 1 ≤ n by omega)
  rw [Nat.succ_mul] at h1
  exact h1
theorem rowsP_rlen {K n : Nat} {l : List Int} (hl : l.length = n * K) {i : Nat} (hi : i < n) : ((rowsP K n l).getD i []).length = K := by
  have h1 := mulK (K := K) hi
  rw [rowsP_row hi, List.length_take, List.length_drop]
  omega
theorem rowsP_at {K n : Nat} {l : List Int} {i r : Nat} (hi : i < n) (hr : r < K) : ((rowsP K n l).getD i []).getD r 0 = l.getD (i * K + r) 0 := by
  rw [rowsP_row hi, List.getD_eq_getElem?_getD, List.getElem?_take, if_pos hr, List.getElem?_drop, ← List.getD_eq_getElem?_getD]
theorem rowsP_set {K n : Nat} {l : List Int} (hl : l.length = n * K) {i r : Nat} (hi : i < n) (hr : r < K) (x : Int) : (rowsP K n l).set i (((rowsP K n l).getD i []).set r x) = rowsP K n (l.set (i * K + r) x) := by
  have h0 := mulK (K := K) hi
  refine List.ext_getElem (by simp [rowsP]) fun j h1 h2 => ?_
  have hj : j < n := by simpa [rowsP] using h2
  have h3 := mulK (K := K) hj
  rw [List.getElem_set]
  have e1 : (rowsP K n (l.set (i * K + r) x))[j] = ((l.set (i * K + r) x).drop (j * K)).take K := by simp [rowsP]
  have e2 : (rowsP K n l)[j]'(by simpa [rowsP] using hj) = (l.drop (j * K)).take K := by simp [rowsP]
  rw [e1]
  by_cases e : i = j
  · subst e
    rw [if_pos rfl, rowsP_row hi]
    refine List.ext_getElem? fun k => ?_
    rw [List.getElem?_set, List.getElem?_take, List.getElem?_take, List.getElem?_drop, List.getElem?_drop, List.getElem?_set]
    simp only [List.length_take, List.length_drop]
    by_cases hk : r = k
    · subst hk
      rw [if_pos rfl, if_pos hr, if_pos rfl, if_pos (by omega), if_pos (by omega)]
    · rw [if_neg hk]
      by_cases hkK : k < K
      · rw [if_pos hkK, if_pos hkK, if_neg (by omega)]
      · rw [if_neg hkK, if_neg hkK]
  · rw [if_neg e, e2]
    refine List.ext_getElem? fun k => ?_
    rw [List.getElem?_take, List.getElem?_take, List.getElem?_drop, List.getElem?_drop, List.getElem?_set]
    by_cases hk : k < K
    · rw [if_pos hk, if_pos hk, if_neg]
      intro h4
      rcases Nat.lt_or_gt_of_ne e with h5 | h5
      · have h6 := mulK (K := K) h5
        omega
      · have h6 := mulK (K := K) h5
        omega
    · rw [if_neg hk, if_neg hk]
/-- the first list -/
theorem lstP_zero {o : Nat → List Int} (h : ∀ p, 0 < (o p).length) : ∀ p, (lstP o p).getD 0 [] = (List.range p).map fun i => (o i).getD 0 0
  | 0 => rfl
  | p + 1 => by
    have h1 : ∀ q, 0 < cntP o q := fun q => by have := cntP_le h 0 q; simp only [Nat.zero_add] at this; exact this
    rw [lstP_at (h1 _), Nat.zero_div, Nat.zero_mod, lstP_zero h p, List.range_succ, List.map_append]
    rfl
theorem cntP_pos {o : Nat → List Int} (h : ∀ p, 0 < (o p).length) (p : Nat) : 0 < cntP o p := by
  have := cntP_le h 0 p
  simp only [Nat.zero_add] at this
  exact this
/-! ### how many there are -/
/-- the product of the first k -/
def prodN (c : Nat → Nat) : Nat → Nat
  | 0 => 1
  | k + 1 => prodN c k * c k
theorem cnt_rows {o : Nat → List Int} {c : Nat → Nat} {K : Nat} (h : ∀ i r, r < K → (o (i * K + r)).length = c r) (i : Nat) : ∀ r, r ≤ K → cntP o (i * K + r) = cntP o (i * K) * prodN c r
  | 0, _ => by simp [prodN]
  | r + 1, hr => by
    have ih := cnt_rows h i r (by omega)
    show cntP o (i * K + r) * (o (i * K + r)).length = _
    rw [ih, h i r (by omega), prodN, Nat.mul_assoc]
theorem cnt_all {o : Nat → List Int} {c : Nat → Nat} {K : Nat} (h : ∀ i r, r < K → (o (i * K + r)).length = c r) : ∀ i, cntP o (i * K) = prodN c K ^ i
  | 0 => by simp [cntP]
  | i + 1 => by
    rw [Nat.succ_mul, cnt_rows h i K (Nat.le_refl _), cnt_all h i, Nat.pow_succ]
theorem prodN_pow (c : Nat → Nat) (n : Nat) : ∀ k, prodN (fun r => c r ^ n) k = prodN c k ^ n
  | 0 => by simp [prodN]
  | k + 1 => by rw [prodN, prodN_pow c n k, prodN, Nat.mul_pow]
/-! ### algorithms -/
/-- the states in which the request of place p can be served -/
def opP (m s : List (List Int)) (p : Nat) : List Int := srv s m.length (p % s.length)
def whP (m s : List (List Int)) (p : Nat) (x : Int) : Nat := (idxOf (fun y => decide (x = y)) (opP m s p)).toNat
theorem srv_lt (s : List (List Int)) (n r : Nat) : (srv s n r).Pairwise (· < ·) := by
  unfold srv
  rw [List.pairwise_map]
  exact (List.pairwise_lt_range.filter _).imp fun h => by omega
theorem srv_idx {s : List (List Int)} {n r i : Nat} (hi : i < (srv s n r).length) : idxOf (fun y => decide ((srv s n r).getD i 0 = y)) (srv s n r) = i := by
  refine idxOf_some hi (decide_eq_true (getD_in hi)) fun x hx => decide_eq_false fun e => ?_
  obtain ⟨j, hj, rfl⟩ := List.mem_take_iff_getElem.1 hx
  have h1 := List.pairwise_iff_getElem.1 (srv_lt s n r) j i (by omega) hi (by omega)
  rw [getD_in hi] at e
  omega
theorem op_pos {m s : List (List Int)} (hp : probB m s = true) (p : Nat) : 0 < (opP m s p).length := by
  have hl := prob_len hp
  obtain ⟨y, hy, h1⟩ := prob_any hp (Nat.mod_lt p (show 0 < s.length by omega))
  unfold opP srv
  rw [List.length_map]
  exact List.length_pos_of_mem (List.mem_filter.2 ⟨List.mem_range.2 hy, decide_eq_true h1⟩)
theorem op_le {m s : List (List Int)} (hp : probB m s = true) (p : Nat) : (opP m s p).length ≤ 4 := by
  have hl := prob_len hp
  unfold opP srv
  rw [List.length_map]
  have := List.length_filter_le (fun y => decide (0 ≤ at2 s (p % s.length) y)) (List.range m.length)
  rw [List.length_range] at this
  omega
theorem op_mem {m s : List (List Int)} {p : Nat} {x : Int} (h : x ∈ opP m s p) : ∃ y : Nat, x = y ∧ y < m.length ∧ 0 ≤ at2 s (p % s.length) y := by
  unfold opP srv at h
  rw [List.mem_map] at h
  obtain ⟨y, hy, rfl⟩ := h
  rw [List.mem_filter, List.mem_range] at hy
  exact ⟨y, rfl, hy.1, of_decide_eq_true hy.2⟩
theorem wh_ok {m s : List (List Int)} (p i : Nat) (hi : i < (opP m s p).length) : whP m s p ((opP m s p).getD i 0) = i := by
  unfold whP
  unfold opP at hi ⊢
  rw [srv_idx hi]
  exact Int.toNat_natCast i
/-- the j-th algorithm, as one list -/
def algL (m s : List (List Int)) (j : Nat) : List Int := (lstP (opP m s) (m.length * s.length)).getD j []
def algT (m s : List (List Int)) (j : Nat) : List (List Int) := rowsP s.length m.length (algL m s j)
def algN (m s : List (List Int)) : Nat := cntP (opP m s) (m.length * s.length)
theorem algL_len {m s : List (List Int)} {j : Nat} (hj : j < algN m s) : (algL m s j).length = m.length * s.length :=
  lstP_el _ _ _ (by unfold algL; rw [getD_in (by rw [lstP_len]; exact hj)]; exact List.getElem_mem _)
theorem algL_at {m s : List (List Int)} {j p : Nat} (hj : j < algN m s) (hp : p < m.length * s.length) : (algL m s j).getD p 0 ∈ opP m s p :=
  lstP_mem _ _ _ (by unfold algL; rw [getD_in (by rw [lstP_len]; exact hj)]; exact List.getElem_mem _) p hp
theorem rows_alg {m s : List (List Int)} {l : List Int} (hl : l.length = m.length * s.length) (h : ∀ p, p < m.length * s.length → l.getD p 0 ∈ opP m s p) : algB m s (rowsP s.length m.length l) = true := by
  unfold algB
  simp only [Bool.and_eq_true, beq_iff_eq, List.all_eq_true]
  refine ⟨rowsP_len _ _ _, fun row hr => ?_⟩
  obtain ⟨i, hi, rfl⟩ := List.mem_iff_getElem.1 hr
  have hi' : i < m.length := by rw [rowsP_len] at hi; exact hi
  have e : (rowsP s.length m.length l)[i] = (rowsP s.length m.length l).getD i [] := (getD_in hi).symm
  rw [e]
  have hrl := rowsP_rlen (K := s.length) hl hi'
  unfold servB
  simp only [Bool.and_eq_true, beq_iff_eq]
  refine ⟨hrl, allLt_iff.2 fun r hr => ?_⟩
  rw [hrl] at hr
  have hm := mulK (K := s.length) hi'
  have h1 := h (i * s.length + r) (by omega)
  rw [rowsP_at hi' hr]
  obtain ⟨y, h2, h3, h4⟩ := op_mem h1
  rw [h2]
  have e2 : (i * s.length + r) % s.length = r := by rw [Nat.mul_comm, Nat.mul_add_mod, Nat.mod_eq_of_lt hr]
  rw [e2] at h4
  unfold toOk
  simp only [Bool.and_eq_true]
  exact ⟨rng_iff.2 ⟨by omega, by omega⟩, decide_eq_true (by rw [Int.toNat_natCast]; exact h4)⟩
theorem alg_ok {m s : List (List Int)} {j : Nat} (hj : j < algN m s) : algB m s (algT m s j) = true := rows_alg (algL_len hj) fun _ hp => algL_at hj hp
theorem alg_next {m s : List (List Int)} {j : Nat} (hj : j < algN m s) : nxtP (opP m s) (whP m s) (m.length * s.length) (algL m s j) = if j + 1 < algN m s then some (algL m s (j + 1)) else none := by
  have := nxt_ok (o := opP m s) (w := whP m s) (fun p i hi => wh_ok p i hi) (m.length * s.length) j [] hj
  simpa [algL, algN] using this
theorem algN_pos {m s : List (List Int)} (hp : probB m s = true) : 0 < algN m s := cntP_pos (op_pos hp) _
theorem alg_zero {m s : List (List Int)} (hp : probB m s = true) : algL m s 0 = (List.range (m.length * s.length)).map fun p => (opP m s p).getD 0 0 := lstP_zero (op_pos hp) _
/-- how many there are -/
def cR (m s : List (List Int)) (r : Nat) : Nat := (srv s m.length r).length
theorem op_cR {m s : List (List Int)} (i r : Nat) (hr : r < s.length) : (opP m s (i * s.length + r)).length = cR m s r := by
  unfold opP cR
  rw [Nat.mul_comm, Nat.mul_add_mod, Nat.mod_eq_of_lt hr]
theorem algN_eq (m s : List (List Int)) : algN m s = prodN (cR m s) s.length ^ m.length := cnt_all (fun i r hr => op_cR i r hr) m.length
end Go.Proofs.Ytlhdeofkhajigaa
