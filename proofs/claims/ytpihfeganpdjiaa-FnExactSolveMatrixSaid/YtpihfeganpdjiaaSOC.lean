/- A choice solved by the program is one solved by the reference: the plain law. Conditions: those that each names. -/
import Derived.Test.YtpihfeganpdjiaaSolX
import Derived.Test.YtpihfeganpdjiaaFracP
set_option linter.all false
set_option linter.unusedSimpArgs false
set_option linter.unusedVariables false
namespace Go.Proofs.Ytpihfeganpdjiaa

/-! ### turned parts -/
theorem part_turned {m : List (List Int)} {c k : Nat} {rs cs : List Int} (h1 : PlQ rs k m.length) (h2 : PlQ cs k c) : colsOf k (partL m rs cs) = partL (colsOf c m) cs rs := by
  have hr := h1.len
  have hc := h2.len
  refine List.ext_getElem (by rw [colsOf_len, partL_len, hc]) fun j g1 g2 => ?_
  have hj : j < k := by rw [colsOf_len] at g1; exact g1
  rw [colsOf_at]
  have e2 : (partL (colsOf c m) cs rs)[j] = partR (colsOf c m) cs[j] rs := by simp [partL]
  rw [e2]
  refine List.ext_getElem (by rw [colOf_len, partL_len, partR_len]) fun i g3 g4 => ?_
  have hi : i < k := by rw [colOf_len, partL_len, hr] at g3; exact g3
  have hri := h1.lt rs[i] (List.getElem_mem _)
  have hcj := h2.lt cs[j] (List.getElem_mem _)
  have a1 : (colOf (partL m rs cs) j)[i] = at2L m rs[i].toNat cs[j].toNat := by
    simp only [colOf, partL, partR, List.getElem_map]
    rw [getD_inQ (by rw [List.length_map]; omega)]
    simp
  have a2 : (partR (colsOf c m) cs[j] rs)[i] = at2L (colsOf c m) cs[j].toNat rs[i].toNat := by simp [partR]
  rw [a1, a2]
  unfold at2L
  rw [colsOf_getD (by omega), colOf_getD (by omega)]
/-! ### signs -/
theorem sgF_mul {e d : Int} (he : e = 1 ∨ e = -1) (hd : d ≠ 0) : sgF (e * d) * e = sgF d := by
  unfold sgF
  rcases he with rfl | rfl
  · simp
  · by_cases h : d < 0
    · rw [if_pos h, if_neg (by omega)]; rfl
    · rw [if_neg h, if_pos (by omega)]; rfl
theorem sgE_pm (n : Nat) : sgE n = 1 ∨ sgE n = -1 := by
  unfold sgE
  split
  · exact .inr rfl
  · exact .inl rfl
theorem sgF_abs {d : Int} (hd : d ≠ 0) : 1 ≤ sgF d * d := by
  unfold sgF
  split <;> omega
/-- the sum that all columns share -/
def vQ (k : Nat) (sq : List (List Int)) : Int := sgF (detL k (sysI k sq)) * (sgE k * solS k sq k)
def dQ (k : Nat) (sq : List (List Int)) : Int := sgF (detL k (sysI k sq)) * detL k (sysI k sq)
theorem solv_eq {k : Nat} {sq : List (List Int)} (h1 : 1 ≤ k) (h3 : k ≤ 3) (hl : sq.length = k) (hr : ∀ r ∈ sq, r.length = k) (hd : detL k (sysI k sq) ≠ 0) : solvL k sq = balL k sq ++ [vQ k sq, dQ k sq] := by
  have he := den_eq h1 h3 hl hr
  have hn : detL (k + 1) (sysS k sq) ≠ 0 := by
    rw [he]
    rcases sgE_pm k with h | h <;> rw [h] <;> omega
  have hs := sgF_mul (sgE_pm k) hd
  unfold solvL
  rw [if_neg hn, solK_next, he]
  rw [List.append_assoc]
  congr 1
  · unfold solK balL
    refine List.map_congr_left fun i hi => ?_
    rw [sol_eq h1 h3 hl hr i (List.mem_range.1 hi), ← Int.mul_assoc, hs]
  · unfold vQ dQ
    rw [← hs]
    simp only [List.singleton_append, List.cons.injEq, and_true]
    rcases sgE_pm k with h | h <;> rw [h] <;> constructor <;> grind
theorem solv_no {k : Nat} {sq : List (List Int)} (h1 : 1 ≤ k) (h3 : k ≤ 3) (hl : sq.length = k) (hr : ∀ r ∈ sq, r.length = k) (hd : detL k (sysI k sq) = 0) : solvL k sq = [] := by
  unfold solvL
  rw [if_pos (by rw [den_eq h1 h3 hl hr, hd, Int.mul_zero])]
theorem balL_at {k : Nat} {sq : List (List Int)} {i : Nat} (h : i < k) : (balL k sq).getD i 0 = sgF (detL k (sysI k sq)) * solI k sq i := by
  rw [getD_inQ (by rw [balL_len]; exact h)]
  simp [balL]
theorem smD_mul (g : Int) (f : Nat → Int) : ∀ n, smD (fun i => g * f i) n = g * smD f n
  | 0 => by simp [smD]
  | n + 1 => by
    show smD (fun i => g * f i) n + g * f n = g * (smD f n + f n)
    rw [smD_mul g f n, Int.mul_add]
theorem bal_sum {k : Nat} {sq : List (List Int)} (h1 : 1 ≤ k) (h3 : k ≤ 3) (hl : sq.length = k) (hr : ∀ r ∈ sq, r.length = k) : smD (fun i => (balL k sq).getD i 0) k = dQ k sq := by
  rw [smD_congr (g := fun i => sgF (detL k (sysI k sq)) * solI k sq i) fun i hi => balL_at hi, smD_mul]
  unfold dQ
  congr 1
  exact sum_eq h1 h3 hl hr
theorem bal_val {k : Nat} {sq : List (List Int)} (h1 : 1 ≤ k) (h3 : k ≤ 3) (hl : sq.length = k) (hr : ∀ r ∈ sq, r.length = k) {j : Nat} (hj : j < k) : smD (fun i => (balL k sq).getD i 0 * at2L sq i j) k = vQ k sq := by
  rw [smD_congr (g := fun i => sgF (detL k (sysI k sq)) * (at2L sq i j * solI k sq i)) fun i hi => by rw [balL_at hi, Int.mul_assoc, Int.mul_comm (solI k sq i)], smD_mul]
  unfold vQ
  rw [val_eq h1 h3 hl hr j hj]
/-- sums over rows and over columns -/
theorem smD_add (f g : Nat → Int) : ∀ n, smD (fun i => f i + g i) n = smD f n + smD g n
  | 0 => rfl
  | n + 1 => by
    show smD (fun i => f i + g i) n + (f n + g n) = smD f n + f n + (smD g n + g n)
    rw [smD_add f g n]
    omega
theorem smD_swap (f : Nat → Nat → Int) (n : Nat) : ∀ k, smD (fun i => smD (f i) n) k = smD (fun j => smD (fun i => f i j) k) n
  | 0 => by
    show (0 : Int) = _
    induction n with
    | zero => rfl
    | succ n ih => exact (by show (0 : Int) = smD _ n + 0; rw [← ih]; rfl)
  | k + 1 => by
    show smD (fun i => smD (f i) n) k + smD (f k) n = _
    rw [smD_swap f n k, ← smD_add]
    rfl
theorem colsQ_at {k : Nat} {sq : List (List Int)} (hl : sq.length = k) {i j : Nat} (hi : i < k) (hj : j < k) : at2L (colsOf k sq) j i = at2L sq i j := by
  unfold at2L
  rw [colsOf_getD hj, colOf_getD (by omega)]
/-- the value by rows is the value by columns -/
theorem cross_eq {k : Nat} {sq : List (List Int)} (h1 : 1 ≤ k) (h3 : k ≤ 3) (hl : sq.length = k) (hr : ∀ r ∈ sq, r.length = k) : vQ k sq * dQ k (colsOf k sq) = vQ k (colsOf k sq) * dQ k sq := by
  have hl2 := colsOf_len k sq
  have hr2 : ∀ r ∈ colsOf k sq, r.length = k := fun r hr => by
    obtain ⟨j, _, rfl⟩ := List.mem_map.1 hr
    rw [colOf_len, hl]
  rw [← bal_sum h1 h3 hl2 hr2, ← bal_sum h1 h3 hl hr, ← smD_mul, ← smD_mul]
  rw [smD_congr (g := fun j => smD (fun i => (balL k sq).getD i 0 * at2L sq i j * (balL k (colsOf k sq)).getD j 0) k) fun j hj => by
    rw [← bal_val h1 h3 hl hr hj, Int.mul_comm, ← smD_mul]
    exact smD_congr fun i _ => Int.mul_comm _ _]
  rw [smD_congr (f := fun i => vQ k (colsOf k sq) * (balL k sq).getD i 0) (g := fun i => smD (fun j => (balL k sq).getD i 0 * at2L sq i j * (balL k (colsOf k sq)).getD j 0) k) fun i hi => by
    rw [← bal_val h1 h3 hl2 hr2 hi, Int.mul_comm, ← smD_mul]
    refine smD_congr fun j hj => ?_
    rw [colsQ_at hl hi hj, Int.mul_assoc, Int.mul_comm (at2L sq i j)]]
  exact (smD_swap _ k k).symm
end Go.Proofs.Ytpihfeganpdjiaa
/- Spread numbers and tried choices: the plain law. Conditions: those that each names. -/
set_option linter.all false
set_option linter.unusedSimpArgs false
set_option linter.unusedVariables false
namespace Go.Proofs.Ytpihfeganpdjiaa

theorem getD_set {l : List Int} {p j : Nat} {v : Int} (hp : p < l.length) : (l.set p v).getD j 0 = if p = j then v else l.getD j 0 := by
  rw [List.getD_eq_getElem?_getD, List.getElem?_set]
  split
  · rename_i h
    subst h
    rfl
  · rw [List.getD_eq_getElem?_getD]
theorem smD_set {l : List Int} (w : Nat → Int) {p : Nat} {v : Int} (hp : p < l.length) : ∀ n, smD (fun j => (l.set p v).getD j 0 * w j) n = smD (fun j => l.getD j 0 * w j) n + (if p < n then (v - l.getD p 0) * w p else 0)
  | 0 => by simp [smD]
  | n + 1 => by
    show smD _ n + (l.set p v).getD n 0 * w n = smD _ n + l.getD n 0 * w n + _
    rw [smD_set w hp n, getD_set hp]
    by_cases h1 : p = n
    · subst h1
      rw [if_neg (Nat.lt_irrefl _), if_pos rfl, if_pos (Nat.lt_succ_self _), Int.sub_mul]
      omega
    · rw [if_neg h1]
      by_cases h2 : p < n
      · rw [if_pos h2, if_pos (by omega)]
        omega
      · rw [if_neg h2, if_neg (by omega)]
        omega
theorem smD_zero : ∀ n, smD (fun _ => 0) n = 0
  | 0 => rfl
  | n + 1 => by
    show smD (fun _ => 0) n + 0 = 0
    rw [smD_zero n]
    rfl
/-- different places -/
def NdQ (ps : List Int) : Prop := ∀ a, a < ps.length → ∀ b, b < a → ps.getD b 0 ≠ ps.getD a 0
theorem chs_nd : ∀ n, n < 4 → ∀ k, k < 4 → ∀ r ∈ chs n k, ∀ a, a < r.length → ∀ b, b < a → r.getD b 0 ≠ r.getD a 0 := by decide
theorem spN_zero {k n : Nat} {xs ps : List Int} (h : PlQ ps k n) {p : Nat} : ∀ t, t ≤ k → (∀ s, s < t → (ps.getD s 0).toNat ≠ p) → (spN n xs ps t).getD p 0 = 0
  | 0, _, _ => by
    show (List.replicate n (0 : Int)).getD p 0 = 0
    rw [List.getD_eq_getElem?_getD, List.getElem?_replicate]
    split <;> rfl
  | t + 1, ht, hs => by
    have h1 := h.at (j := t) (by omega)
    show ((spN n xs ps t).set _ _).getD p 0 = 0
    rw [getD_set (by rw [spN_len]; omega), if_neg (hs t (by omega))]
    exact spN_zero h t (by omega) fun s h2 => hs s (by omega)
theorem spN_sum {k n : Nat} {xs ps : List Int} (h : PlQ ps k n) (hd : NdQ ps) (w : Nat → Int) : ∀ t, t ≤ k → smD (fun j => (spN n xs ps t).getD j 0 * w j) n = smD (fun s => xs.getD s 0 * w (ps.getD s 0).toNat) t
  | 0, _ => by
    rw [smD_congr (g := fun _ => 0) fun j _ => by
      rw [spN_zero h (xs := xs) 0 (Nat.zero_le _) fun s hs => by omega, Int.zero_mul]]
    exact smD_zero n
  | t + 1, ht => by
    have h1 := h.at (j := t) (by omega)
    have hl := h.len
    show smD (fun j => ((spN n xs ps t).set _ _).getD j 0 * w j) n = smD _ t + _
    rw [smD_set w (by rw [spN_len]; omega) n, spN_sum h hd w t (by omega), if_pos (by omega)]
    rw [spN_zero h t (by omega) fun s hs e => hd t (by omega) s hs (by have := h.at (j := s) (by omega); omega), Int.sub_zero]
theorem spN_hit {k n : Nat} {xs ps : List Int} (h : PlQ ps k n) (hd : NdQ ps) {s : Nat} : ∀ t, t ≤ k → s < t → (spN n xs ps t).getD (ps.getD s 0).toNat 0 = xs.getD s 0
  | 0, _, hs => by omega
  | t + 1, ht, hs => by
    have h1 := h.at (j := t) (by omega)
    have hl := h.len
    show ((spN n xs ps t).set _ _).getD _ 0 = _
    rw [getD_set (by rw [spN_len]; omega)]
    by_cases he : s = t
    · subst he
      rw [if_pos rfl]
    · have h2 := h.at (j := s) (by omega)
      rw [if_neg fun e => hd t (by omega) s (by omega) (by omega)]
      exact spN_hit h hd t (by omega) (by omega)
theorem spN_nn {k n : Nat} {xs ps : List Int} (h : PlQ ps k n) (hx : ∀ s, s < k → 0 ≤ xs.getD s 0) (p : Nat) : ∀ t, t ≤ k → 0 ≤ (spN n xs ps t).getD p 0
  | 0, _ => by rw [spN_zero h 0 (Nat.zero_le _) fun s hs => by omega]; omega
  | t + 1, ht => by
    have h1 := h.at (j := t) (by omega)
    show 0 ≤ ((spN n xs ps t).set _ _).getD p 0
    rw [getD_set (by rw [spN_len]; omega)]
    split
    · exact hx t (by omega)
    · exact spN_nn h hx p t (by omega)
theorem spN_congr {n : Nat} {xs ys ps : List Int} : ∀ t, (∀ s, s < t → xs.getD s 0 = ys.getD s 0) → spN n xs ps t = spN n ys ps t
  | 0, _ => rfl
  | t + 1, h => by
    show (spN n xs ps t).set _ _ = (spN n ys ps t).set _ _
    rw [spN_congr t fun s hs => h s (by omega), h t (by omega)]
theorem sum_smD (l : List Int) : ∀ k, k ≤ l.length → (l.take k).sum = smD (fun j => l.getD j 0) k
  | 0, _ => rfl
  | k + 1, hk => by
    rw [take_getD (by omega) 0, List.sum_append, sum_smD l k (by omega)]
    simp [smD]
theorem mx_le {w : List Int} {B : Int} : ∀ k, mxN w k ≤ B ↔ ∀ j, j ≤ k → w.getD j 0 ≤ B
  | 0 => ⟨fun h j hj => by obtain rfl : j = 0 := (by omega); exact h, fun h => h 0 (Nat.le_refl _)⟩
  | k + 1 => by
    show max (mxN w k) (w.getD (k + 1) 0) ≤ B ↔ _
    rw [Int.max_le, mx_le k]
    exact ⟨fun h j hj => (Nat.lt_or_ge j (k + 1)).elim (fun h2 => h.1 j (by omega)) fun h2 => by obtain rfl : j = k + 1 := (by omega); exact h.2, fun h => ⟨fun j hj => h j (by omega), h (k + 1) (Nat.le_refl _)⟩⟩
theorem mn_ge {w : List Int} {B : Int} : ∀ k, B ≤ mnN w k ↔ ∀ j, j ≤ k → B ≤ w.getD j 0
  | 0 => ⟨fun h j hj => by obtain rfl : j = 0 := (by omega); exact h, fun h => h 0 (Nat.le_refl _)⟩
  | k + 1 => by
    show B ≤ min (mnN w k) (w.getD (k + 1) 0) ↔ _
    rw [Int.le_min, mn_ge k]
    exact ⟨fun h j hj => (Nat.lt_or_ge j (k + 1)).elim (fun h2 => h.1 j (by omega)) fun h2 => by obtain rfl : j = k + 1 := (by omega); exact h.2, fun h => ⟨fun j hj => h j (by omega), h (k + 1) (Nat.le_refl _)⟩⟩
theorem all_iff {p : Int → Bool} {xs : List Int} : xs.all p = true ↔ ∀ k, k < xs.length → p (xs.getD k 0) = true :=
  ⟨fun h k hk => by rw [getD_inQ hk]; exact List.all_eq_true.1 h _ (List.getElem_mem _), all_of⟩
end Go.Proofs.Ytpihfeganpdjiaa
/- What the program's trial of a choice finds is what the reference's test finds. Conditions: those that each names. -/
set_option linter.all false
set_option linter.unusedSimpArgs false
set_option linter.unusedVariables false
namespace Go.Proofs.Ytpihfeganpdjiaa

theorem det3_bd {u0 u1 u2 v0 v1 v2 : Int} (h0 : -80 ≤ u0 ∧ u0 ≤ 80) (h1 : -80 ≤ u1 ∧ u1 ≤ 80) (h2 : -80 ≤ u2 ∧ u2 ≤ 80) (k0 : -80 ≤ v0 ∧ v0 ≤ 80) (k1 : -80 ≤ v1 ∧ v1 ≤ 80) (k2 : -80 ≤ v2 ∧ v2 ≤ 80) : -38400 ≤ detL 3 [[u0, u1, u2], [v0, v1, v2], [1, 1, 1]] ∧ detL 3 [[u0, u1, u2], [v0, v1, v2], [1, 1, 1]] ≤ 38400 := by
  have e : detL 3 [[u0, u1, u2], [v0, v1, v2], [1, 1, 1]] = u0 * (v1 - v2) + -u1 * (v0 - v2) + u2 * (v0 - v1) := by
    simp [detL, smD, sgn, minorL, dropC]
    grind
  have a0 := mul_abs h0 (b := v1 - v2) (B := 160) (by omega)
  have a1 := mul_abs (a := -u1) (A := 80) (by omega) (b := v0 - v2) (B := 160) (by omega)
  have a2 := mul_abs h2 (b := v0 - v1) (B := 160) (by omega)
  rw [e]
  omega
theorem dI_bd {k : Nat} {sq : List (List Int)} (h1 : 1 ≤ k) (h3 : k ≤ 3) (h : SqM k 40 sq) : -38400 ≤ detL k (sysI k sq) ∧ detL k (sysI k sq) ≤ 38400 := by
  match k, h1, h3, h with
  | 1, _, _, h =>
    have h2 := det_bd (by decide) (sysI_sq (by decide) h)
    have h4 : dBd 80 1 = 80 := by decide
    omega
  | 2, _, _, h =>
    have h2 := det_bd (by decide) (sysI_sq (by decide) h)
    have h4 : dBd 80 2 = 12800 := by decide
    omega
  | 3, _, _, h =>
    have hb := h.bd
    obtain ⟨a, b, c, d, e, f, g, i, j, rfl⟩ := mat3 h.len h.row
    have h0 := hb [a, b, c] (by simp)
    have h1 := hb [d, e, f] (by simp)
    have h2 := hb [g, i, j] (by simp)
    have ha := h0 a (by simp)
    have hbb := h0 b (by simp)
    have hc := h0 c (by simp)
    have hd := h1 d (by simp)
    have he := h1 e (by simp)
    have hf := h1 f (by simp)
    have hg := h2 g (by simp)
    have hi := h2 i (by simp)
    have hj := h2 j (by simp)
    exact det3_bd (u0 := b - a) (u1 := e - d) (u2 := i - g) (v0 := c - a) (v1 := f - d) (v2 := j - g) (by omega) (by omega) (by omega) (by omega) (by omega) (by omega)
theorem smD_nn {f : Nat → Int} : ∀ n, (∀ i, i < n → 0 ≤ f i) → 0 ≤ smD f n
  | 0, _ => Int.le_refl _
  | n + 1, h => by
    have h1 := smD_nn n fun i hi => h i (by omega)
    have h2 := h n (by omega)
    show 0 ≤ smD f n + f n
    omega
theorem smD_part {f : Nat → Int} : ∀ n, (∀ i, i < n → 0 ≤ f i) → ∀ i, i < n → f i ≤ smD f n
  | 0, _, i, hi => by omega
  | n + 1, h, i, hi => by
    have h1 := smD_nn n fun i hi => h i (by omega)
    have h2 := h n (by omega)
    show f i ≤ smD f n + f n
    rcases Nat.lt_or_ge i n with h3 | h3
    · have := smD_part n (fun i hi => h i (by omega)) i h3
      omega
    · obtain rfl : i = n := by omega
      omega
/-- what the choices are -/
structure ChQ (m : List (List Int)) (c k : Nat) (rs cs : List Int) : Prop where
  mq : MatQ m c
  rq : PlQ rs k m.length
  cq : PlQ cs k c
  nr : NdQ rs
  nc : NdQ cs
  k0 : 1 ≤ k
  k3 : k ≤ 3
theorem part_at {m : List (List Int)} {rs cs : List Int} {s t : Nat} (hs : s < rs.length) (ht : t < cs.length) : at2L (partL m rs cs) s t = at2L m (rs.getD s 0).toNat (cs.getD t 0).toNat := by
  have e1 : (partL m rs cs).getD s [] = partR m (rs.getD s 0) cs := by
    rw [getD_inQ (by rw [partL_len]; exact hs), getD_inQ hs]
    simp [partL]
  show ((partL m rs cs).getD s []).getD t 0 = _
  rw [e1, getD_inQ (by rw [partR_len]; exact ht), getD_inQ ht]
  simp [partR]
section
variable {m : List (List Int)} {c k : Nat} {rs cs : List Int}
theorem ChQ.sq (h : ChQ m c k rs cs) : SqM k 40 (partL m rs cs) := part_sq h.mq h.rq.len h.cq.len
theorem ChQ.turn (h : ChQ m c k rs cs) : ChQ (colsOf c m) m.length k cs rs := ⟨cols_q h.mq, by rw [colsOf_len]; exact h.cq, h.rq, h.nc, h.nr, h.k0, h.k3⟩
theorem ChQ.part (h : ChQ m c k rs cs) : colsOf k (partL m rs cs) = partL (colsOf c m) cs rs := part_turned h.rq h.cq
theorem ChQ.sum (h : ChQ m c k rs cs) : (spL m.length (balL k (partL m rs cs)) rs).sum = dQ k (partL m rs cs) := by
  have e := sum_smD (spL m.length (balL k (partL m rs cs)) rs) m.length (by rw [spL_len]; exact Nat.le_refl _)
  rw [List.take_of_length_le (by rw [spL_len]; exact Nat.le_refl _)] at e
  have e2 := spN_sum (n := m.length) (xs := balL k (partL m rs cs)) h.rq h.nr (fun _ => 1) k (Nat.le_refl _)
  simp only [Int.mul_one] at e2
  rw [e]
  unfold spL
  rw [h.rq.len, e2, bal_sum h.k0 h.k3 h.sq.len h.sq.row]
theorem ChQ.col (h : ChQ m c k rs cs) {t : Nat} (ht : t < k) : pF m (spL m.length (balL k (partL m rs cs)) rs) (cs.getD t 0).toNat m.length = vQ k (partL m rs cs) := by
  unfold pF spL
  rw [h.rq.len, spN_sum (n := m.length) (xs := balL k (partL m rs cs)) h.rq h.nr (fun i => at2L m i (cs.getD t 0).toNat) k (Nat.le_refl _)]
  rw [← bal_val h.k0 h.k3 h.sq.len h.sq.row ht]
  refine smD_congr fun s hs => ?_
  rw [part_at (by rw [h.rq.len]; exact hs) (by rw [h.cq.len]; exact ht)]
theorem ChQ.pos (h : ChQ m c k rs cs) (hn : 0 ≤ mnN (balL k (partL m rs cs)) (k - 1)) : ∀ s, s < k → 0 ≤ (balL k (partL m rs cs)).getD s 0 := fun s hs => (mn_ge (k - 1)).1 hn s (by have := h.k0; omega)
theorem ChQ.bd (h : ChQ m c k rs cs) (hd : detL k (sysI k (partL m rs cs)) ≠ 0) (hn : 0 ≤ mnN (balL k (partL m rs cs)) (k - 1)) : 1 ≤ dQ k (partL m rs cs) ∧ dQ k (partL m rs cs) ≤ 38400 ∧ BdL 38400 (spL m.length (balL k (partL m rs cs)) rs) ∧ ∀ j, 0 ≤ (spL m.length (balL k (partL m rs cs)) rs).getD j 0 := by
  have h1 := sgF_abs hd
  have h2 := mul_abs (sgF_bd (detL k (sysI k (partL m rs cs)))) (dI_bd h.k0 h.k3 h.sq)
  have hp := h.pos hn
  have hs := bal_sum h.k0 h.k3 h.sq.len h.sq.row
  have hle : dQ k (partL m rs cs) ≤ 38400 := by unfold dQ; omega
  refine ⟨h1, hle, spN_bd (by decide) _ _ (fun s => ?_) _, fun j => spN_nn h.rq hp j _ (by rw [h.rq.len]; exact Nat.le_refl _)⟩
  rcases Nat.lt_or_ge s k with hsk | hsk
  · have h3 := smD_part k hp s hsk
    have h4 := hp s hsk
    omega
  · rw [List.getD_eq_getElem?_getD, List.getElem?_eq_none (by rw [balL_len]; exact hsk)]
    decide
theorem ChQ.fits (h : ChQ m c k rs cs) (hd : detL k (sysI k (partL m rs cs)) ≠ 0) (hn : 0 ≤ mnN (balL k (partL m rs cs)) (k - 1)) : SumFits (spL m.length (balL k (partL m rs cs)) rs) := by
  have hb := h.bd hd hn
  have hl := h.mq.l3
  refine sumFits_of (B := 38400) (fun x hx => ?_) (by rw [spL_len]; omega) (by decide)
  obtain ⟨j, hj, rfl⟩ := List.getElem_of_mem hx
  rw [← getD_inQ hj (d := 0)]
  have h1 := hb.2.2.1 j
  have h2 := hb.2.2.2 j
  omega
theorem ChQ.triF (h : ChQ m c k rs cs) (ht : tri1 m k rs cs) : TriF m c k rs cs := by
  obtain ⟨d1, d2, n1, n2⟩ := ht
  have h' := h.turn
  rw [h.part] at d2 n2
  have b1 := h.bd d1 n1
  have b2 := h'.bd d2 n2
  have s1 := h.sum
  have s2 := h'.sum
  have f2 := h'.fits d2 n2
  rw [colsOf_len] at b2 s2 f2
  have eB : triB m c k rs cs = spL c (balL k (partL (colsOf c m) cs rs)) cs := by unfold triB; rw [h.part]
  refine ⟨fun j => ?_, fun j => ?_, h.fits d1 n1, by rw [eB]; exact f2, ?_, ?_, ?_, ?_⟩
  · have := b1.2.2.1 j
    unfold triA
    omega
  · have := b2.2.2.1 j
    rw [eB]
    omega
  · show 1 ≤ (spL _ _ _).sum
    rw [s1]; exact b1.1
  · rw [eB, s2]; exact b2.1
  · show (spL _ _ _).sum ≤ _
    rw [s1]; omega
  · rw [eB, s2]; omega
end
end Go.Proofs.Ytpihfeganpdjiaa
/- What the program's trial of a choice finds is what the reference's test finds; and so are the searches. Conditions: those that each names. -/
set_option linter.all false
set_option linter.unusedSimpArgs false
set_option linter.unusedVariables false
namespace Go.Proofs.Ytpihfeganpdjiaa

theorem app_at0 {xs ys : List Int} {s : Nat} (h : s < xs.length) : (xs ++ ys).getD s 0 = xs.getD s 0 := by
  rw [List.getD_eq_getElem?_getD, List.getElem?_append_left h, ← List.getD_eq_getElem?_getD]
theorem app_at1 {xs : List Int} {a b : Int} {k : Nat} (h : xs.length = k) : (xs ++ [a, b]).getD k 0 = a ∧ (xs ++ [a, b]).getD (k + 1) 0 = b := by
  subst h
  constructor
  · rw [List.getD_eq_getElem?_getD, List.getElem?_append_right (Nat.le_refl _), Nat.sub_self]
    rfl
  · rw [List.getD_eq_getElem?_getD, List.getElem?_append_right (Nat.le_succ _), show xs.length + 1 - xs.length = 1 by omega]
    rfl
section
variable {m : List (List Int)} {c k : Nat} {rs cs : List Int}
theorem ChQ.solv (h : ChQ m c k rs cs) (hd : detL k (sysI k (partL m rs cs)) ≠ 0) : solvL k (partL m rs cs) = balL k (partL m rs cs) ++ [vQ k (partL m rs cs), dQ k (partL m rs cs)] := solv_eq h.k0 h.k3 h.sq.len h.sq.row hd
theorem ChQ.spr (h : ChQ m c k rs cs) (hd : detL k (sysI k (partL m rs cs)) ≠ 0) : spL m.length (solvL k (partL m rs cs)) rs = spL m.length (balL k (partL m rs cs)) rs := by
  rw [h.solv hd]
  exact spN_congr _ fun s hs => app_at0 (by rw [balL_len, ← h.rq.len]; exact hs)
theorem ChQ.fit (h : ChQ m c k rs cs) (hd : detL k (sysI k (partL m rs cs)) ≠ 0) (g : Int) : fitB m c rs (solvL k (partL m rs cs)) g = true ↔ 0 ≤ mnN (balL k (partL m rs cs)) (k - 1) ∧ ∀ j, j < c → g * (prL m (spL m.length (balL k (partL m rs cs)) rs) c).getD j 0 ≤ g * vQ k (partL m rs cs) := by
  have hk := h.k0
  have hv : (solvL k (partL m rs cs)).getD rs.length 0 = vQ k (partL m rs cs) := by rw [h.solv hd, h.rq.len]; exact (app_at1 (balL_len _ _)).1
  have hl : 0 < (solvL k (partL m rs cs)).length := by rw [h.solv hd, List.length_append]; simp
  unfold fitB fitA fitC
  rw [h.spr hd, hv, Bool.and_eq_true, Bool.and_eq_true, all_iff, all_iff, mn_ge]
  have hpl : (prL m (spL m.length (balL k (partL m rs cs)) rs) c).length = c := by simp [prL]
  rw [hpl, spL_len]
  constructor
  · rintro ⟨_, h1, h2⟩
    refine ⟨fun s hs => ?_, fun j hj => of_decide_eq_true (h2 j hj)⟩
    have hr := h.rq.at (j := s) (by omega)
    have h3 := of_decide_eq_true (h1 (rs.getD s 0).toNat (by omega))
    unfold spL at h3
    rw [h.rq.len, spN_hit h.rq h.nr k (Nat.le_refl _) (by omega)] at h3
    exact h3
  · rintro ⟨h1, h2⟩
    refine ⟨decide_eq_true hl, fun j hj => decide_eq_true ?_, fun j hj => decide_eq_true (h2 j hj)⟩
    exact spN_nn h.rq (fun s hs => h1 s (by omega)) j _ (by rw [h.rq.len]; exact Nat.le_refl _)
theorem ChQ.nofit (h : ChQ m c k rs cs) (hd : detL k (sysI k (partL m rs cs)) = 0) (g : Int) : fitB m c rs (solvL k (partL m rs cs)) g = false := by
  rw [solv_no h.k0 h.k3 h.sq.len h.sq.row hd]
  rfl
end
theorem cmp_le {x y : Int} : cmpQ x y ≤ 0 ↔ x ≤ y := by
  unfold cmpQ
  split
  · omega
  · split <;> omega
theorem cmp_ge {x y : Int} : 0 ≤ cmpQ x y ↔ y ≤ x := by
  unfold cmpQ
  split
  · omega
  · split <;> omega
theorem fr_le {a b : Int × Int} {N M D E : Int} (ha : IsFr a N D) (hb : IsFr b M E) : a.1 * b.2 ≤ b.1 * a.2 ↔ N * E ≤ M * D := by
  have p1 := ha.dpos
  have p2 := hb.dpos
  have p3 := ha.pos
  have p4 := hb.pos
  have e1 : (a.1 * b.2) * (D * E) = (N * E) * (a.2 * b.2) := by
    have := ha.eq
    calc (a.1 * b.2) * (D * E) = (a.1 * D) * (b.2 * E) := by grind
      _ = (N * a.2) * (b.2 * E) := by rw [this]
      _ = (N * E) * (a.2 * b.2) := by grind
  have e2 : (b.1 * a.2) * (D * E) = (M * D) * (a.2 * b.2) := by
    have := hb.eq
    calc (b.1 * a.2) * (D * E) = (b.1 * E) * (a.2 * D) := by grind
      _ = (M * b.2) * (a.2 * D) := by rw [this]
      _ = (M * D) * (a.2 * b.2) := by grind
  have q1 := Int.mul_pos p3 p4
  have q2 := Int.mul_pos p1 p2
  constructor
  · intro h
    have h1 := Int.mul_le_mul_of_nonneg_right h (Int.le_of_lt q1)
    rw [e1, e2] at h1
    exact Int.le_of_mul_le_mul_right h1 q2
  · intro h
    have h1 := Int.mul_le_mul_of_nonneg_right h (Int.le_of_lt q2)
    rw [← e1, ← e2] at h1
    exact Int.le_of_mul_le_mul_right h1 q1
theorem ChQ.eq {m : List (List Int)} {c k : Nat} {rs cs : List Int} (h : ChQ m c k rs cs) : triQ m c k rs cs = solHit m c k rs cs := by
  have h' := h.turn
  have hp := h.part
  have hcl := colsOf_len c m
  by_cases d1 : detL k (sysI k (partL m rs cs)) = 0
  · have e1 : hitB m c k rs cs = false := by unfold hitB solOne; rw [h.nofit d1]; rfl
    unfold triQ solHit
    rw [if_neg fun hh => hh.1.1 d1, if_neg (by rw [e1]; decide)]
  by_cases d2 : detL k (sysI k (partL (colsOf c m) cs rs)) = 0
  · have e1 : hitB m c k rs cs = false := by unfold hitB solTwo; rw [h'.nofit d2, Bool.and_false]
    unfold triQ solHit
    rw [if_neg fun hh => hh.1.2.1 (by rw [hp]; exact d2), if_neg (by rw [e1]; decide)]
  have f1 := h.fit d1 1
  have f2 := h'.fit d2 (-1)
  rw [hcl] at f2
  have eA : triA m k rs cs = spL m.length (balL k (partL m rs cs)) rs := rfl
  have eB : triB m c k rs cs = spL c (balL k (partL (colsOf c m) cs rs)) cs := by unfold triB; rw [hp]
  have key : (tri1 m k rs cs ∧ tri2 m c k rs cs) ↔ hitB m c k rs cs = true := by
    unfold hitB solOne solTwo
    rw [Bool.and_eq_true, f1, f2]
    unfold tri1
    rw [hp]
    have go : 0 ≤ mnN (balL k (partL m rs cs)) (k - 1) → 0 ≤ mnN (balL k (partL (colsOf c m) cs rs)) (k - 1) → (tri2 m c k rs cs ↔ (∀ j, j < c → 1 * (prL m (spL m.length (balL k (partL m rs cs)) rs) c).getD j 0 ≤ 1 * vQ k (partL m rs cs)) ∧ (∀ j, j < m.length → -1 * (prL (colsOf c m) (spL c (balL k (partL (colsOf c m) cs rs)) cs) m.length).getD j 0 ≤ -1 * vQ k (partL (colsOf c m) cs rs))) := by
      intro n1 n2
      have b1 := h.bd d1 n1
      have b2 := h'.bd d2 n2
      have s1 := h.sum
      have s2 := h'.sum
      rw [hcl] at b2 s2
      have c0 := h.mq.c0
      have l0 := h.mq.l0
      have hcr := h.cq.at (j := 0) h.k0
      have hv : (prL m (spL m.length (balL k (partL m rs cs)) rs) c).getD (cs.getD 0 0).toNat 0 = vQ k (partL m rs cs) := by
        rw [getD_inQ (by unfold prL; rw [List.length_map, List.length_range]; omega)]
        have := h.col (t := 0) h.k0
        simpa [prL] using this
      have hba := prL_bd (c' := c) h.mq b1.2.2.1 (by decide)
      have hbb := prL_bd (c' := m.length) h'.mq b2.2.2.1 (by decide)
      have hmx := mx_bd hba (c - 1)
      have hmn := mn_bd hbb (m.length - 1)
      have hvb := hba (cs.getD 0 0).toNat
      rw [hv] at hvb
      have D1 := b1.1
      have D2 := b2.1
      have i1 := isFr_small (n := mxN (prL m (spL m.length (balL k (partL m rs cs)) rs) c) (c - 1)) (d := dQ k (partL m rs cs)) (by omega) (by omega) (by omega) (by omega)
      have i2 := isFr_small (n := vQ k (partL m rs cs)) (d := dQ k (partL m rs cs)) (by omega) (by omega) (by omega) (by omega)
      have i3 := isFr_small (n := mnN (prL (colsOf c m) (spL c (balL k (partL (colsOf c m) cs rs)) cs) m.length) (m.length - 1)) (d := dQ k (partL (colsOf c m) cs rs)) (by omega) (by omega) (by omega) (by omega)
      have hx := cross_eq h.k0 h.k3 h.sq.len h.sq.row
      rw [hp] at hx
      unfold tri2 triMost triV triLeast
      rw [eA, eB, s1, s2, hv, cmp_le, cmp_ge, fr_le i1 i2, fr_le i2 i3, hx]
      rw [Int.mul_le_mul_right (show 0 < dQ k (partL m rs cs) by omega), Int.mul_le_mul_right (show 0 < dQ k (partL m rs cs) by omega), mx_le, mn_ge]
      constructor
      · rintro ⟨g1, g2⟩
        exact ⟨fun j hj => by have := g1 j (by omega); omega, fun j hj => by have := g2 j (by omega); omega⟩
      · rintro ⟨g1, g2⟩
        exact ⟨fun j hj => by have := g1 j (by omega); omega, fun j hj => by have := g2 j (by omega); omega⟩
    constructor
    · rintro ⟨⟨_, _, n1, n2⟩, g⟩
      have := (go n1 n2).1 g
      exact ⟨⟨n1, this.1⟩, n2, this.2⟩
    · rintro ⟨⟨n1, g1⟩, n2, g2⟩
      exact ⟨⟨d1, d2, n1, n2⟩, (go n1 n2).2 ⟨g1, g2⟩⟩
  unfold triQ solHit
  by_cases hh : hitB m c k rs cs = true
  · rw [if_pos hh, if_pos (key.2 hh)]
    obtain ⟨t1, _⟩ := key.2 hh
    have s1 := h.sum
    have s2 := h'.sum
    rw [hcl] at s2
    have hcr := h.cq.at (j := 0) h.k0
    have hv : (prL m (spL m.length (balL k (partL m rs cs)) rs) c).getD (cs.getD 0 0).toNat 0 = vQ k (partL m rs cs) := by
      rw [getD_inQ (by unfold prL; rw [List.length_map, List.length_range]; omega)]
      have := h.col (t := 0) h.k0
      simpa [prL] using this
    have o1 := app_at1 (a := vQ k (partL m rs cs)) (b := dQ k (partL m rs cs)) (balL_len k (partL m rs cs))
    have o2 := app_at1 (a := vQ k (partL (colsOf c m) cs rs)) (b := dQ k (partL (colsOf c m) cs rs)) (balL_len k (partL (colsOf c m) cs rs))
    have p1 := h.spr d1
    have p2 := h'.spr d2
    rw [hcl] at p2
    congr 1
    unfold triS solV solOne solTwo triV
    rw [p1, p2, eA, eB, s1, s2, hv, h.solv d1, h'.solv d2, o1.1, o1.2, o2.2]
  · rw [if_neg hh, if_neg fun g => hh (key.1 g)]
end Go.Proofs.Ytpihfeganpdjiaa
