/- The marks with the greatest bound: the plain law. Conditions: none. -/
import Derived.Test.YtobhlnaogbadjaaUseP
set_option linter.all false
set_option linter.unusedSimpArgs false
set_option linter.unusedVariables false
namespace Go.Proofs.Ytobhlnaogbadjaa

/-- what a mark at a place adds behind the last mark a - 1, none for a = 0 -/
def gqV (k : Int) (xs : List Int) (a p : Nat) : Int := gnV k xs ((a : Int) - 1) p
/-- the most that marks at the last d places add behind the last mark a - 1 -/
def vN (k : Int) (xs : List Int) : Nat → Nat → Int
  | 0, _ => 0
  | d + 1, a => max (vN k xs d a) (gqV k xs a (xs.length - (d + 1)) + vN k xs d (xs.length - d))
theorem vN_nn (k : Int) (xs : List Int) : ∀ d a, 0 ≤ vN k xs d a
  | 0, _ => Int.le_refl _
  | d + 1, a => by
    have := vN_nn k xs d a
    unfold vN
    omega
/-- the first mark of these, -1 for none -/
def nxF (k : Int) (xs : List Int) : Nat → Nat → Int
  | 0, _ => -1
  | d + 1, a => if 0 < gqV k xs a (xs.length - (d + 1)) + vN k xs d (xs.length - d) ∧ vN k xs d a ≤ gqV k xs a (xs.length - (d + 1)) + vN k xs d (xs.length - d) then ((xs.length - (d + 1) : Nat) : Int) else nxF k xs d a
/-- the marks -/
def outF (k : Int) (xs : List Int) : Nat → Nat → List Int
  | 0, _ => []
  | d + 1, a => if 0 < vN k xs (d + 1) a then (if gqV k xs a (xs.length - (d + 1)) + vN k xs d (xs.length - d) = vN k xs (d + 1) a then ((xs.length - (d + 1) : Nat) : Int) :: outF k xs d (xs.length - d) else outF k xs d a) else []
theorem nxF_no {k : Int} {xs : List Int} : ∀ {d a}, vN k xs d a ≤ 0 → nxF k xs d a = -1
  | 0, _, _ => rfl
  | d + 1, a, h => by
    have h1 := vN_nn k xs d a
    unfold vN at h
    unfold nxF
    rw [if_neg (by omega)]
    exact nxF_no (by omega)
theorem outF_no {k : Int} {xs : List Int} {d a : Nat} (h : vN k xs d a ≤ 0) : outF k xs d a = [] := by
  cases d with
  | zero => rfl
  | succ d =>
    unfold outF
    rw [if_neg (by omega)]
/-- the marks are the first one and those behind it -/
theorem out_nx {k : Int} {xs : List Int} : ∀ d a, d ≤ xs.length → outF k xs d a = if nxF k xs d a < 0 then [] else nxF k xs d a :: outF k xs (xs.length - ((nxF k xs d a).toNat + 1)) ((nxF k xs d a).toNat + 1)
  | 0, _, _ => rfl
  | d + 1, a, hd => by
    have h1 := vN_nn k xs d a
    by_cases h0 : vN k xs (d + 1) a ≤ 0
    · rw [outF_no h0, nxF_no h0, if_pos (by decide)]
    · have hv : vN k xs (d + 1) a = max (vN k xs d a) (gqV k xs a (xs.length - (d + 1)) + vN k xs d (xs.length - d)) := rfl
      by_cases h2 : gqV k xs a (xs.length - (d + 1)) + vN k xs d (xs.length - d) = vN k xs (d + 1) a
      · have e : nxF k xs (d + 1) a = ((xs.length - (d + 1) : Nat) : Int) := if_pos ⟨by omega, by omega⟩
        have e2 : outF k xs (d + 1) a = ((xs.length - (d + 1) : Nat) : Int) :: outF k xs d (xs.length - d) := by
          show (if 0 < vN k xs (d + 1) a then _ else _) = _
          rw [if_pos (by omega), if_pos h2]
        rw [e, e2, if_neg (by omega), Int.toNat_natCast, show xs.length - (d + 1) + 1 = xs.length - d by omega, show xs.length - (xs.length - d) = d by omega]
      · have e : nxF k xs (d + 1) a = nxF k xs d a := if_neg (by omega)
        have e2 : outF k xs (d + 1) a = outF k xs d a := by
          show (if 0 < vN k xs (d + 1) a then _ else _) = _
          rw [if_pos (by omega), if_neg h2]
        rw [e, e2]
        exact out_nx d a (by omega)

/-! ### sets of pages as bits -/
theorem bit_sub {s p x : Nat} (h : s.testBit p = true) : (s - 2 ^ p).testBit x = (s.testBit x && decide (x ≠ p)) := by
  have e0 : s = 2 ^ (p + 1) * (s / 2 ^ (p + 1)) + s % 2 ^ (p + 1) := (Nat.div_add_mod _ _).symm
  have hlt : s % 2 ^ (p + 1) < 2 ^ (p + 1) := Nat.mod_lt _ (Nat.two_pow_pos _)
  have hb : (s % 2 ^ (p + 1)).testBit p = true := by rw [Nat.testBit_mod_two_pow]; simp [h]
  have hge : 2 ^ p ≤ s % 2 ^ (p + 1) := Nat.ge_two_pow_of_testBit hb
  have e2 : 2 ^ (p + 1) = 2 ^ p + 2 ^ p := by rw [Nat.pow_succ]; omega
  have er : s % 2 ^ (p + 1) = 2 ^ p + (s % 2 ^ (p + 1) - 2 ^ p) := by omega
  have e1 : s - 2 ^ p = 2 ^ (p + 1) * (s / 2 ^ (p + 1)) + (s % 2 ^ (p + 1) - 2 ^ p) := by omega
  rw [e1, Nat.testBit_two_pow_mul_add _ (by omega)]
  by_cases hx : x < p + 1
  · rw [if_pos hx]
    have e3 : s.testBit x = (s % 2 ^ (p + 1)).testBit x := by rw [Nat.testBit_mod_two_pow]; simp [hx]
    rw [e3, er]
    rcases Nat.lt_or_ge x p with h1 | h1
    · rw [Nat.testBit_two_pow_add_gt h1]
      simp [show x ≠ p by omega]
    · obtain rfl : x = p := by omega
      have : (s % 2 ^ (x + 1) - 2 ^ x).testBit x = false := Nat.testBit_lt_two_pow (by omega)
      simp [this]
  · rw [if_neg hx]
    have e3 : s.testBit x = (s / 2 ^ (p + 1)).testBit (x - (p + 1)) := by
      rw [Nat.testBit_div_two_pow]
      congr 1
      omega
    rw [e3]
    simp [show x ≠ p by omega]
def begS (s p : Nat) : Nat := if s.testBit p then s - 2 ^ p else s
theorem begS_bit (s p x : Nat) : (begS s p).testBit x = (s.testBit x && decide (x ≠ p)) := by
  unfold begS
  by_cases h : s.testBit p = true
  · rw [if_pos h]; exact bit_sub h
  · rw [if_neg h]
    by_cases e : x = p
    · subst e; simp_all
    · simp [e]
theorem begS_lt {s p n : Nat} (h : s < 2 ^ n) : begS s p < 2 ^ n := by
  unfold begS
  split
  · exact Nat.lt_of_le_of_lt (Nat.sub_le _ _) h
  · exact h
theorem or_bit (s t x : Nat) : (s ||| 2 ^ t).testBit x = (s.testBit x || decide (t = x)) := by
  rw [Nat.testBit_or, Nat.testBit_two_pow]
/-! ### the reference's marks -/
/-- what a mark adds and the set behind it: the first t pages -/
def mkT (k : Int) (xs : List Int) (i m : Nat) : Nat → Int × Nat
  | 0 => (gn0 k xs i, m)
  | t + 1 => if (t : Int) = xs.getD i 0 ∨ (t : Int) ∉ xs.take i then mkT k xs i m t else if (t : Int) ∉ xs.drop (i + 1) ∨ (mkT k xs i m t).2.testBit t = true then ((mkT k xs i m t).1 - 1, (mkT k xs i m t).2) else ((mkT k xs i m t).1, (mkT k xs i m t).2 ||| 2 ^ t)
theorem mkT_lt {k : Int} {xs : List Int} {i m n : Nat} (h : m < 2 ^ n) : ∀ {t}, t ≤ n → (mkT k xs i m t).2 < 2 ^ n
  | 0, _ => h
  | t + 1, ht => by
    have ih := mkT_lt (k := k) (xs := xs) (i := i) h (t := t) (by omega)
    unfold mkT
    split
    · exact ih
    · split
      · exact ih
      · exact Nat.or_lt_two_pow ih (Nat.pow_lt_pow_right (by omega) (by omega))
theorem mkT_bit (k : Int) (xs : List Int) (i m : Nat) : ∀ t x, (mkT k xs i m t).2.testBit x = true ↔ m.testBit x = true ∨ (x < t ∧ (x : Int) ≠ xs.getD i 0 ∧ (x : Int) ∈ xs.take i ∧ (x : Int) ∈ xs.drop (i + 1))
  | 0, x => by show m.testBit x = true ↔ _; simp
  | t + 1, x => by
    have ih := mkT_bit k xs i m t x
    have iht := mkT_bit k xs i m t t
    unfold mkT
    by_cases h1 : (t : Int) = xs.getD i 0 ∨ (t : Int) ∉ xs.take i
    · rw [if_pos h1, ih]
      refine or_congr Iff.rfl ⟨fun h => ⟨by omega, h.2⟩, fun h => ⟨?_, h.2⟩⟩
      rcases Nat.lt_or_ge x t with h2 | h2
      · exact h2
      · obtain rfl : x = t := by omega
        exact absurd h1 (fun h5 => h5.elim (fun e => h.2.1 e) fun e => e h.2.2.1)
    · rw [if_neg h1]
      simp only [not_or, Classical.not_not] at h1
      by_cases h3 : (t : Int) ∉ xs.drop (i + 1) ∨ (mkT k xs i m t).2.testBit t = true
      · rw [if_pos h3]
        show (mkT k xs i m t).2.testBit x = true ↔ _
        rw [ih]
        constructor
        · rintro (h | h)
          · exact .inl h
          · exact .inr ⟨by omega, h.2⟩
        · rintro (h | h)
          · exact .inl h
          · rcases Nat.lt_or_ge x t with h2 | h2
            · exact .inr ⟨h2, h.2⟩
            · obtain rfl : x = t := by omega
              rcases h3 with h3 | h3
              · exact absurd h.2.2.2 h3
              · rcases iht.1 h3 with h4 | h4
                · exact .inl h4
                · omega
      · rw [if_neg h3]
        simp only [not_or, Classical.not_not] at h3
        show ((mkT k xs i m t).2 ||| 2 ^ t).testBit x = true ↔ _
        rw [or_bit, Bool.or_eq_true, ih, decide_eq_true_eq]
        constructor
        · rintro ((h | h) | rfl)
          · exact .inl h
          · exact .inr ⟨by omega, h.2⟩
          · exact .inr ⟨by omega, h1.1, h1.2, h3.1⟩
        · rintro (h | h)
          · exact .inl (.inl h)
          · rcases Nat.lt_or_ge x t with h2 | h2
            · exact .inl (.inr ⟨h2, h.2⟩)
            · exact .inr (by omega)
/-- whether a page takes one from what a mark adds -/
def hitX (xs : List Int) (i m x : Nat) : Int := if (x : Int) ≠ xs.getD i 0 ∧ (x : Int) ∈ xs.take i ∧ ((x : Int) ∉ xs.drop (i + 1) ∨ m.testBit x = true) then 1 else 0
theorem mkT_gain (k : Int) (xs : List Int) (i m : Nat) : ∀ t, (mkT k xs i m t).1 = gn0 k xs i - sumN (hitX xs i m) t
  | 0 => by show gn0 k xs i = gn0 k xs i - 0; omega
  | t + 1 => by
    have ih := mkT_gain k xs i m t
    have hb := mkT_bit k xs i m t t
    have hb' : (mkT k xs i m t).2.testBit t = true ↔ m.testBit t = true := ⟨fun h => (hb.1 h).elim id fun h2 => absurd h2.1 (Nat.lt_irrefl _), fun h => hb.2 (.inl h)⟩
    show (mkT k xs i m (t + 1)).1 = gn0 k xs i - (sumN (hitX xs i m) t + hitX xs i m t)
    unfold mkT hitX
    by_cases h1 : (t : Int) = xs.getD i 0 ∨ (t : Int) ∉ xs.take i
    · rw [if_pos h1, if_neg (fun h => h1.elim (fun e => h.1 e) fun e => e h.2.1), ih]
      unfold hitX
      omega
    · rw [if_neg h1]
      simp only [not_or, Classical.not_not] at h1
      by_cases h3 : (t : Int) ∉ xs.drop (i + 1) ∨ (mkT k xs i m t).2.testBit t = true
      · rw [if_pos h3, if_pos ⟨h1.1, h1.2, h3.imp id hb'.1⟩]
        show (mkT k xs i m t).1 - 1 = _
        rw [ih]
        unfold hitX
        omega
      · rw [if_neg h3, if_neg fun h => h3 (h.2.2.imp id hb'.2)]
        show (mkT k xs i m t).1 = _
        rw [ih]
        unfold hitX
        omega
/-- the most that marks at the last d places add, with a set of pages ahead of them -/
def gS (k : Int) (n : Nat) (xs : List Int) : Nat → Nat → Int
  | 0, _ => 0
  | d + 1, s =>
    let m := begS s (xs.getD (xs.length - (d + 1)) 0).toNat
    let r := mkT k xs (xs.length - (d + 1)) m n
    max (gS k n xs d m) (r.1 + gS k n xs d r.2)
def outS (k : Int) (n : Nat) (xs : List Int) : Nat → Nat → List Int
  | 0, _ => []
  | d + 1, s =>
    let m := begS s (xs.getD (xs.length - (d + 1)) 0).toNat
    let r := mkT k xs (xs.length - (d + 1)) m n
    if 0 < gS k n xs (d + 1) s then (if r.1 + gS k n xs d r.2 = gS k n xs (d + 1) s then ((xs.length - (d + 1) : Nat) : Int) :: outS k n xs d r.2 else outS k n xs d m) else []
/-! ### sums over places and over pages -/
theorem sumN_zero : ∀ n, sumN (fun _ => 0) n = 0
  | 0 => rfl
  | n + 1 => by show sumN (fun _ => 0) n + 0 = 0; rw [sumN_zero n]; rfl
theorem sumN_swap (f : Nat → Nat → Int) (a : Nat) : ∀ b, sumN (fun i => sumN (fun j => f i j) b) a = sumN (fun j => sumN (fun i => f i j) a) b
  | 0 => sumN_zero a
  | b + 1 => by
    show sumN (fun i => sumN (fun j => f i j) b + f i b) a = sumN (fun j => sumN (fun i => f i j) a) b + sumN (fun i => f i b) a
    rw [sumN_add, sumN_swap f a b]
theorem sumN_one {f : Nat → Int} {n c : Nat} (hc : c < n) (h : ∀ i, i < n → i ≠ c → f i = 0) : sumN f n = f c := by
  have key : ∀ m, m ≤ n → sumN f m = if c < m then f c else 0 := fun m => by
    induction m with
    | zero => intro _; rfl
    | succ m ih =>
      intro hm
      show sumN f m + f m = _
      rw [ih (by omega)]
      by_cases e : m = c
      · subst e
        rw [if_neg (Nat.lt_irrefl _), if_pos (by omega)]
        omega
      · rw [h m (by omega) e]
        by_cases e2 : c < m
        · rw [if_pos e2, if_pos (by omega)]; omega
        · rw [if_neg e2, if_neg (by omega)]; omega
  rw [key n (Nat.le_refl _), if_pos hc]
theorem lst_take {xs : List Int} {p : Int} {i : Nat} (hi : i ≤ xs.length) : p ∈ xs.take i ↔ lstN xs p i ≠ 0 := by
  constructor
  · intro h e
    obtain ⟨j, hj, h1⟩ := List.mem_take_iff_getElem.1 h
    exact lstN_ne (xs := xs) (p := p) (i := i) (j := j) (by omega) (by omega) (by rw [getD_inL (by omega)]; exact h1)
  · intro h
    have h1 := lstN_at h
    have h2 := lstN_le xs p i
    refine List.mem_take_iff_getElem.2 ⟨lstN xs p i - 1, by omega, ?_⟩
    rw [getD_inL (by omega)] at h1
    exact h1
theorem use_drop {xs : List Int} {j : Nat} {p : Int} (hj : j < xs.length) : p ∈ xs.drop (j + 1) ↔ useP xs j p < xs.length := by
  unfold useP
  rw [← List.idxOf_lt_length_iff, List.length_drop]
  omega
theorem nx_neg {xs : List Int} {j : Nat} (hj : j < xs.length) : nxI xs j < 0 ↔ xs.getD j 0 ∉ xs.drop (j + 1) := by
  rw [use_drop hj]
  unfold nxI
  split <;> rename_i h
  · simp only [h, not_true, iff_false]; omega
  · simp only [h, not_false_eq_true, iff_true]; omega
theorem drop_next {xs : List Int} {i : Nat} (hi : i < xs.length) (p : Int) : p ∈ xs.drop i ↔ p = xs.getD i 0 ∨ p ∈ xs.drop (i + 1) := by
  rw [List.drop_eq_getElem_cons hi, List.mem_cons, getD_inL hi]
theorem drop_far {xs : List Int} {p : Int} {i j : Nat} (h1 : j ≤ i) (h : ∀ t, j ≤ t → t < i → xs.getD t 0 ≠ p) (hi : i ≤ xs.length) : p ∈ xs.drop j ↔ p ∈ xs.drop i := by
  induction i with
  | zero => obtain rfl : j = 0 := by omega
            exact Iff.rfl
  | succ i ih =>
    rcases Nat.lt_or_ge i j with h2 | h2
    · obtain rfl : j = i + 1 := by omega
      exact Iff.rfl
    · rw [ih h2 (fun t h3 h4 => h t h3 (by omega)) (by omega), drop_next (by omega)]
      exact ⟨fun h3 => h3.elim (fun e => absurd e.symm (h i h2 (by omega))) id, .inr⟩
/-- pages are below n -/
structure PgOK (n : Nat) (xs : List Int) : Prop where
  low : ∀ i, i < xs.length → 0 ≤ xs.getD i 0
  high : ∀ i, i < xs.length → xs.getD i 0 < (n : Int)
theorem hit_one {n : Nat} {xs : List Int} (hx : PgOK n xs) {i m a : Nat} (hi : i < xs.length) (hm : ∀ x, m.testBit x = true ↔ x < n ∧ (x : Int) ≠ xs.getD i 0 ∧ lstN xs x i ≠ 0 ∧ lstN xs x i < a ∧ (x : Int) ∈ xs.drop (i + 1)) {j : Nat} (hj : j < xs.length) :
    hitI xs ((a : Int) - 1) i j = sumN (fun x => if lstN xs (x : Int) i = j + 1 then hitX xs i m x else 0) n := by
  have hl := hx.low j hj
  have hh := hx.high j hj
  obtain ⟨y, hy⟩ : ∃ y : Nat, xs.getD j 0 = (y : Int) := ⟨(xs.getD j 0).toNat, by omega⟩
  have hyn : y < n := by omega
  rw [sumN_one (c := y) hyn fun x hxn hne => by
    rw [if_neg]
    intro e
    have h1 := lstN_at (xs := xs) (p := (x : Int)) (i := i) (by omega)
    rw [e, Nat.add_sub_cancel, hy] at h1
    omega]
  have hle := lstN_le xs (y : Int) i
  unfold hitI
  by_cases h1 : i ≤ j
  · rw [if_pos (by omega), if_neg (by omega)]
  · rw [if_neg (by omega)]
    by_cases h2 : lstN xs (y : Int) i = j + 1
    · rw [if_pos h2]
      have hne : ∀ t, j + 1 ≤ t → t < i → xs.getD t 0 ≠ (y : Int) := fun t h3 h4 => lstN_ne (i := i) (by omega) h4
      have hmem : (y : Int) ∈ xs.drop (j + 1) ↔ (y : Int) = xs.getD i 0 ∨ (y : Int) ∈ xs.drop (i + 1) := (drop_far (i := i) (by omega) hne (by omega)).trans (drop_next hi _)
      have ht : (y : Int) ∈ xs.take i := (lst_take (by omega)).2 (by omega)
      have hng := nx_neg hj
      rw [hy, hmem] at hng
      unfold hitX
      by_cases h3 : (y : Int) = xs.getD i 0
      · rw [if_neg (show ¬ nxI xs j < 0 by rw [hng]; exact fun h => h (.inl h3))]
        rw [if_neg (c := (y : Int) ≠ xs.getD i 0 ∧ _) fun h => h.1 h3]
        rw [if_neg]
        rintro ⟨h4, _⟩
        have e : useP xs j (xs.getD j 0) = i := use_eq (by omega) hi (by rw [hy]; exact h3.symm) fun t h5 h6 => by rw [hy]; exact hne t (by omega) h6
        unfold nxI at h4
        rw [e] at h4
        split at h4 <;> omega
      · by_cases h4 : (y : Int) ∈ xs.drop (i + 1)
        · rw [if_neg (show ¬ nxI xs j < 0 by rw [hng]; exact fun h => h (.inr h4))]
          have hu : i < useP xs j (xs.getD j 0) := by
            rw [hy]
            have hg := use_gt xs j (y : Int)
            rcases Nat.lt_or_ge i (useP xs j (y : Int)) with h5 | h5
            · exact h5
            · exfalso
              have h6 := use_at (xs := xs) (a := j) (p := (y : Int)) (by omega)
              rcases Nat.lt_or_ge (useP xs j (y : Int)) i with h7 | h7
              · exact hne _ (by omega) h7 h6
              · rw [show useP xs j (y : Int) = i by omega] at h6
                exact h3 h6.symm
          have hu2 : useP xs j (xs.getD j 0) < xs.length := by rw [hy]; exact (use_drop hj).1 (hmem.2 (.inr h4))
          have e : nxI xs j = (useP xs j (xs.getD j 0) : Int) := if_pos hu2
          rw [e]
          have hb := hm y
          by_cases h5 : j + 1 < a
          · rw [if_pos ⟨by omega, by omega⟩, if_pos ⟨h3, ht, .inr (hb.2 ⟨hyn, h3, by omega, by omega, h4⟩)⟩]
          · rw [if_neg (by omega), if_neg]
            rintro ⟨_, _, h6 | h6⟩
            · exact h6 h4
            · have := (hb.1 h6).2.2.2.1
              omega
        · rw [if_pos (hng.2 fun h => h.elim h3 h4), if_pos ⟨h3, ht, .inl h4⟩]
    · rw [if_neg h2]
      have h5 : j + 1 < lstN xs (y : Int) i := by
        rcases Nat.lt_or_ge (j + 1) (lstN xs (y : Int) i) with h5 | h5
        · exact h5
        · exact absurd hy (lstN_ne (i := i) (by omega) (by omega))
      have h6 := lstN_at (xs := xs) (p := (y : Int)) (i := i) (by omega)
      have hu : useP xs j (xs.getD j 0) ≤ lstN xs (y : Int) i - 1 := by
        rcases Nat.lt_or_ge (lstN xs (y : Int) i - 1) (useP xs j (xs.getD j 0)) with h7 | h7
        · exact absurd h6 (by rw [hy] at h7; exact use_ne (by omega) h7 (by omega))
        · exact h7
      have e : nxI xs j = (useP xs j (xs.getD j 0) : Int) := if_pos (by omega)
      rw [e, if_neg (by omega), if_neg (by omega)]
theorem hit_all {n : Nat} {xs : List Int} (hx : PgOK n xs) {i m a : Nat} (hi : i < xs.length) (hm : ∀ x, m.testBit x = true ↔ x < n ∧ (x : Int) ≠ xs.getD i 0 ∧ lstN xs x i ≠ 0 ∧ lstN xs x i < a ∧ (x : Int) ∈ xs.drop (i + 1)) :
    sumN (hitI xs ((a : Int) - 1) i) xs.length = sumN (hitX xs i m) n := by
  rw [sumN_congr fun j hj => hit_one hx hi hm hj, sumN_swap]
  refine sumN_congr fun x hxn => ?_
  have hle := lstN_le xs (x : Int) i
  by_cases h : lstN xs (x : Int) i = 0
  · have e : hitX xs i m x = 0 := by
      unfold hitX
      rw [if_neg fun h2 => (lst_take (Nat.le_of_lt hi)).1 h2.2.1 h]
    rw [e]
    rw [sumN_congr (g := fun _ => 0) fun j _ => by rw [if_neg (by omega)], sumN_zero]
  · rw [sumN_one (c := lstN xs (x : Int) i - 1) (by omega) fun j _ hne => by rw [if_neg (by omega)], if_pos (by omega)]
/-! ### the set of a last mark -/
def RelS (n : Nat) (xs : List Int) (i a s : Nat) : Prop := ∀ x, s.testBit x = true ↔ x < n ∧ lstN xs (x : Int) i ≠ 0 ∧ lstN xs (x : Int) i < a ∧ (x : Int) ∈ xs.drop i
theorem rel_zero (n : Nat) (xs : List Int) (a : Nat) : RelS n xs 0 a 0 := fun x => by
  rw [Nat.zero_testBit]
  exact ⟨fun h => absurd h (by decide), fun h => absurd rfl h.2.1⟩
theorem rel_beg {n : Nat} {xs : List Int} (hx : PgOK n xs) {i a s : Nat} (hi : i < xs.length) (h : RelS n xs i a s) : ∀ x, (begS s (xs.getD i 0).toNat).testBit x = true ↔ x < n ∧ (x : Int) ≠ xs.getD i 0 ∧ lstN xs x i ≠ 0 ∧ lstN xs x i < a ∧ (x : Int) ∈ xs.drop (i + 1) := fun x => by
  have hl := hx.low i hi
  rw [begS_bit, Bool.and_eq_true, h x, decide_eq_true_eq, drop_next hi]
  constructor
  · rintro ⟨⟨h1, h2, h3, h4⟩, h5⟩
    have h6 : (x : Int) ≠ xs.getD i 0 := by omega
    exact ⟨h1, h6, h2, h3, h4.resolve_left h6⟩
  · rintro ⟨h1, h2, h3, h4, h5⟩
    exact ⟨⟨h1, h3, h4, .inr h5⟩, by omega⟩
theorem rel_no {n : Nat} {xs : List Int} (hx : PgOK n xs) {i a s : Nat} (hi : i < xs.length) (ha : a ≤ i) (h : RelS n xs i a s) : RelS n xs (i + 1) a (begS s (xs.getD i 0).toNat) := fun x => by
  rw [rel_beg hx hi h]
  by_cases e : xs.getD i 0 = (x : Int)
  · have e2 : lstN xs (x : Int) (i + 1) = i + 1 := if_pos e
    rw [e2]
    constructor
    · rintro ⟨_, h2, _⟩; exact absurd e.symm h2
    · rintro ⟨_, _, h2, _⟩; omega
  · have e2 : lstN xs (x : Int) (i + 1) = lstN xs (x : Int) i := if_neg e
    rw [e2]
    exact ⟨fun ⟨h1, _, h3⟩ => ⟨h1, h3⟩, fun ⟨h1, h3⟩ => ⟨h1, fun e3 => e e3.symm, h3⟩⟩
theorem rel_yes {k : Int} {n : Nat} {xs : List Int} (hx : PgOK n xs) {i a s : Nat} (hi : i < xs.length) (ha : a ≤ i) (h : RelS n xs i a s) : RelS n xs (i + 1) (i + 1) (mkT k xs i (begS s (xs.getD i 0).toNat) n).2 := fun x => by
  rw [mkT_bit, rel_beg hx hi h, lst_take (Nat.le_of_lt hi)]
  have hle := lstN_le xs (x : Int) i
  by_cases e : xs.getD i 0 = (x : Int)
  · have e2 : lstN xs (x : Int) (i + 1) = i + 1 := if_pos e
    rw [e2]
    constructor
    · rintro (⟨_, h2, _⟩ | ⟨_, h2, _⟩) <;> exact absurd e.symm h2
    · rintro ⟨_, _, h2, _⟩; omega
  · have e2 : lstN xs (x : Int) (i + 1) = lstN xs (x : Int) i := if_neg e
    have e3 : (x : Int) ≠ xs.getD i 0 := fun h => e h.symm
    rw [e2]
    constructor
    · rintro (⟨h1, h2, h3, h4, h5⟩ | ⟨h1, h2, h3, h4⟩)
      · exact ⟨h1, h3, by omega, h5⟩
      · exact ⟨h1, h3, by omega, h4⟩
    · rintro ⟨h1, h2, _, h4⟩
      exact .inr ⟨h1, e3, h2, h4⟩
theorem gain_eq {k : Int} {n : Nat} {xs : List Int} (hx : PgOK n xs) {i a s : Nat} (hi : i < xs.length) (h : RelS n xs i a s) : (mkT k xs i (begS s (xs.getD i 0).toNat) n).1 = gqV k xs a i := by
  rw [mkT_gain, ← hit_all hx hi (rel_beg hx hi h)]
  rfl
theorem gS_eq {k : Int} {n : Nat} {xs : List Int} (hx : PgOK n xs) : ∀ {d a s}, d ≤ xs.length → a ≤ xs.length - d → RelS n xs (xs.length - d) a s → gS k n xs d s = vN k xs d a
  | 0, _, _, _, _, _ => rfl
  | d + 1, a, s, hd, ha, h => by
    have hi : xs.length - (d + 1) < xs.length := by omega
    have e : xs.length - (d + 1) + 1 = xs.length - d := by omega
    have h1 := rel_no hx hi ha h
    have h2 := rel_yes (k := k) hx hi ha h
    rw [e] at h1 h2
    show max (gS k n xs d (begS s _)) ((mkT k xs (xs.length - (d + 1)) (begS s _) n).1 + gS k n xs d (mkT k xs (xs.length - (d + 1)) (begS s _) n).2) = max (vN k xs d a) (gqV k xs a (xs.length - (d + 1)) + vN k xs d (xs.length - d))
    rw [gS_eq hx (by omega) (by omega) h1, gS_eq hx (by omega) (by omega) h2, gain_eq hx hi h]
theorem outS_eq {k : Int} {n : Nat} {xs : List Int} (hx : PgOK n xs) : ∀ {d a s}, d ≤ xs.length → a ≤ xs.length - d → RelS n xs (xs.length - d) a s → outS k n xs d s = outF k xs d a
  | 0, _, _, _, _, _ => rfl
  | d + 1, a, s, hd, ha, h => by
    have hi : xs.length - (d + 1) < xs.length := by omega
    have e : xs.length - (d + 1) + 1 = xs.length - d := by omega
    have h1 := rel_no hx hi ha h
    have h2 := rel_yes (k := k) hx hi ha h
    rw [e] at h1 h2
    show (if 0 < gS k n xs (d + 1) s then (if (mkT k xs (xs.length - (d + 1)) (begS s _) n).1 + gS k n xs d (mkT k xs (xs.length - (d + 1)) (begS s _) n).2 = gS k n xs (d + 1) s then _ :: outS k n xs d (mkT k xs (xs.length - (d + 1)) (begS s _) n).2 else outS k n xs d (begS s _)) else []) = (if 0 < vN k xs (d + 1) a then (if gqV k xs a (xs.length - (d + 1)) + vN k xs d (xs.length - d) = vN k xs (d + 1) a then _ :: outF k xs d (xs.length - d) else outF k xs d a) else [])
    rw [gS_eq hx hd ha h, gS_eq hx (by omega) (by omega) h2, gain_eq hx hi h, outS_eq hx (by omega) (by omega) h1, outS_eq hx (by omega) (by omega) h2]
/-- the marks of both are alike -/
theorem marks_eq {k : Int} {n : Nat} {xs : List Int} (hx : PgOK n xs) : outS k n xs xs.length 0 = outF k xs xs.length 0 := outS_eq hx (Nat.le_refl _) (by omega) (by rw [Nat.sub_self]; exact rel_zero n xs 0)
end Go.Proofs.Ytobhlnaogbadjaa
