/- The marks with the greatest bound, on the machine: the program's. Conditions: a cache and a sequence that are right. -/
import Derived.Test.YtobhlnaogbadjaaFindP
import Derived.Test.YtobhlnaogbadjaaUse
import Derived.Test.YtobhlnaogbadjaaKitG
set_option linter.all false
set_option linter.unusedSimpArgs false
set_option linter.unusedVariables false
namespace Go.Proofs.Ytobhlnaogbadjaa
open Go Go.RowKit Am

/-- what the program's tables hold while the last t of its rows are done -/
def bK (k : Int) (xs : List Int) (t : Nat) : List Int := (List.range (xs.length + 1)).map fun a => if xs.length < a + t then vN k xs (xs.length - a) a else 0
def fK (k : Int) (xs : List Int) (t : Nat) : List Int := (List.range (xs.length + 1)).map fun a => if xs.length < a + t then nxF k xs (xs.length - a) a else -1
theorem bK_len (k : Int) (xs : List Int) (t : Nat) : (bK k xs t).length = xs.length + 1 := by simp [bK]
theorem fK_len (k : Int) (xs : List Int) (t : Nat) : (fK k xs t).length = xs.length + 1 := by simp [fK]
theorem bK_at {k : Int} {xs : List Int} {t a : Nat} (h : a ≤ xs.length) : (bK k xs t).getD a 0 = if xs.length < a + t then vN k xs (xs.length - a) a else 0 := by
  unfold bK
  rw [List.getD_eq_getElem?_getD, List.getElem?_map, List.getElem?_range (by omega)]
  rfl
theorem fK_at {k : Int} {xs : List Int} {t a : Nat} (h : a ≤ xs.length) : (fK k xs t).getD a 0 = if xs.length < a + t then nxF k xs (xs.length - a) a else -1 := by
  unfold fK
  rw [List.getD_eq_getElem?_getD, List.getElem?_map, List.getElem?_range (by omega)]
  rfl
theorem bK_zero (k : Int) (xs : List Int) : bK k xs 0 = List.replicate (xs.length + 1) 0 := by
  refine List.ext_getElem (by simp [bK]) fun i h1 h2 => ?_
  simp only [bK, List.getElem_map, List.getElem_range, List.getElem_replicate, List.length_map, List.length_range] at h1 ⊢
  rw [if_neg (by omega)]
theorem fK_zero (k : Int) (xs : List Int) : fK k xs 0 = List.replicate (xs.length + 1) (-1) := by
  refine List.ext_getElem (by simp [fK]) fun i h1 h2 => ?_
  simp only [fK, List.getElem_map, List.getElem_range, List.getElem_replicate, List.length_map, List.length_range] at h1 ⊢
  rw [if_neg (by omega)]
theorem bK_next {k : Int} {xs : List Int} {t : Nat} (h : t ≤ xs.length) : (bK k xs t).set (xs.length - t) (vN k xs t (xs.length - t)) = bK k xs (t + 1) := by
  refine List.ext_getElem (by simp [bK]) fun i h1 h2 => ?_
  have hi : i ≤ xs.length := by have := bK_len k xs (t + 1); omega
  rw [List.getElem_set]
  simp only [bK, List.getElem_map, List.getElem_range]
  by_cases e : xs.length - t = i
  · rw [if_pos e, if_pos (by omega), ← e, show xs.length - (xs.length - t) = t by omega]
  · rw [if_neg e]
    by_cases h3 : xs.length < i + t
    · rw [if_pos h3, if_pos (by omega)]
    · rw [if_neg h3, if_neg (by omega)]
theorem fK_next {k : Int} {xs : List Int} {t : Nat} (h : t ≤ xs.length) : (fK k xs t).set (xs.length - t) (nxF k xs t (xs.length - t)) = fK k xs (t + 1) := by
  refine List.ext_getElem (by simp [fK]) fun i h1 h2 => ?_
  have hi : i ≤ xs.length := by have := fK_len k xs (t + 1); omega
  rw [List.getElem_set]
  simp only [fK, List.getElem_map, List.getElem_range]
  by_cases e : xs.length - t = i
  · rw [if_pos e, if_pos (by omega), ← e, show xs.length - (xs.length - t) = t by omega]
  · rw [if_neg e]
    by_cases h3 : xs.length < i + t
    · rw [if_pos h3, if_pos (by omega)]
    · rw [if_neg h3, if_neg (by omega)]
theorem set_same {α : Type} {xs : List α} {i : Nat} {d : α} (h : i < xs.length) : xs.set i (xs.getD i d) = xs := by
  rw [getD_inL h]
  exact List.set_getElem_self h
theorem bK_self {k : Int} {xs : List Int} {t : Nat} (h : t ≤ xs.length) : (bK k xs t).set (xs.length - t) (vN k xs 0 (xs.length - t)) = bK k xs t := by
  have h1 : (bK k xs t).getD (xs.length - t) 0 = 0 := by rw [bK_at (by omega), if_neg (by omega)]
  have := set_same (xs := bK k xs t) (i := xs.length - t) (d := 0) (by rw [bK_len]; omega)
  rw [h1] at this
  exact this
theorem fK_self {k : Int} {xs : List Int} {t : Nat} (h : t ≤ xs.length) : (fK k xs t).set (xs.length - t) (nxF k xs 0 (xs.length - t)) = fK k xs t := by
  have h1 : (fK k xs t).getD (xs.length - t) 0 = -1 := by rw [fK_at (by omega), if_neg (by omega)]
  have := set_same (xs := fK k xs t) (i := xs.length - t) (d := 0) (by rw [fK_len]; omega)
  rw [h1] at this
  exact this
theorem getD_set_ne {α : Type} {xs : List α} {i j : Nat} {x d : α} (h : i ≠ j) : (xs.set i x).getD j d = xs.getD j d := by
  rw [List.getD_eq_getElem?_getD, List.getElem?_set_ne h, ← List.getD_eq_getElem?_getD]
theorem getD_set_eq {α : Type} {xs : List α} {i : Nat} {x d : α} (h : i < xs.length) : (xs.set i x).getD i d = x := by
  rw [List.getD_eq_getElem?_getD, List.getElem?_set_self h]
  rfl
theorem vN_bd {k : Int} {xs : List Int} (h0 : 0 ≤ k) (hk : k ≤ 6) (hn : xs.length ≤ 60) : ∀ d a, d ≤ xs.length → a ≤ xs.length - d → 0 ≤ vN k xs d a ∧ vN k xs d a ≤ 60 * d
  | 0, _, _, _ => ⟨Int.le_refl _, Int.le_refl _⟩
  | d + 1, a, hd, ha => by
    have h1 := vN_bd h0 hk hn d a (by omega) (by omega)
    have h2 := vN_bd h0 hk hn d (xs.length - d) (by omega) (by omega)
    have h3 := gnV_bd h0 hk hn ((a : Int) - 1) (xs.length - (d + 1))
    unfold vN gqV
    omega
theorem nxF_bd (k : Int) (xs : List Int) : ∀ d a, d ≤ xs.length → -1 ≤ nxF k xs d a ∧ nxF k xs d a < xs.length ∧ (0 ≤ nxF k xs d a → ((xs.length - d : Nat) : Int) ≤ nxF k xs d a)
  | 0, _, _ => ⟨Int.le_refl _, by show (-1 : Int) < _; omega, fun h => absurd h (by show ¬ (0 : Int) ≤ -1; omega)⟩
  | d + 1, a, hd => by
    have h1 := nxF_bd k xs d a (by omega)
    unfold nxF
    split
    · refine ⟨by omega, by omega, fun _ => by omega⟩
    · refine ⟨h1.1, h1.2.1, fun h => ?_⟩
      have := h1.2.2 h
      omega
theorem outF_len (k : Int) (xs : List Int) : ∀ d a, (outF k xs d a).length ≤ d
  | 0, _ => Nat.le_refl _
  | d + 1, a => by
    unfold outF
    split
    · split
      · rw [List.length_cons]
        have := outF_len k xs d (xs.length - d)
        omega
      · have := outF_len k xs d a
        omega
    · exact Nat.zero_le _
set_option maxRecDepth 8000 in
set_option maxHeartbeats 2000000 in
theorem impl_FindMarks_h (k n : Int) (xs : List Int) (hb : pgB k n xs = true) : DoesH Try.prog 9 [.int k, .int n, .sl (.ints xs)] [] [] (.tup [.one (.own 0), .one (.b (.val (.bool true)))]) [.row 3 (.ints (outF k xs xs.length 0))] := by
  obtain ⟨hs1, hs2, hn1, hn2, hl, _⟩ := pg_ok hb
  have hs1' : 0 ≤ k := by omega
  refine spec_hB Try.func9 rfl Try.ntmps9 cfOK (fun _ _ => by kernel_rfl) rfl rfl rfl ?_
  intro M0 w0 S φ0
  rw [Try.results9]
  (repeat (first | refine g1 ?_ | refine g2 ?_ | ((first | refine g3 ?_ | refine g4 ?_ | refine g5 ?_); try simp only [xq, simprocAttr]) | ((first | refine g6 ?_ | refine g7 ?_); simp only [xr, simprocAttr]; repeat (guard_target =~ _ ∧ _; refine ⟨by first | trivial | (unfold I64; omega) | omega | (simp <;> omega) | (intros; omega), ?_⟩))))
  ((try refine Or.inl ?_); refine ⟨_, (isPaging_d k n xs), .inl rfl, ?_⟩; (try simp only [xr, simprocAttr]); repeat (guard_target =~ _ ∧ _; refine ⟨by first | trivial | (unfold I64; omega) | omega | (simp <;> omega) | (intros; omega), ?_⟩))
  rw [hb]
  (repeat (first | refine g1 ?_ | refine g2 ?_ | ((first | refine g3 ?_ | refine g4 ?_ | refine g5 ?_); try simp only [xq, simprocAttr]) | ((first | refine g6 ?_ | refine g7 ?_); simp only [xr, simprocAttr]; repeat (guard_target =~ _ ∧ _; refine ⟨by first | trivial | (unfold I64; omega) | omega | (simp <;> omega) | (intros; omega), ?_⟩))))
  refine awp_cond (by first | rfl | (simp only [xr, simprocAttr]; rfl)) (fun hr => ?_) (fun hr => ?_)
  · cases hr
  ((repeat (first | refine g1 ?_ | refine g2 ?_ | ((first | refine g3 ?_ | refine g4 ?_); try simp only [xq, simprocAttr]))); refine awp_anyG 2 [(3, [0]), (8, [1])] [0, 1] [(3, [1]), (8, [0]), (9, [1]), (10, [0])] ?_; simp (maxSteps := 3000000) only [xg, xr, simprocAttr]; repeat (guard_target =~ _ ∧ _; refine ⟨by first | (guard_target =~ _ = _; rfl) | (guard_target =~ (_ : Int) ≤ _; omega) | (first | trivial | (unfold I64; omega) | omega | (simp <;> omega) | (intros; omega)), ?_⟩))
  (refine .inr ⟨_, _, callG_b (repH (-1) (xs.length + 1) (by omega) (by omega)) rfl rfl rfl rfl rfl rfl, ?_⟩; (try simp (maxSteps := 3000000) only [xg, xr, simprocAttr]); repeat (guard_target =~ _ ∧ _; refine ⟨by first | (guard_target =~ _ = _; rfl) | (guard_target =~ (_ : Int) ≤ _; omega) | (first | trivial | (unfold I64; omega) | omega | (simp <;> omega) | (intros; omega)), ?_⟩))
  simp only [xm, simprocAttr]
  rw [show ((xs.length : Int) + 1).toNat = xs.length + 1 by omega, ← bK_zero k, ← fK_zero k]
  (repeat (first | refine g1 ?_ | refine g2 ?_ | ((first | refine g3 ?_ | refine g4 ?_ | refine g5 ?_); try simp only [xq, simprocAttr]) | ((first | refine g6 ?_ | refine g7 ?_); simp only [xr, simprocAttr]; repeat (guard_target =~ _ ∧ _; refine ⟨by first | trivial | (unfold I64; omega) | omega | (simp <;> omega) | (intros; omega), ?_⟩))))
  refine awp_rounds (α := Nat) (fun t => [(10, true, .int ((xs.length : Int) - 1 - t))]) [0, 2, 8, 9] (fun t => [.row 3 (.ints (bK k xs t)), .row 3 (.ints (fK k xs t))]) (fun t => t ≤ xs.length + 1) (fun t => xs.length + 1 - t) 0 (by ((try simp only [xk]); (repeat (refine leK_cons ?_ ?_; first | (focus (first | rfl | (simp only [xr, simprocAttr]; done) | (simp only [xr, simprocAttr]; refine int_eq1 ?_; first | trivial | (unfold I64; omega) | omega | (simp <;> omega) | (intros; omega)))) | rotate_left)); (refine leK_nil ?_; exact (by rfl)); (all_goals (try (simp only [xr, simprocAttr]; try refine int_eq1 ?_))))) (Nat.zero_le _) fun t ht => ?_
  have hbl := bK_len k xs t
  have hfl := fK_len k xs t
  simp only [xr, simprocAttr]
  (repeat (first | refine g1 ?_ | refine g2 ?_ | ((first | refine g3 ?_ | refine g4 ?_ | refine g5 ?_); try simp only [xq, simprocAttr]) | ((first | refine g6 ?_ | refine g7 ?_); simp only [xr, simprocAttr]; repeat (guard_target =~ _ ∧ _; refine ⟨by first | trivial | (unfold I64; omega) | omega | (simp <;> omega) | (intros; omega), ?_⟩))))
  refine awp_cond (by first | rfl | (simp only [xr, simprocAttr]; rfl)) (fun hc => ?_) (fun hc => ?_)
  · have hc := of_decide_eq_true hc
    have ht' : t ≤ xs.length := by omega
    (repeat (first | refine g1 ?_ | refine g2 ?_ | ((first | refine g3 ?_ | refine g4 ?_ | refine g5 ?_); try simp only [xq, simprocAttr]) | ((first | refine g6 ?_ | refine g7 ?_); simp only [xr, simprocAttr]; repeat (guard_target =~ _ ∧ _; refine ⟨by first | trivial | (unfold I64; omega) | omega | (simp <;> omega) | (intros; omega), ?_⟩))))
    refine awp_rounds (α := Nat) (fun d => [(11, true, .int ((xs.length : Int) - 1 - d))]) [0, 2, 8, 9, 10] (fun d => [.row 3 (.ints ((bK k xs t).set (xs.length - t) (vN k xs d (xs.length - t)))), .row 3 (.ints ((fK k xs t).set (xs.length - t) (nxF k xs d (xs.length - t))))]) (fun d => d ≤ t) (fun d => t - d) 0 (by rw [bK_self ht', fK_self ht']; ((try simp only [xk]); (repeat (refine leK_cons ?_ ?_; first | (focus (first | rfl | (simp only [xr, simprocAttr]; done) | (simp only [xr, simprocAttr]; refine int_eq1 ?_; first | trivial | (unfold I64; omega) | omega | (simp <;> omega) | (intros; omega)))) | rotate_left)); (refine leK_nil ?_; exact (by rfl)); (all_goals (try (simp only [xr, simprocAttr]; try refine int_eq1 ?_))))) (Nat.zero_le _) fun d hd => ?_
    simp only [xr, simprocAttr]
    (repeat (first | refine g1 ?_ | refine g2 ?_ | ((first | refine g3 ?_ | refine g4 ?_ | refine g5 ?_); try simp only [xq, simprocAttr]) | ((first | refine g6 ?_ | refine g7 ?_); simp only [xr, simprocAttr]; repeat (guard_target =~ _ ∧ _; refine ⟨by first | trivial | (unfold I64; omega) | omega | (simp <;> omega) | (intros; omega), ?_⟩))))
    refine awp_cond (by first | rfl | (simp only [xr, simprocAttr]; rfl)) (fun he => ?_) (fun he => ?_)
    · have he := of_decide_eq_true he
      have hd' : d < t := by omega
      have hg := gnV_bd hs1' hs2 hl ((xs.length : Int) - 1 - t) (xs.length - (d + 1))
      have hv := vN_bd hs1' hs2 hl d (xs.length - d) (by omega) (by omega)
      have hq : gnV k xs ((xs.length : Int) - 1 - t) (xs.length - (d + 1)) = gqV k xs (xs.length - t) (xs.length - (d + 1)) := by
        unfold gqV
        congr 1
        omega
      have hX : ((bK k xs t).set (xs.length - t) (vN k xs d (xs.length - t))).getD (((xs.length - (d + 1) : Nat) : Int) + 1).toNat 0 = vN k xs d (xs.length - d) := by
        rw [show (((xs.length - (d + 1) : Nat) : Int) + 1).toNat = xs.length - d by omega, getD_set_ne (by omega), bK_at (by omega), if_pos (by omega), show xs.length - (xs.length - d) = d by omega]
      have hX2 := hv
      rw [← hX] at hX2
      have hY : ((bK k xs t).set (xs.length - t) (vN k xs d (xs.length - t))).getD ((xs.length : Int) - 1 - t + 1).toNat 0 = vN k xs d (xs.length - t) := by
        rw [show ((xs.length : Int) - 1 - t + 1).toNat = xs.length - t by omega, getD_set_eq (by omega)]
      have hn0 := vN_nn k xs d (xs.length - t)
      have eq2 : vN k xs (d + 1) (xs.length - t) = max (vN k xs d (xs.length - t)) (gqV k xs (xs.length - t) (xs.length - (d + 1)) + vN k xs d (xs.length - d)) := rfl
      have eq3 : nxF k xs (d + 1) (xs.length - t) = if 0 < gqV k xs (xs.length - t) (xs.length - (d + 1)) + vN k xs d (xs.length - d) ∧ vN k xs d (xs.length - t) ≤ gqV k xs (xs.length - t) (xs.length - (d + 1)) + vN k xs d (xs.length - d) then ((xs.length - (d + 1) : Nat) : Int) else nxF k xs d (xs.length - t) := rfl
      rw [show (xs.length : Int) - 1 - d = ((xs.length - (d + 1) : Nat) : Int) by omega]
      (repeat (first | refine g1 ?_ | refine g2 ?_ | ((first | refine g3 ?_ | refine g4 ?_ | refine g5 ?_); try simp only [xq, simprocAttr]) | ((first | refine g6 ?_ | refine g7 ?_); simp only [xr, simprocAttr]; repeat (guard_target =~ _ ∧ _; refine ⟨by first | trivial | (unfold I64; omega) | omega | (simp <;> omega) | (intros; omega), ?_⟩))))
      ((try refine Or.inl ?_); refine ⟨_, (gain_d k xs ((xs.length : Int) - 1 - t) (xs.length - (d + 1)) hs1' hs2 hl (by omega)), .inl rfl, ?_⟩; (try simp only [xr, simprocAttr]); repeat (guard_target =~ _ ∧ _; refine ⟨by first | trivial | (unfold I64; omega) | omega | (simp <;> omega) | (intros; omega), ?_⟩))
      rw [hX, hq]
      (repeat (first | refine g1 ?_ | refine g2 ?_ | ((first | refine g3 ?_ | refine g4 ?_ | refine g5 ?_); try simp only [xq, simprocAttr]) | ((first | refine g6 ?_ | refine g7 ?_); simp only [xr, simprocAttr]; repeat (guard_target =~ _ ∧ _; refine ⟨by first | trivial | (unfold I64; omega) | omega | (simp <;> omega) | (intros; omega), ?_⟩))))
      rw [hY]
      refine awp_cond (by first | rfl | (simp only [xr, simprocAttr]; rfl)) (fun hf => ?_) (fun hf => ?_)
      · have hf2 : 0 < gqV k xs (xs.length - t) (xs.length - (d + 1)) + vN k xs d (xs.length - d) ∧ vN k xs d (xs.length - t) ≤ gqV k xs (xs.length - t) (xs.length - (d + 1)) + vN k xs d (xs.length - d) := by simpa using hf
        rw [if_pos hf2] at eq3
        have eq4 : vN k xs (d + 1) (xs.length - t) = gqV k xs (xs.length - t) (xs.length - (d + 1)) + vN k xs d (xs.length - d) := by omega
        (repeat (first | refine g1 ?_ | refine g2 ?_ | ((first | refine g3 ?_ | refine g4 ?_ | refine g5 ?_); try simp only [xq, simprocAttr]) | ((first | refine g6 ?_ | refine g7 ?_); simp only [xr, simprocAttr]; repeat (guard_target =~ _ ∧ _; refine ⟨by first | trivial | (unfold I64; omega) | omega | (simp <;> omega) | (intros; omega), ?_⟩))))
        refine ⟨d + 1, by omega, by omega, .inl ?_⟩
        ((try simp only [xk]); (repeat (refine leK_cons ?_ ?_; first | (focus (first | rfl | (simp only [xr, simprocAttr]; done) | (simp only [xr, simprocAttr]; refine int_eq1 ?_; first | trivial | (unfold I64; omega) | omega | (simp <;> omega) | (intros; omega)))) | rotate_left)); (refine leK_nil ?_; exact (by rw [eq3, eq4, show ((xs.length : Int) - 1 - t + 1).toNat = xs.length - t by omega, List.set_set, List.set_set])); (all_goals (try (simp only [xr, simprocAttr]; try refine int_eq1 ?_))))
      · have hf2 : ¬ (0 < gqV k xs (xs.length - t) (xs.length - (d + 1)) + vN k xs d (xs.length - d) ∧ vN k xs d (xs.length - t) ≤ gqV k xs (xs.length - t) (xs.length - (d + 1)) + vN k xs d (xs.length - d)) := by simpa using hf
        rw [if_neg hf2] at eq3
        have eq4 : vN k xs (d + 1) (xs.length - t) = vN k xs d (xs.length - t) := by omega
        (repeat (first | refine g1 ?_ | refine g2 ?_ | ((first | refine g3 ?_ | refine g4 ?_ | refine g5 ?_); try simp only [xq, simprocAttr]) | ((first | refine g6 ?_ | refine g7 ?_); simp only [xr, simprocAttr]; repeat (guard_target =~ _ ∧ _; refine ⟨by first | trivial | (unfold I64; omega) | omega | (simp <;> omega) | (intros; omega), ?_⟩))))
        refine ⟨d + 1, by omega, by omega, .inl ?_⟩
        ((try simp only [xk]); (repeat (refine leK_cons ?_ ?_; first | (focus (first | rfl | (simp only [xr, simprocAttr]; done) | (simp only [xr, simprocAttr]; refine int_eq1 ?_; first | trivial | (unfold I64; omega) | omega | (simp <;> omega) | (intros; omega)))) | rotate_left)); (refine leK_nil ?_; exact (by rw [eq3, eq4])); (all_goals (try (simp only [xr, simprocAttr]; try refine int_eq1 ?_))))
    · have he := of_decide_eq_false he
      obtain rfl : d = t := by omega
      rw [bK_next ht', fK_next ht']
      (repeat (first | refine g1 ?_ | refine g2 ?_ | ((first | refine g3 ?_ | refine g4 ?_ | refine g5 ?_); try simp only [xq, simprocAttr]) | ((first | refine g6 ?_ | refine g7 ?_); simp only [xr, simprocAttr]; repeat (guard_target =~ _ ∧ _; refine ⟨by first | trivial | (unfold I64; omega) | omega | (simp <;> omega) | (intros; omega), ?_⟩))))
      refine ⟨d + 1, by omega, by omega, .inl ?_⟩
      ((try simp only [xk]); (repeat (refine leK_cons ?_ ?_; first | (focus (first | rfl | (simp only [xr, simprocAttr]; done) | (simp only [xr, simprocAttr]; refine int_eq1 ?_; first | trivial | (unfold I64; omega) | omega | (simp <;> omega) | (intros; omega)))) | rotate_left)); (refine leK_nil ?_; exact (by rfl)); (all_goals (try (simp only [xr, simprocAttr]; try refine int_eq1 ?_))))
  · have hc := of_decide_eq_false hc
    obtain rfl : t = xs.length + 1 := by omega
    (repeat (first | refine g1 ?_ | refine g2 ?_ | ((first | refine g3 ?_ | refine g4 ?_ | refine g5 ?_); try simp only [xq, simprocAttr]) | ((first | refine g6 ?_ | refine g7 ?_); simp only [xr, simprocAttr]; repeat (guard_target =~ _ ∧ _; refine ⟨by first | trivial | (unfold I64; omega) | omega | (simp <;> omega) | (intros; omega), ?_⟩))))
    rw [fK_at (Nat.zero_le _), if_pos (by omega), Nat.sub_zero]
    refine awp_rounds (α := Nat × List Int) (fun x => [(14, true, .int (nxF k xs (xs.length - x.1) x.1)), (13, true, .lf (.own 2))]) [9] (fun x => [.row 3 (.ints (bK k xs (xs.length + 1))), .row 3 (.ints (fK k xs (xs.length + 1))), .row 3 (.ints x.2)]) (fun x => x.1 ≤ xs.length ∧ x.2 ++ outF k xs (xs.length - x.1) x.1 = outF k xs xs.length 0) (fun x => xs.length + 1 - x.1) (0, []) (by ((try simp only [xk]); (repeat (refine leK_cons ?_ ?_; first | (focus (first | rfl | (simp only [xr, simprocAttr]; done) | (simp only [xr, simprocAttr]; refine int_eq1 ?_; first | trivial | (unfold I64; omega) | omega | (simp <;> omega) | (intros; omega)))) | rotate_left)); (refine leK_nil ?_; exact (by rfl)); (all_goals (try (simp only [xr, simprocAttr]; try refine int_eq1 ?_))))) ⟨Nat.zero_le _, rfl⟩ fun ⟨a, ys⟩ hx => ?_
    obtain ⟨ha, hys⟩ := hx
    have hnb := nxF_bd k xs (xs.length - a) a (by omega)
    have hol := outF_len k xs xs.length 0
    have hyl : ys.length + (outF k xs (xs.length - a) a).length = (outF k xs xs.length 0).length := by rw [← hys, List.length_append]
    have ho := out_nx (k := k) (xs := xs) (xs.length - a) a (by omega)
    dsimp only at ha hys hnb hol hyl ho ⊢
    simp only [xr, simprocAttr]
    (repeat (first | refine g1 ?_ | refine g2 ?_ | ((first | refine g3 ?_ | refine g4 ?_ | refine g5 ?_); try simp only [xq, simprocAttr]) | ((first | refine g6 ?_ | refine g7 ?_); simp only [xr, simprocAttr]; repeat (guard_target =~ _ ∧ _; refine ⟨by first | trivial | (unfold I64; omega) | omega | (simp <;> omega) | (intros; omega), ?_⟩))))
    refine awp_cond (by first | rfl | (simp only [xr, simprocAttr]; rfl)) (fun hd => ?_) (fun hd => ?_)
    · have hd := of_decide_eq_true hd
      rw [if_neg (by omega)] at ho
      obtain ⟨p, hp⟩ : ∃ p : Nat, nxF k xs (xs.length - a) a = (p : Int) := ⟨(nxF k xs (xs.length - a) a).toNat, by omega⟩
      rw [hp] at hnb ho ⊢
      rw [Int.toNat_natCast] at ho
      have hlen : ys.length + 1 ≤ 60 := by rw [ho, List.length_cons] at hyl; omega
      have hn2 : (fK k xs (xs.length + 1)).getD (p + 1) 0 = nxF k xs (xs.length - (p + 1)) (p + 1) := by rw [fK_at (by omega), if_pos (by omega)]
      (repeat (first | refine g1 ?_ | refine g2 ?_ | ((first | refine g3 ?_ | refine g4 ?_ | refine g5 ?_); try simp only [xq, simprocAttr]) | ((first | refine g6 ?_ | refine g7 ?_); simp only [xr, simprocAttr]; repeat (guard_target =~ _ ∧ _; refine ⟨by first | trivial | (unfold I64; omega) | omega | (simp <;> omega) | (intros; omega), ?_⟩))))
      rw [show ((p : Int) + 1).toNat = p + 1 by omega, hn2]
      refine ⟨(p + 1, ys ++ [(p : Int)]), (by show p + 1 ≤ xs.length; omega), (by show (ys ++ [(p : Int)]) ++ outF k xs (xs.length - (p + 1)) (p + 1) = _; rw [← hys, ho, List.append_assoc]; rfl), (by show xs.length + 1 - (p + 1) < xs.length + 1 - a; omega), .inl ?_⟩
      ((try simp only [xk]); (repeat (refine leK_cons ?_ ?_; first | (focus (first | rfl | (simp only [xr, simprocAttr]; done) | (simp only [xr, simprocAttr]; refine int_eq1 ?_; first | trivial | (unfold I64; omega) | omega | (simp <;> omega) | (intros; omega)))) | rotate_left)); (refine leK_nil ?_; exact (by rfl)); (all_goals (try (simp only [xr, simprocAttr]; try refine int_eq1 ?_))))
    · have hd := of_decide_eq_false hd
      rw [if_pos (by omega)] at ho
      rw [ho, List.append_nil] at hys
      subst hys
      (repeat (first | refine g1 ?_ | refine g2 ?_ | ((first | refine g3 ?_ | refine g4 ?_ | refine g5 ?_); try simp only [xq, simprocAttr]) | ((first | refine g6 ?_ | refine g7 ?_); simp only [xr, simprocAttr]; repeat (guard_target =~ _ ∧ _; refine ⟨by first | trivial | (unfold I64; omega) | omega | (simp <;> omega) | (intros; omega), ?_⟩))))
      (simp only [ends_normal, ends_ret]; refine retH_2 (vs := [_, _]) [2] rfl ⟨rfl, trivial⟩ rfl rfl rfl rfl ⟨rfl, rfl, trivial⟩ ?_; try rfl)
end Go.Proofs.Ytobhlnaogbadjaa
