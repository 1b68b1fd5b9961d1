/- The marks with the greatest bound, on the machine: the reference's, and that both are alike. Conditions: none. -/
import Derived.Test.YtobhlnaogbadjaaFindG
set_option linter.all false
set_option linter.unusedSimpArgs false
set_option linter.unusedVariables false
namespace Go.Proofs.Ytobhlnaogbadjaa
open Go Go.RowKit Am

theorem outS_at {k : Int} {n : Nat} {xs : List Int} {i s : Nat} (hi : i < xs.length) : outS k n xs (xs.length - i) s = if 0 < gS k n xs (xs.length - i) s then (if (mkT k xs i (begS s (xs.getD i 0).toNat) n).1 + gS k n xs (xs.length - (i + 1)) (mkT k xs i (begS s (xs.getD i 0).toNat) n).2 = gS k n xs (xs.length - i) s then (i : Int) :: outS k n xs (xs.length - (i + 1)) (mkT k xs i (begS s (xs.getD i 0).toNat) n).2 else outS k n xs (xs.length - (i + 1)) (begS s (xs.getD i 0).toNat)) else [] := by
  obtain ⟨d, hd⟩ : ∃ d, xs.length - i = d + 1 := ⟨xs.length - i - 1, by omega⟩
  have e : xs.length - (d + 1) = i := by omega
  rw [hd, show xs.length - (i + 1) = d by omega]
  show (if 0 < gS k n xs (d + 1) s then (if (mkT k xs (xs.length - (d + 1)) (begS s (xs.getD (xs.length - (d + 1)) 0).toNat) n).1 + gS k n xs d _ = _ then ((xs.length - (d + 1) : Nat) : Int) :: _ else _) else []) = _
  rw [e]
theorem outS_len (k : Int) (n : Nat) (xs : List Int) : ∀ d s, (outS k n xs d s).length ≤ d
  | 0, _ => Nat.le_refl _
  | d + 1, s => by
    have h1 := outS_len k n xs d (begS s (xs.getD (xs.length - (d + 1)) 0).toNat)
    have h2 := outS_len k n xs d (mkT k xs (xs.length - (d + 1)) (begS s (xs.getD (xs.length - (d + 1)) 0).toNat) n).2
    unfold outS
    simp only
    split
    · split
      · rw [List.length_cons]
        omega
      · omega
    · exact Nat.zero_le _
set_option maxHeartbeats 4000000 in
theorem l5Find_d (k : Int) (n : Nat) (xs : List Int) (hk0 : 0 ≤ k) (hk6 : k ≤ 6) (hn1 : 1 ≤ n) (hn8 : n ≤ 8) (hn : xs.length ≤ 60) (hx : PgOK n xs) : Does Try.prog 27 [.int k, .int n, .sl (.ints xs)] (.imm (.sl (.ints (outS k n xs xs.length 0)))) := by
  have hpn := pow_le8 hn8
  have hol := outS_len k n xs xs.length 0
  have hal := gAll_len k n xs
  refine spec_imm Try.func27 rfl Try.ntmps27 cfOK (fun _ _ => by kernel_rfl) rfl (Nat.le_of_ble_eq_true rfl) ?_
  intro M0 w0
  rw [Try.results27]
  (repeat (first | refine g1 ?_ | refine g2 ?_ | ((first | refine g3 ?_ | refine g4 ?_ | refine g5 ?_); try simp only [xq, simprocAttr]) | ((first | refine g6 ?_ | refine g7 ?_); simp only [xr, simprocAttr]; repeat (guard_target =~ _ ∧ _; refine ⟨by first | trivial | (unfold I64; omega) | omega | (simp <;> omega) | (intros; omega), ?_⟩))))
  ((try refine Or.inl ?_); refine ⟨_, (l5Gains_d k n xs hk0 hk6 hn1 hn8 hn hx), .inr (by and_intros <;> first | rfl | (simp; done)), ?_⟩; (try simp only [xr, simprocAttr]); repeat (guard_target =~ _ ∧ _; refine ⟨by first | trivial | (unfold I64; omega) | omega | (simp <;> omega) | (intros; omega), ?_⟩))
  (repeat (first | refine g1 ?_ | refine g2 ?_ | ((first | refine g3 ?_ | refine g4 ?_ | refine g5 ?_); try simp only [xq, simprocAttr]) | ((first | refine g6 ?_ | refine g7 ?_); simp only [xr, simprocAttr]; repeat (guard_target =~ _ ∧ _; refine ⟨by first | trivial | (unfold I64; omega) | omega | (simp <;> omega) | (intros; omega), ?_⟩))))
  refine awp_rounds (α := Nat × Nat × List Int) (fun x => [(10, true, .int x.1), (9, true, .int x.2.1)]) [0, 1, 2, 7, 8] (fun x => [.row 3 (.ints x.2.2)]) (fun x => x.1 ≤ xs.length ∧ x.2.1 < 2 ^ n ∧ x.2.2 ++ outS k n xs (xs.length - x.1) x.2.1 = outS k n xs xs.length 0) (fun x => xs.length - x.1) (0, 0, []) (by ((try simp only [xk]); (repeat (refine leK_cons ?_ ?_; first | (focus (first | rfl | (simp only [xr, simprocAttr]; done) | (simp only [xr, simprocAttr]; refine int_eq1 ?_; first | trivial | (unfold I64; omega) | omega | (simp <;> omega) | (intros; omega)))) | rotate_left)); (refine leK_nil ?_; exact (by rfl)); (all_goals (try (simp only [xr, simprocAttr]; try refine int_eq1 ?_))))) ⟨Nat.zero_le _, Nat.two_pow_pos _, rfl⟩ fun ⟨i, s, ms⟩ hx' => ?_
  obtain ⟨hi, hs, hms⟩ := hx'
  dsimp only at hi hs hms ⊢
  have hml : ms.length + (outS k n xs (xs.length - i) s).length = (outS k n xs xs.length 0).length := by rw [← hms, List.length_append]
  have hT : (gAll k n xs).getD i [] = gRow k n xs i (2 ^ n) := gAll_at hi
  have hTl : ((gAll k n xs).getD i []).length = 2 ^ n := by rw [hT, gRow_len]
  have hV : ((gAll k n xs).getD i []).getD s 0 = gS k n xs (xs.length - i) s := by rw [hT]; exact gRow_at hs
  simp only [xr, simprocAttr]
  (repeat (first | refine g1 ?_ | refine g2 ?_ | ((first | refine g3 ?_ | refine g4 ?_ | refine g5 ?_); try simp only [xq, simprocAttr]) | ((first | refine g6 ?_ | refine g7 ?_); simp only [xr, simprocAttr]; repeat (guard_target =~ _ ∧ _; refine ⟨by first | trivial | (unfold I64; omega) | omega | (simp <;> omega) | (intros; omega), ?_⟩))))
  rw [hV]
  refine awp_cond (by first | rfl | (simp only [xr, simprocAttr]; rfl)) (fun hc => ?_) (fun hc => ?_)
  · have hi' : i < xs.length := by
      rcases Nat.lt_or_ge i xs.length with h | h
      · exact h
      · rw [decide_eq_false (show ¬ ((i : Nat) : Int) < xs.length by omega)] at hc
        cases hc
    have hc2 : 0 < gS k n xs (xs.length - i) s := by
      rw [decide_eq_true (show ((i : Nat) : Int) < xs.length by omega)] at hc
      exact of_decide_eq_true hc
    have hpl := hx.low i hi'
    have hph := hx.high i hi'
    obtain ⟨p, hp⟩ : ∃ p : Nat, xs.getD i 0 = (p : Int) := ⟨(xs.getD i 0).toNat, by omega⟩
    have ho := outS_at (k := k) (n := n) (s := s) hi'
    rw [if_pos hc2, hp, Int.toNat_natCast] at ho
    have hbl : begS s p < 2 ^ n := begS_lt hs
    have hwl := mkT_lt (k := k) (xs := xs) (i := i) hbl (Nat.le_refl n)
    have hgb := mkT_bd (k := k) (xs := xs) (i := i) (m := begS s p) hk0 hk6 hn n hn8
    have hb1 := gS_bd hk0 hk6 hn hn8 (xs.length - (i + 1)) (mkT k xs i (begS s p) n).2
    have hE : ((i : Int) + 1).toNat = i + 1 := by omega
    have hT2 : (gAll k n xs).getD (i + 1) [] = gRow k n xs (i + 1) (2 ^ n) := gAll_at (by omega)
    have hT2l : ((gAll k n xs).getD ((i : Int) + 1).toNat []).length = 2 ^ n := by rw [hE, hT2, gRow_len]
    have hV2 : ((gAll k n xs).getD ((i : Int) + 1).toNat []).getD (mkT k xs i (begS s p) n).2 0 = gS k n xs (xs.length - (i + 1)) (mkT k xs i (begS s p) n).2 := by rw [hE, hT2]; exact gRow_at hwl
    have hb2 := hb1
    rw [← hV2] at hb2
    have hlen : ms.length ≤ 60 := by omega
    (repeat (first | refine g1 ?_ | refine g2 ?_ | ((first | refine g3 ?_ | refine g4 ?_ | refine g5 ?_); try simp only [xq, simprocAttr]) | ((first | refine g6 ?_ | refine g7 ?_); simp only [xr, simprocAttr]; repeat (guard_target =~ _ ∧ _; refine ⟨by first | trivial | (unfold I64; omega) | omega | (simp <;> omega) | (intros; omega), ?_⟩))))
    rw [hp]
    ((try refine Or.inl ?_); refine ⟨_, (l5Begin_d s p (by omega) (by omega)), .inl rfl, ?_⟩; (try simp only [xr, simprocAttr]); repeat (guard_target =~ _ ∧ _; refine ⟨by first | trivial | (unfold I64; omega) | omega | (simp <;> omega) | (intros; omega), ?_⟩))
    (repeat (first | refine g1 ?_ | refine g2 ?_ | ((first | refine g3 ?_ | refine g4 ?_ | refine g5 ?_); try simp only [xq, simprocAttr]) | ((first | refine g6 ?_ | refine g7 ?_); simp only [xr, simprocAttr]; repeat (guard_target =~ _ ∧ _; refine ⟨by first | trivial | (unfold I64; omega) | omega | (simp <;> omega) | (intros; omega), ?_⟩))))
    ((try refine Or.inl ?_); refine ⟨_, (l5Mark_d k n xs i (begS s p) hk0 hk6 hn8 hn hi' hbl), .inl rfl, ?_⟩; (try simp only [xr, simprocAttr]); repeat (guard_target =~ _ ∧ _; refine ⟨by first | trivial | (unfold I64; omega) | omega | (simp <;> omega) | (intros; omega), ?_⟩))
    (repeat (first | refine g1 ?_ | refine g2 ?_ | ((first | refine g3 ?_ | refine g4 ?_ | refine g5 ?_); try simp only [xq, simprocAttr]) | ((first | refine g6 ?_ | refine g7 ?_); simp only [xr, simprocAttr]; repeat (guard_target =~ _ ∧ _; refine ⟨by first | trivial | (unfold I64; omega) | omega | (simp <;> omega) | (intros; omega), ?_⟩))))
    rw [hV, hV2]
    refine awp_cond (by first | rfl | (simp only [xr, simprocAttr]; rfl)) (fun hd => ?_) (fun hd => ?_)
    · have hd := of_decide_eq_true hd
      rw [if_pos hd] at ho
      (repeat (first | refine g1 ?_ | refine g2 ?_ | ((first | refine g3 ?_ | refine g4 ?_ | refine g5 ?_); try simp only [xq, simprocAttr]) | ((first | refine g6 ?_ | refine g7 ?_); simp only [xr, simprocAttr]; repeat (guard_target =~ _ ∧ _; refine ⟨by first | trivial | (unfold I64; omega) | omega | (simp <;> omega) | (intros; omega), ?_⟩))))
      refine ⟨(i + 1, (mkT k xs i (begS s p) n).2, ms ++ [(i : Int)]), (by show i + 1 ≤ xs.length; omega), hwl, (by show (ms ++ [(i : Int)]) ++ outS k n xs (xs.length - (i + 1)) (mkT k xs i (begS s p) n).2 = _; rw [← hms, ho, List.append_assoc]; rfl), (by show xs.length - (i + 1) < xs.length - i; omega), .inl ?_⟩
      ((try simp only [xk]); (repeat (refine leK_cons ?_ ?_; first | (focus (first | rfl | (simp only [xr, simprocAttr]; done) | (simp only [xr, simprocAttr]; refine int_eq1 ?_; first | trivial | (unfold I64; omega) | omega | (simp <;> omega) | (intros; omega)))) | rotate_left)); (refine leK_nil ?_; exact (by rfl)); (all_goals (try (simp only [xr, simprocAttr]; try refine int_eq1 ?_))))
    · have hd := of_decide_eq_false hd
      rw [if_neg hd] at ho
      (repeat (first | refine g1 ?_ | refine g2 ?_ | ((first | refine g3 ?_ | refine g4 ?_ | refine g5 ?_); try simp only [xq, simprocAttr]) | ((first | refine g6 ?_ | refine g7 ?_); simp only [xr, simprocAttr]; repeat (guard_target =~ _ ∧ _; refine ⟨by first | trivial | (unfold I64; omega) | omega | (simp <;> omega) | (intros; omega), ?_⟩))))
      refine ⟨(i + 1, begS s p, ms), (by show i + 1 ≤ xs.length; omega), hbl, (by show ms ++ outS k n xs (xs.length - (i + 1)) (begS s p) = _; rw [← hms, ho]), (by show xs.length - (i + 1) < xs.length - i; omega), .inl ?_⟩
      ((try simp only [xk]); (repeat (refine leK_cons ?_ ?_; first | (focus (first | rfl | (simp only [xr, simprocAttr]; done) | (simp only [xr, simprocAttr]; refine int_eq1 ?_; first | trivial | (unfold I64; omega) | omega | (simp <;> omega) | (intros; omega)))) | rotate_left)); (refine leK_nil ?_; exact (by rfl)); (all_goals (try (simp only [xr, simprocAttr]; try refine int_eq1 ?_))))
  · have hend : outS k n xs (xs.length - i) s = [] := by
      rcases Nat.lt_or_ge i xs.length with h | h
      · rw [decide_eq_true (show ((i : Nat) : Int) < xs.length by omega)] at hc
        have hc : ¬ 0 < gS k n xs (xs.length - i) s := of_decide_eq_false hc
        rw [outS_at h, if_neg hc]
      · rw [show xs.length - i = 0 by omega]
        rfl
    rw [hend, List.append_nil] at hms
    subst hms
    (repeat (first | refine g1 ?_ | refine g2 ?_ | ((first | refine g3 ?_ | refine g4 ?_); try simp only [xq, simprocAttr]) | ((first | refine g6 ?_ | refine g7 ?_); simp only [xr, simprocAttr]; repeat (guard_target =~ _ ∧ _; refine ⟨by first | trivial | (unfold I64; omega) | omega | (simp <;> omega) | (intros; omega), ?_⟩))))
    (refine awp_frz 0 rfl ?_; simp only [xz, simprocAttr])
    (repeat (first | refine g1 ?_ | refine g2 ?_ | ((first | refine g3 ?_ | refine g4 ?_ | refine g5 ?_); try simp only [xq, simprocAttr]) | ((first | refine g6 ?_ | refine g7 ?_); simp only [xr, simprocAttr]; repeat (guard_target =~ _ ∧ _; refine ⟨by first | trivial | (unfold I64; omega) | omega | (simp <;> omega) | (intros; omega), ?_⟩))))
    (simp only [xe, simprocAttr]; refine ⟨_, rfl, rfl, Imp.eq ?_⟩)
    rfl
theorem pg_pgs {k n : Int} {xs : List Int} (h : pgB k n xs = true) : ∃ N : Nat, n = (N : Int) ∧ 1 ≤ N ∧ N ≤ 8 ∧ PgOK N xs := by
  obtain ⟨hs1, hs2, hn1, hn2, hl, hall⟩ := pg_ok h
  refine ⟨n.toNat, by omega, by omega, by omega, fun i hi => ?_, fun i hi => ?_⟩
  · have := hall _ (by rw [getD_inL hi]; exact List.getElem_mem hi : xs.getD i 0 ∈ xs)
    omega
  · have := hall _ (by rw [getD_inL hi]; exact List.getElem_mem hi : xs.getD i 0 ∈ xs)
    omega
theorem fm_len {k n : Int} {xs : List Int} (hb : pgB k n xs = true) : (outF k xs xs.length 0).length ≤ 60 := by
  have h1 := outF_len k xs xs.length 0
  have h2 := (pg_ok hb).len
  omega
theorem spec_FindMarks_d (k n : Int) (xs : List Int) : Does Try.prog 7 [.int k, .int n, .sl (.ints xs)] (.imm (.tup [.one (.b (.sl (.ints (if pgB k n xs = true then outF k xs xs.length 0 else [])))), .one (.b (.val (.bool (pgB k n xs))))])) := by
  cases hb : pgB k n xs
  · rw [if_neg (by decide)]
    refine spec_imm Try.func7 rfl Try.ntmps7 cfOK (fun _ _ => by kernel_rfl) rfl (Nat.le_of_ble_eq_true rfl) ?_
    intro M0 w0
    rw [Try.results7]
    (repeat (first | refine g1 ?_ | refine g2 ?_ | ((first | refine g3 ?_ | refine g4 ?_ | refine g5 ?_); try simp only [xq, simprocAttr]) | ((first | refine g6 ?_ | refine g7 ?_); simp only [xr, simprocAttr]; repeat (guard_target =~ _ ∧ _; refine ⟨by first | trivial | (unfold I64; omega) | omega | (simp <;> omega) | (intros; omega), ?_⟩))))
    ((try refine Or.inl ?_); refine ⟨_, (l5Takes_d k n xs), .inl rfl, ?_⟩; (try simp only [xr, simprocAttr]); repeat (guard_target =~ _ ∧ _; refine ⟨by first | trivial | (unfold I64; omega) | omega | (simp <;> omega) | (intros; omega), ?_⟩))
    rw [hb]
    (repeat (first | refine g1 ?_ | refine g2 ?_ | ((first | refine g3 ?_ | refine g4 ?_ | refine g5 ?_); try simp only [xq, simprocAttr]) | ((first | refine g6 ?_ | refine g7 ?_); simp only [xr, simprocAttr]; repeat (guard_target =~ _ ∧ _; refine ⟨by first | trivial | (unfold I64; omega) | omega | (simp <;> omega) | (intros; omega), ?_⟩))))
    refine awp_cond (by first | rfl | (simp only [xr, simprocAttr]; rfl)) (fun hr => ?_) (fun hr => ?_)
    · (repeat (first | refine g1 ?_ | refine g2 ?_ | ((first | refine g3 ?_ | refine g4 ?_); try simp only [xq, simprocAttr]) | ((first | refine g6 ?_ | refine g7 ?_); simp only [xr, simprocAttr]; repeat (guard_target =~ _ ∧ _; refine ⟨by first | trivial | (unfold I64; omega) | omega | (simp <;> omega) | (intros; omega), ?_⟩))))
      (refine awp_frz 0 rfl ?_; simp only [xz, simprocAttr])
      (repeat (first | refine g1 ?_ | refine g2 ?_ | ((first | refine g3 ?_ | refine g4 ?_ | refine g5 ?_); try simp only [xq, simprocAttr]) | ((first | refine g6 ?_ | refine g7 ?_); simp only [xr, simprocAttr]; repeat (guard_target =~ _ ∧ _; refine ⟨by first | trivial | (unfold I64; omega) | omega | (simp <;> omega) | (intros; omega), ?_⟩))))
      (simp only [xe, simprocAttr]; refine ⟨[_, _], ⟨rfl, rfl, trivial⟩, rfl, Imp.eq ?_⟩)
      rfl
    · cases hr
  · rw [if_pos rfl]
    obtain ⟨N, rfl, h1, h8, hx⟩ := pg_pgs hb
    obtain ⟨hs1, hs2, hn1, hn2, hl, _⟩ := pg_ok hb
    have hf := l5Find_d k N xs (by omega) hs2 h1 h8 hl hx
    rw [marks_eq hx] at hf
    refine spec_imm Try.func7 rfl Try.ntmps7 cfOK (fun _ _ => by kernel_rfl) rfl (Nat.le_of_ble_eq_true rfl) ?_
    intro M0 w0
    rw [Try.results7]
    (repeat (first | refine g1 ?_ | refine g2 ?_ | ((first | refine g3 ?_ | refine g4 ?_ | refine g5 ?_); try simp only [xq, simprocAttr]) | ((first | refine g6 ?_ | refine g7 ?_); simp only [xr, simprocAttr]; repeat (guard_target =~ _ ∧ _; refine ⟨by first | trivial | (unfold I64; omega) | omega | (simp <;> omega) | (intros; omega), ?_⟩))))
    ((try refine Or.inl ?_); refine ⟨_, (l5Takes_d k N xs), .inl rfl, ?_⟩; (try simp only [xr, simprocAttr]); repeat (guard_target =~ _ ∧ _; refine ⟨by first | trivial | (unfold I64; omega) | omega | (simp <;> omega) | (intros; omega), ?_⟩))
    rw [hb]
    (repeat (first | refine g1 ?_ | refine g2 ?_ | ((first | refine g3 ?_ | refine g4 ?_ | refine g5 ?_); try simp only [xq, simprocAttr]) | ((first | refine g6 ?_ | refine g7 ?_); simp only [xr, simprocAttr]; repeat (guard_target =~ _ ∧ _; refine ⟨by first | trivial | (unfold I64; omega) | omega | (simp <;> omega) | (intros; omega), ?_⟩))))
    refine awp_cond (by first | rfl | (simp only [xr, simprocAttr]; rfl)) (fun hr => ?_) (fun hr => ?_)
    · cases hr
    · (repeat (first | refine g1 ?_ | refine g2 ?_ | ((first | refine g3 ?_ | refine g4 ?_ | refine g5 ?_); try simp only [xq, simprocAttr]) | ((first | refine g6 ?_ | refine g7 ?_); simp only [xr, simprocAttr]; repeat (guard_target =~ _ ∧ _; refine ⟨by first | trivial | (unfold I64; omega) | omega | (simp <;> omega) | (intros; omega), ?_⟩))))
      ((try refine Or.inl ?_); refine ⟨_, (hf), .inr (by and_intros <;> first | rfl | (simp; done)), ?_⟩; (try simp only [xr, simprocAttr]); repeat (guard_target =~ _ ∧ _; refine ⟨by first | trivial | (unfold I64; omega) | omega | (simp <;> omega) | (intros; omega), ?_⟩))
      (repeat (first | refine g1 ?_ | refine g2 ?_ | ((first | refine g3 ?_ | refine g4 ?_ | refine g5 ?_); try simp only [xq, simprocAttr]) | ((first | refine g6 ?_ | refine g7 ?_); simp only [xr, simprocAttr]; repeat (guard_target =~ _ ∧ _; refine ⟨by first | trivial | (unfold I64; omega) | omega | (simp <;> omega) | (intros; omega), ?_⟩))))
      (simp only [xe, simprocAttr]; refine ⟨[_, _], ⟨rfl, rfl, trivial⟩, rfl, Imp.eq ?_⟩)
      rfl
theorem impl_FindMarks_0 (k n : Int) (xs : List Int) (hb : pgB k n xs = false) : Does Try.prog 9 [.int k, .int n, .sl (.ints xs)] (.imm (.tup [.one (.b (.val (.slice none 0 0))), .one (.b (.val (.bool false)))])) := by
  refine spec_imm Try.func9 rfl Try.ntmps9 cfOK (fun _ _ => by kernel_rfl) rfl (Nat.le_of_ble_eq_true rfl) ?_
  intro M0 w0
  rw [Try.results9]
  (repeat (first | refine g1 ?_ | refine g2 ?_ | ((first | refine g3 ?_ | refine g4 ?_ | refine g5 ?_); try simp only [xq, simprocAttr]) | ((first | refine g6 ?_ | refine g7 ?_); simp only [xr, simprocAttr]; repeat (guard_target =~ _ ∧ _; refine ⟨by first | trivial | (unfold I64; omega) | omega | (simp <;> omega) | (intros; omega), ?_⟩))))
  ((try refine Or.inl ?_); refine ⟨_, (isPaging_d k n xs), .inl rfl, ?_⟩; (try simp only [xr, simprocAttr]); repeat (guard_target =~ _ ∧ _; refine ⟨by first | trivial | (unfold I64; omega) | omega | (simp <;> omega) | (intros; omega), ?_⟩))
  rw [hb]
  (repeat (first | refine g1 ?_ | refine g2 ?_ | ((first | refine g3 ?_ | refine g4 ?_ | refine g5 ?_); try simp only [xq, simprocAttr]) | ((first | refine g6 ?_ | refine g7 ?_); simp only [xr, simprocAttr]; repeat (guard_target =~ _ ∧ _; refine ⟨by first | trivial | (unfold I64; omega) | omega | (simp <;> omega) | (intros; omega), ?_⟩))))
  refine awp_cond (by first | rfl | (simp only [xr, simprocAttr]; rfl)) (fun hr => ?_) (fun hr => ?_)
  · (repeat (first | refine g1 ?_ | refine g2 ?_ | ((first | refine g3 ?_ | refine g4 ?_ | refine g5 ?_); try simp only [xq, simprocAttr]) | ((first | refine g6 ?_ | refine g7 ?_); simp only [xr, simprocAttr]; repeat (guard_target =~ _ ∧ _; refine ⟨by first | trivial | (unfold I64; omega) | omega | (simp <;> omega) | (intros; omega), ?_⟩))))
    (simp only [xe, simprocAttr]; refine ⟨[_, _], ⟨rfl, rfl, trivial⟩, rfl, Imp.eq ?_⟩)
    rfl
  · cases hr
end Go.Proofs.Ytobhlnaogbadjaa
