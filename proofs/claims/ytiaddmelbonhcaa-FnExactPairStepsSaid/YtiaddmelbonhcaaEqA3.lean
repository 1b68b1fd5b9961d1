/- The laws' likeness of slices of slices of three numbers each, on the machine. Conditions: arrays of so many ints. -/
import Derived.Test.YtiaddmelbonhcaaEqK
import Derived.Test.YtiaddmelbonhcaaMarkSz
set_option linter.all false
set_option linter.unusedSimpArgs false
set_option linter.unusedVariables false
namespace Go.Proofs.Ytiaddmelbonhcaa
open Go Go.RowKit Am

theorem eqA3_d (a0 a1 a2 b0 b1 b2 : Int) : Does Try.prog 102 [.tv (.agg [.b (.val (.int .i64 a0)), .b (.val (.int .i64 a1)), .b (.val (.int .i64 a2))]), .tv (.agg [.b (.val (.int .i64 b0)), .b (.val (.int .i64 b1)), .b (.val (.int .i64 b2))])] (.imm (.bool (decide ([a0, a1, a2] = [b0, b1, b2])))) := by
  refine spec_imm Try.func102 rfl Try.ntmps102 cfOK (fun _ _ => by kernel_rfl) rfl (Nat.le_of_ble_eq_true rfl) ?_
  intro M0 w0
  rw [Try.results102]
  (repeat (first | refine g1 ?_ | refine g2 ?_ | ((first | refine g3 ?_ | refine g4 ?_ | refine g5 ?_); try simp only [xq, simprocAttr]) | ((first | refine g6 ?_ | refine g7 ?_); simp only [xr, simprocAttr]; repeat (guard_target =~ _ ∧ _; refine ⟨by first | trivial | (unfold I64; omega) | omega | (simp <;> omega) | (intros; omega), ?_⟩))))
  refine awp_rounds (α := Nat) (fun k => [(5, true, .int k)]) [2, 3] (fun _ => [.box [.b (.val (.int .i64 a0)), .b (.val (.int .i64 a1)), .b (.val (.int .i64 a2))], .box [.b (.val (.int .i64 b0)), .b (.val (.int .i64 b1)), .b (.val (.int .i64 b2))]]) (fun k => k ≤ 3 ∧ (0 < k → a0 = b0) ∧ (1 < k → a1 = b1) ∧ (2 < k → a2 = b2)) (fun k => 3 - k) 0 (by ((try simp only [xk]); (repeat (refine leK_cons ?_ ?_; first | (focus (first | rfl | (simp only [xr, simprocAttr]; done) | (simp only [xr, simprocAttr]; refine int_eq1 ?_; first | trivial | (unfold I64; omega) | omega | (simp <;> omega) | (intros; omega)))) | rotate_left)); (try exact leK_nil rfl); (all_goals (try (simp only [xr, simprocAttr]; try refine int_eq1 ?_))))) ⟨Nat.zero_le _, fun h => by omega, fun h => by omega, fun h => by omega⟩ fun k hk => ?_
  obtain ⟨hk, h0, h1, h2⟩ := hk
  rcases (by omega : k = 0 ∨ k = 1 ∨ k = 2 ∨ k = 3) with rfl | rfl | rfl | rfl
  · (simp only [xr, simprocAttr, lits]; repeat (guard_target =~ _ ∧ _; refine ⟨by first | trivial | (unfold I64; omega) | omega | (simp <;> omega) | (intros; omega), ?_⟩))
    (repeat (first | refine g1 ?_ | refine g2 ?_ | ((first | refine g3 ?_ | refine g4 ?_ | refine g5 ?_); try simp only [xq, simprocAttr]) | ((first | refine g6 ?_ | refine g7 ?_); simp only [xr, simprocAttr]; repeat (guard_target =~ _ ∧ _; refine ⟨by first | trivial | (unfold I64; omega) | omega | (simp <;> omega) | (intros; omega), ?_⟩))))
    refine awp_cond (by first | rfl | (simp only [xr, simprocAttr]; rfl)) (fun hc => ?_) (fun hc => ?_)
    · clear hc
      (repeat (first | refine g1 ?_ | refine g2 ?_ | ((first | refine g3 ?_ | refine g4 ?_ | refine g5 ?_); try simp only [xq, simprocAttr]) | ((first | refine g6 ?_ | refine g7 ?_); simp only [xr, simprocAttr]; repeat (guard_target =~ _ ∧ _; refine ⟨by first | trivial | (unfold I64; omega) | omega | (simp <;> omega) | (intros; omega), ?_⟩))))
      refine awp_cond (by first | rfl | (simp only [xr, simprocAttr]; rfl)) (fun hd => ?_) (fun hd => ?_)
      · have hd : a0 ≠ b0 := by simpa using hd
        (repeat (first | refine g1 ?_ | refine g2 ?_ | ((first | refine g3 ?_ | refine g4 ?_ | refine g5 ?_); try simp only [xq, simprocAttr]) | ((first | refine g6 ?_ | refine g7 ?_); simp only [xr, simprocAttr]; repeat (guard_target =~ _ ∧ _; refine ⟨by first | trivial | (unfold I64; omega) | omega | (simp <;> omega) | (intros; omega), ?_⟩))))
        (simp only [xe, simprocAttr]; refine ⟨_, rfl, rfl, Imp.eq ?_⟩)
        rw [decide_eq_false (by simp only [List.cons.injEq]; intro h; exact hd h.1)]
      · have hd : a0 = b0 := by simpa using hd
        (repeat (first | refine g1 ?_ | refine g2 ?_ | ((first | refine g3 ?_ | refine g4 ?_ | refine g5 ?_); try simp only [xq, simprocAttr]) | ((first | refine g6 ?_ | refine g7 ?_); simp only [xr, simprocAttr]; repeat (guard_target =~ _ ∧ _; refine ⟨by first | trivial | (unfold I64; omega) | omega | (simp <;> omega) | (intros; omega), ?_⟩))))
        refine ⟨1, by omega, fun _ => hd, fun h => by omega, fun h => by omega, by omega, .inl ?_⟩
        ((try simp only [xk]); (repeat (refine leK_cons ?_ ?_; first | (focus (first | rfl | (simp only [xr, simprocAttr]; done) | (simp only [xr, simprocAttr]; refine int_eq1 ?_; first | trivial | (unfold I64; omega) | omega | (simp <;> omega) | (intros; omega)))) | rotate_left)); (try exact leK_nil rfl); (all_goals (try (simp only [xr, simprocAttr]; try refine int_eq1 ?_))))
    · simp at hc
  · (simp only [xr, simprocAttr, lits]; repeat (guard_target =~ _ ∧ _; refine ⟨by first | trivial | (unfold I64; omega) | omega | (simp <;> omega) | (intros; omega), ?_⟩))
    (repeat (first | refine g1 ?_ | refine g2 ?_ | ((first | refine g3 ?_ | refine g4 ?_ | refine g5 ?_); try simp only [xq, simprocAttr]) | ((first | refine g6 ?_ | refine g7 ?_); simp only [xr, simprocAttr]; repeat (guard_target =~ _ ∧ _; refine ⟨by first | trivial | (unfold I64; omega) | omega | (simp <;> omega) | (intros; omega), ?_⟩))))
    refine awp_cond (by first | rfl | (simp only [xr, simprocAttr]; rfl)) (fun hc => ?_) (fun hc => ?_)
    · clear hc
      (repeat (first | refine g1 ?_ | refine g2 ?_ | ((first | refine g3 ?_ | refine g4 ?_ | refine g5 ?_); try simp only [xq, simprocAttr]) | ((first | refine g6 ?_ | refine g7 ?_); simp only [xr, simprocAttr]; repeat (guard_target =~ _ ∧ _; refine ⟨by first | trivial | (unfold I64; omega) | omega | (simp <;> omega) | (intros; omega), ?_⟩))))
      refine awp_cond (by first | rfl | (simp only [xr, simprocAttr]; rfl)) (fun hd => ?_) (fun hd => ?_)
      · have hd : a1 ≠ b1 := by simpa using hd
        (repeat (first | refine g1 ?_ | refine g2 ?_ | ((first | refine g3 ?_ | refine g4 ?_ | refine g5 ?_); try simp only [xq, simprocAttr]) | ((first | refine g6 ?_ | refine g7 ?_); simp only [xr, simprocAttr]; repeat (guard_target =~ _ ∧ _; refine ⟨by first | trivial | (unfold I64; omega) | omega | (simp <;> omega) | (intros; omega), ?_⟩))))
        (simp only [xe, simprocAttr]; refine ⟨_, rfl, rfl, Imp.eq ?_⟩)
        rw [decide_eq_false (by simp only [List.cons.injEq]; intro h; exact hd h.2.1)]
      · have hd : a1 = b1 := by simpa using hd
        (repeat (first | refine g1 ?_ | refine g2 ?_ | ((first | refine g3 ?_ | refine g4 ?_ | refine g5 ?_); try simp only [xq, simprocAttr]) | ((first | refine g6 ?_ | refine g7 ?_); simp only [xr, simprocAttr]; repeat (guard_target =~ _ ∧ _; refine ⟨by first | trivial | (unfold I64; omega) | omega | (simp <;> omega) | (intros; omega), ?_⟩))))
        refine ⟨2, by omega, fun _ => h0 (by omega), fun _ => hd, fun h => by omega, by omega, .inl ?_⟩
        ((try simp only [xk]); (repeat (refine leK_cons ?_ ?_; first | (focus (first | rfl | (simp only [xr, simprocAttr]; done) | (simp only [xr, simprocAttr]; refine int_eq1 ?_; first | trivial | (unfold I64; omega) | omega | (simp <;> omega) | (intros; omega)))) | rotate_left)); (try exact leK_nil rfl); (all_goals (try (simp only [xr, simprocAttr]; try refine int_eq1 ?_))))
    · simp at hc
  · (simp only [xr, simprocAttr, lits]; repeat (guard_target =~ _ ∧ _; refine ⟨by first | trivial | (unfold I64; omega) | omega | (simp <;> omega) | (intros; omega), ?_⟩))
    (repeat (first | refine g1 ?_ | refine g2 ?_ | ((first | refine g3 ?_ | refine g4 ?_ | refine g5 ?_); try simp only [xq, simprocAttr]) | ((first | refine g6 ?_ | refine g7 ?_); simp only [xr, simprocAttr]; repeat (guard_target =~ _ ∧ _; refine ⟨by first | trivial | (unfold I64; omega) | omega | (simp <;> omega) | (intros; omega), ?_⟩))))
    refine awp_cond (by first | rfl | (simp only [xr, simprocAttr]; rfl)) (fun hc => ?_) (fun hc => ?_)
    · clear hc
      (repeat (first | refine g1 ?_ | refine g2 ?_ | ((first | refine g3 ?_ | refine g4 ?_ | refine g5 ?_); try simp only [xq, simprocAttr]) | ((first | refine g6 ?_ | refine g7 ?_); simp only [xr, simprocAttr]; repeat (guard_target =~ _ ∧ _; refine ⟨by first | trivial | (unfold I64; omega) | omega | (simp <;> omega) | (intros; omega), ?_⟩))))
      refine awp_cond (by first | rfl | (simp only [xr, simprocAttr]; rfl)) (fun hd => ?_) (fun hd => ?_)
      · have hd : a2 ≠ b2 := by simpa using hd
        (repeat (first | refine g1 ?_ | refine g2 ?_ | ((first | refine g3 ?_ | refine g4 ?_ | refine g5 ?_); try simp only [xq, simprocAttr]) | ((first | refine g6 ?_ | refine g7 ?_); simp only [xr, simprocAttr]; repeat (guard_target =~ _ ∧ _; refine ⟨by first | trivial | (unfold I64; omega) | omega | (simp <;> omega) | (intros; omega), ?_⟩))))
        (simp only [xe, simprocAttr]; refine ⟨_, rfl, rfl, Imp.eq ?_⟩)
        rw [decide_eq_false (by simp only [List.cons.injEq]; intro h; exact hd h.2.2.1)]
      · have hd : a2 = b2 := by simpa using hd
        (repeat (first | refine g1 ?_ | refine g2 ?_ | ((first | refine g3 ?_ | refine g4 ?_ | refine g5 ?_); try simp only [xq, simprocAttr]) | ((first | refine g6 ?_ | refine g7 ?_); simp only [xr, simprocAttr]; repeat (guard_target =~ _ ∧ _; refine ⟨by first | trivial | (unfold I64; omega) | omega | (simp <;> omega) | (intros; omega), ?_⟩))))
        refine ⟨3, by omega, fun _ => h0 (by omega), fun _ => h1 (by omega), fun _ => hd, by omega, .inl ?_⟩
        ((try simp only [xk]); (repeat (refine leK_cons ?_ ?_; first | (focus (first | rfl | (simp only [xr, simprocAttr]; done) | (simp only [xr, simprocAttr]; refine int_eq1 ?_; first | trivial | (unfold I64; omega) | omega | (simp <;> omega) | (intros; omega)))) | rotate_left)); (try exact leK_nil rfl); (all_goals (try (simp only [xr, simprocAttr]; try refine int_eq1 ?_))))
    · simp at hc
  · (simp only [xr, simprocAttr, lits]; repeat (guard_target =~ _ ∧ _; refine ⟨by first | trivial | (unfold I64; omega) | omega | (simp <;> omega) | (intros; omega), ?_⟩))
    (repeat (first | refine g1 ?_ | refine g2 ?_ | ((first | refine g3 ?_ | refine g4 ?_ | refine g5 ?_); try simp only [xq, simprocAttr]) | ((first | refine g6 ?_ | refine g7 ?_); simp only [xr, simprocAttr]; repeat (guard_target =~ _ ∧ _; refine ⟨by first | trivial | (unfold I64; omega) | omega | (simp <;> omega) | (intros; omega), ?_⟩))))
    refine awp_cond (by first | rfl | (simp only [xr, simprocAttr]; rfl)) (fun hc => ?_) (fun hc => ?_)
    · simp at hc
    · (repeat (first | refine g1 ?_ | refine g2 ?_ | ((first | refine g3 ?_ | refine g4 ?_ | refine g5 ?_); try simp only [xq, simprocAttr]) | ((first | refine g6 ?_ | refine g7 ?_); simp only [xr, simprocAttr]; repeat (guard_target =~ _ ∧ _; refine ⟨by first | trivial | (unfold I64; omega) | omega | (simp <;> omega) | (intros; omega), ?_⟩))))
      (simp only [xe, simprocAttr]; refine ⟨_, rfl, rfl, Imp.eq ?_⟩)
      rw [decide_eq_true (by rw [h0 (by omega), h1 (by omega), h2 (by omega)])]
theorem eqA3S_d (xs ys : List (List Int)) (hx : ∀ x ∈ xs, x.length = 3) (hy : ∀ y ∈ ys, y.length = 3) : Does Try.prog 51 [.sl (.k 3 xs), .sl (.k 3 ys)] (.imm (.bool (decide (xs = ys)))) := by
  refine spec_imm Try.func51 rfl Try.ntmps51 cfOK (fun _ _ => by kernel_rfl) rfl (Nat.le_of_ble_eq_true rfl) ?_
  intro M0 w0
  rw [Try.results51]
  (refine awp_fits 0 rfl fun hf => ?_; simp only [xp, simprocAttr] at hf; simp only [xf, simprocAttr] at hf)
  (repeat (first | refine g1 ?_ | refine g2 ?_ | ((first | refine g3 ?_ | refine g4 ?_ | refine g5 ?_); try simp only [xq, simprocAttr]) | ((first | refine g6 ?_ | refine g7 ?_); simp only [xr, simprocAttr]; repeat (guard_target =~ _ ∧ _; refine ⟨by first | trivial | (unfold I64; omega) | omega | (simp <;> omega) | (intros; omega), ?_⟩))))
  refine awp_cond (by first | rfl | (simp only [xr, simprocAttr]; rfl)) (fun hc => ?_) (fun hc => ?_)
  · have hn : xs ≠ ys := fun e => by simp [e] at hc
    (repeat (first | refine g1 ?_ | refine g2 ?_ | ((first | refine g3 ?_ | refine g4 ?_ | refine g5 ?_); try simp only [xq, simprocAttr]) | ((first | refine g6 ?_ | refine g7 ?_); simp only [xr, simprocAttr]; repeat (guard_target =~ _ ∧ _; refine ⟨by first | trivial | (unfold I64; omega) | omega | (simp <;> omega) | (intros; omega), ?_⟩))))
    (simp only [xe, simprocAttr]; refine ⟨_, rfl, rfl, Imp.eq ?_⟩)
    rw [decide_eq_false hn]
  have hl : xs.length = ys.length := by simp at hc; omega
  (repeat (first | refine g1 ?_ | refine g2 ?_ | ((first | refine g3 ?_ | refine g4 ?_ | refine g5 ?_); try simp only [xq, simprocAttr]) | ((first | refine g6 ?_ | refine g7 ?_); simp only [xr, simprocAttr]; repeat (guard_target =~ _ ∧ _; refine ⟨by first | trivial | (unfold I64; omega) | omega | (simp <;> omega) | (intros; omega), ?_⟩))))
  refine awp_rounds (α := Nat) (fun k => [(5, true, .int k)]) [0, 1] (fun _ => []) (fun k => k ≤ xs.length ∧ xs.take k = ys.take k) (fun k => xs.length - k) 0 (by ((try simp only [xk]); (repeat (refine leK_cons ?_ ?_; first | (focus (first | rfl | (simp only [xr, simprocAttr]; done) | (simp only [xr, simprocAttr]; refine int_eq1 ?_; first | trivial | (unfold I64; omega) | omega | (simp <;> omega) | (intros; omega)))) | rotate_left)); (try exact leK_nil rfl); (all_goals (try (simp only [xr, simprocAttr]; try refine int_eq1 ?_))))) ⟨Nat.zero_le _, rfl⟩ fun k hk => ?_
  obtain ⟨hk, hp⟩ := hk
  simp only [xr, simprocAttr]
  (repeat (first | refine g1 ?_ | refine g2 ?_ | ((first | refine g3 ?_ | refine g4 ?_ | refine g5 ?_); try simp only [xq, simprocAttr]) | ((first | refine g6 ?_ | refine g7 ?_); simp only [xr, simprocAttr]; repeat (guard_target =~ _ ∧ _; refine ⟨by first | trivial | (unfold I64; omega) | omega | (simp <;> omega) | (intros; omega), ?_⟩))))
  refine awp_cond (by first | rfl | (simp only [xr, simprocAttr]; rfl)) (fun hd => ?_) (fun hd => ?_)
  · have hk' : k < xs.length := by simpa using hd
    have hky : k < ys.length := by omega
    have h2 : decide ([(xs.getD k []).getD 0 0, (xs.getD k []).getD 1 0, (xs.getD k []).getD 2 0] = [(ys.getD k []).getD 0 0, (ys.getD k []).getD 1 0, (ys.getD k []).getD 2 0]) = decide (xs.getD k [] = ys.getD k []) := by
      have e1 := hx _ (List.getElem_mem hk')
      have e2 := hy _ (List.getElem_mem hky)
      rw [getD_in hk', getD_in hky]
      match h1 : xs[k], h2 : ys[k], e1, e2 with
      | [u0, u1, u2], [v0, v1, v2], _, _ => rfl
    (repeat (first | refine g1 ?_ | refine g2 ?_ | ((first | refine g3 ?_ | refine g4 ?_ | refine g5 ?_); try simp only [xq, simprocAttr]) | ((first | refine g6 ?_ | refine g7 ?_); simp only [xr, simprocAttr]; repeat (guard_target =~ _ ∧ _; refine ⟨by first | trivial | (unfold I64; omega) | omega | (simp <;> omega) | (intros; omega), ?_⟩))))
    ((try refine Or.inl ?_); refine ⟨_, (eqA3_d _ _ _ _ _ _), .inl rfl, ?_⟩; (try simp only [xr, simprocAttr]); repeat (guard_target =~ _ ∧ _; refine ⟨by first | trivial | (unfold I64; omega) | omega | (simp <;> omega) | (intros; omega), ?_⟩))
    rw [h2]
    (repeat (first | refine g1 ?_ | refine g2 ?_ | ((first | refine g3 ?_ | refine g4 ?_ | refine g5 ?_); try simp only [xq, simprocAttr]) | ((first | refine g6 ?_ | refine g7 ?_); simp only [xr, simprocAttr]; repeat (guard_target =~ _ ∧ _; refine ⟨by first | trivial | (unfold I64; omega) | omega | (simp <;> omega) | (intros; omega), ?_⟩))))
    refine awp_cond (by first | rfl | (simp only [xr, simprocAttr]; rfl)) (fun he => ?_) (fun he => ?_)
    · have hn : xs ≠ ys := fun e => by simp [e] at he
      (repeat (first | refine g1 ?_ | refine g2 ?_ | ((first | refine g3 ?_ | refine g4 ?_ | refine g5 ?_); try simp only [xq, simprocAttr]) | ((first | refine g6 ?_ | refine g7 ?_); simp only [xr, simprocAttr]; repeat (guard_target =~ _ ∧ _; refine ⟨by first | trivial | (unfold I64; omega) | omega | (simp <;> omega) | (intros; omega), ?_⟩))))
      (simp only [xe, simprocAttr]; refine ⟨_, rfl, rfl, Imp.eq ?_⟩)
      rw [decide_eq_false hn]
    · (repeat (first | refine g1 ?_ | refine g2 ?_ | ((first | refine g3 ?_ | refine g4 ?_ | refine g5 ?_); try simp only [xq, simprocAttr]) | ((first | refine g6 ?_ | refine g7 ?_); simp only [xr, simprocAttr]; repeat (guard_target =~ _ ∧ _; refine ⟨by first | trivial | (unfold I64; omega) | omega | (simp <;> omega) | (intros; omega), ?_⟩))))
      refine ⟨k + 1, by omega, ?_, by omega, .inl ?_⟩
      · have h2 : xs.getD k [] = ys.getD k [] := by simpa using he
        rw [List.take_succ_eq_append_getElem hk', List.take_succ_eq_append_getElem hky, hp, ← getD_in (d := []) hk', ← getD_in (d := []) hky, h2]
      · ((try simp only [xk]); (repeat (refine leK_cons ?_ ?_; first | (focus (first | rfl | (simp only [xr, simprocAttr]; done) | (simp only [xr, simprocAttr]; refine int_eq1 ?_; first | trivial | (unfold I64; omega) | omega | (simp <;> omega) | (intros; omega)))) | rotate_left)); (try exact leK_nil rfl); (all_goals (try (simp only [xr, simprocAttr]; try refine int_eq1 ?_))))
  · have hk' : k = xs.length := by simp at hd; omega
    subst hk'
    have he : xs = ys := by rw [List.take_length, hl, List.take_length] at hp; exact hp
    (repeat (first | refine g1 ?_ | refine g2 ?_ | ((first | refine g3 ?_ | refine g4 ?_ | refine g5 ?_); try simp only [xq, simprocAttr]) | ((first | refine g6 ?_ | refine g7 ?_); simp only [xr, simprocAttr]; repeat (guard_target =~ _ ∧ _; refine ⟨by first | trivial | (unfold I64; omega) | omega | (simp <;> omega) | (intros; omega), ?_⟩))))
    (simp only [xe, simprocAttr]; refine ⟨_, rfl, rfl, Imp.eq ?_⟩)
    rw [decide_eq_true he]
theorem eqA3SS_d (xs ys : List (List (List Int))) (hx : ∀ x ∈ xs, ∀ y ∈ x, y.length = 3) (hy : ∀ x ∈ ys, ∀ y ∈ x, y.length = 3) : Does Try.prog 17 [.sl (.ki 3 xs), .sl (.ki 3 ys)] (.imm (.bool (decide (xs = ys)))) := by
  refine spec_imm Try.func17 rfl Try.ntmps17 cfOK (fun _ _ => by kernel_rfl) rfl (Nat.le_of_ble_eq_true rfl) ?_
  intro M0 w0
  rw [Try.results17]
  (refine awp_fits 0 rfl fun hf => ?_; simp only [xp, simprocAttr] at hf; simp only [xf, simprocAttr] at hf)
  (repeat (first | refine g1 ?_ | refine g2 ?_ | ((first | refine g3 ?_ | refine g4 ?_ | refine g5 ?_); try simp only [xq, simprocAttr]) | ((first | refine g6 ?_ | refine g7 ?_); simp only [xr, simprocAttr]; repeat (guard_target =~ _ ∧ _; refine ⟨by first | trivial | (unfold I64; omega) | omega | (simp <;> omega) | (intros; omega), ?_⟩))))
  refine awp_cond (by first | rfl | (simp only [xr, simprocAttr]; rfl)) (fun hc => ?_) (fun hc => ?_)
  · have hn : xs ≠ ys := fun e => by simp [e] at hc
    (repeat (first | refine g1 ?_ | refine g2 ?_ | ((first | refine g3 ?_ | refine g4 ?_ | refine g5 ?_); try simp only [xq, simprocAttr]) | ((first | refine g6 ?_ | refine g7 ?_); simp only [xr, simprocAttr]; repeat (guard_target =~ _ ∧ _; refine ⟨by first | trivial | (unfold I64; omega) | omega | (simp <;> omega) | (intros; omega), ?_⟩))))
    (simp only [xe, simprocAttr]; refine ⟨_, rfl, rfl, Imp.eq ?_⟩)
    rw [decide_eq_false hn]
  have hl : xs.length = ys.length := by simp at hc; omega
  (repeat (first | refine g1 ?_ | refine g2 ?_ | ((first | refine g3 ?_ | refine g4 ?_ | refine g5 ?_); try simp only [xq, simprocAttr]) | ((first | refine g6 ?_ | refine g7 ?_); simp only [xr, simprocAttr]; repeat (guard_target =~ _ ∧ _; refine ⟨by first | trivial | (unfold I64; omega) | omega | (simp <;> omega) | (intros; omega), ?_⟩))))
  refine awp_rounds (α := Nat) (fun k => [(5, true, .int k)]) [0, 1] (fun _ => []) (fun k => k ≤ xs.length ∧ xs.take k = ys.take k) (fun k => xs.length - k) 0 (by ((try simp only [xk]); (repeat (refine leK_cons ?_ ?_; first | (focus (first | rfl | (simp only [xr, simprocAttr]; done) | (simp only [xr, simprocAttr]; refine int_eq1 ?_; first | trivial | (unfold I64; omega) | omega | (simp <;> omega) | (intros; omega)))) | rotate_left)); (try exact leK_nil rfl); (all_goals (try (simp only [xr, simprocAttr]; try refine int_eq1 ?_))))) ⟨Nat.zero_le _, rfl⟩ fun k hk => ?_
  obtain ⟨hk, hp⟩ := hk
  simp only [xr, simprocAttr]
  (repeat (first | refine g1 ?_ | refine g2 ?_ | ((first | refine g3 ?_ | refine g4 ?_ | refine g5 ?_); try simp only [xq, simprocAttr]) | ((first | refine g6 ?_ | refine g7 ?_); simp only [xr, simprocAttr]; repeat (guard_target =~ _ ∧ _; refine ⟨by first | trivial | (unfold I64; omega) | omega | (simp <;> omega) | (intros; omega), ?_⟩))))
  refine awp_cond (by first | rfl | (simp only [xr, simprocAttr]; rfl)) (fun hd => ?_) (fun hd => ?_)
  · have hk' : k < xs.length := by simpa using hd
    have hky : k < ys.length := by omega
    have hx1 : ∀ y ∈ xs.getD k [], y.length = 3 := hx _ (by rw [getD_in hk']; exact List.getElem_mem hk')
    have hy1 : ∀ y ∈ ys.getD k [], y.length = 3 := hy _ (by rw [getD_in hky]; exact List.getElem_mem hky)
    (repeat (first | refine g1 ?_ | refine g2 ?_ | ((first | refine g3 ?_ | refine g4 ?_ | refine g5 ?_); try simp only [xq, simprocAttr]) | ((first | refine g6 ?_ | refine g7 ?_); simp only [xr, simprocAttr]; repeat (guard_target =~ _ ∧ _; refine ⟨by first | trivial | (unfold I64; omega) | omega | (simp <;> omega) | (intros; omega), ?_⟩))))
    ((try refine Or.inl ?_); refine ⟨_, (eqA3S_d (xs.getD k []) (ys.getD k []) hx1 hy1), .inl rfl, ?_⟩; (try simp only [xr, simprocAttr]); repeat (guard_target =~ _ ∧ _; refine ⟨by first | trivial | (unfold I64; omega) | omega | (simp <;> omega) | (intros; omega), ?_⟩))
    (repeat (first | refine g1 ?_ | refine g2 ?_ | ((first | refine g3 ?_ | refine g4 ?_ | refine g5 ?_); try simp only [xq, simprocAttr]) | ((first | refine g6 ?_ | refine g7 ?_); simp only [xr, simprocAttr]; repeat (guard_target =~ _ ∧ _; refine ⟨by first | trivial | (unfold I64; omega) | omega | (simp <;> omega) | (intros; omega), ?_⟩))))
    refine awp_cond (by first | rfl | (simp only [xr, simprocAttr]; rfl)) (fun he => ?_) (fun he => ?_)
    · have hn : xs ≠ ys := fun e => by simp [e] at he
      (repeat (first | refine g1 ?_ | refine g2 ?_ | ((first | refine g3 ?_ | refine g4 ?_ | refine g5 ?_); try simp only [xq, simprocAttr]) | ((first | refine g6 ?_ | refine g7 ?_); simp only [xr, simprocAttr]; repeat (guard_target =~ _ ∧ _; refine ⟨by first | trivial | (unfold I64; omega) | omega | (simp <;> omega) | (intros; omega), ?_⟩))))
      (simp only [xe, simprocAttr]; refine ⟨_, rfl, rfl, Imp.eq ?_⟩)
      rw [decide_eq_false hn]
    · (repeat (first | refine g1 ?_ | refine g2 ?_ | ((first | refine g3 ?_ | refine g4 ?_ | refine g5 ?_); try simp only [xq, simprocAttr]) | ((first | refine g6 ?_ | refine g7 ?_); simp only [xr, simprocAttr]; repeat (guard_target =~ _ ∧ _; refine ⟨by first | trivial | (unfold I64; omega) | omega | (simp <;> omega) | (intros; omega), ?_⟩))))
      refine ⟨k + 1, by omega, ?_, by omega, .inl ?_⟩
      · have h2 : xs.getD k [] = ys.getD k [] := by simpa using he
        rw [List.take_succ_eq_append_getElem hk', List.take_succ_eq_append_getElem hky, hp, ← getD_in (d := []) hk', ← getD_in (d := []) hky, h2]
      · ((try simp only [xk]); (repeat (refine leK_cons ?_ ?_; first | (focus (first | rfl | (simp only [xr, simprocAttr]; done) | (simp only [xr, simprocAttr]; refine int_eq1 ?_; first | trivial | (unfold I64; omega) | omega | (simp <;> omega) | (intros; omega)))) | rotate_left)); (try exact leK_nil rfl); (all_goals (try (simp only [xr, simprocAttr]; try refine int_eq1 ?_))))
  · have hk' : k = xs.length := by simp at hd; omega
    subst hk'
    have he : xs = ys := by rw [List.take_length, hl, List.take_length] at hp; exact hp
    (repeat (first | refine g1 ?_ | refine g2 ?_ | ((first | refine g3 ?_ | refine g4 ?_ | refine g5 ?_); try simp only [xq, simprocAttr]) | ((first | refine g6 ?_ | refine g7 ?_); simp only [xr, simprocAttr]; repeat (guard_target =~ _ ∧ _; refine ⟨by first | trivial | (unfold I64; omega) | omega | (simp <;> omega) | (intros; omega), ?_⟩))))
    (simp only [xe, simprocAttr]; refine ⟨_, rfl, rfl, Imp.eq ?_⟩)
    rw [decide_eq_true he]
theorem eqA3SS_n : Does Try.prog 17 [.val (.slice none 0 0), .sl (.ki 3 [])] (.imm (.bool true)) :=
  Does.args (eqA3SS_d [] [] (by simp) (by simp)) fun M us ha => by
    obtain ⟨u, us', rfl, h1, h2⟩ := args_inv ha
    exact args_cons (nil_av (c := .ki 3 []) rfl trivial h1) h2
end Go.Proofs.Ytiaddmelbonhcaa
