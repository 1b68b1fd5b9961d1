/- Numbers that a law writes through elements of some cells each, on the machine. Conditions: lengths that a law allows. -/
import Derived.Test.YtiaddmelbonhcaaMarkKP
import Derived.Test.YtiaddmelbonhcaaME
set_option linter.all false
set_option linter.unusedSimpArgs false
set_option linter.unusedVariables false
namespace Go.Proofs.Ytiaddmelbonhcaa
open Go Go.RowKit Am

theorem markK3_h (k : Int) (xs : List (List Int)) (hk : 0 ≤ k ∧ k + (xs.length * 3 : Nat) ≤ 1073741824) (hn : xs.length ≤ 1048576) (hx : ∀ x ∈ xs, x.length = 3) : DoesH Try.prog 52 [.lf (.own 0), .int k] [true] [.row 80 (.k 3 xs)] (.int (k + (xs.length * 3 : Nat))) [.row 80 (.k 3 (mkK 3 k xs))] := by
  refine spec_hB Try.func52 rfl Try.ntmps52 cfOK (fun _ _ => by kernel_rfl) rfl rfl rfl ?_
  intro M0 w0 S φ0
  rw [Try.results52]
  (repeat (first | refine g1 ?_ | refine g2 ?_ | ((first | refine g3 ?_ | refine g4 ?_ | refine g5 ?_); try simp only [xq, simprocAttr]) | ((first | refine g6 ?_ | refine g7 ?_); simp only [xr, simprocAttr]; repeat (guard_target =~ _ ∧ _; refine ⟨by first | trivial | (unfold I64; omega) | omega | (simp <;> omega) | (intros; omega), ?_⟩))))
  refine awp_rounds (α := Nat) (fun i => [(5, true, .int i), (1, true, .int (k + (i * 3 : Nat)))]) [0] (fun i => [.row 80 (.k 3 (mkKto 3 k xs i 0))]) (fun i => i ≤ xs.length) (fun i => xs.length - i) 0 (by ((try simp only [xk]); (repeat (refine leK_cons ?_ ?_; first | (focus (first | rfl | (simp only [xr, simprocAttr]; done) | (simp only [xr, simprocAttr]; refine int_eq1 ?_; first | trivial | (unfold I64; omega) | omega | (simp <;> omega) | (intros; omega)))) | rotate_left)); (refine leK_nil ?_; exact (by rw [mkKto_0 k hx])); (all_goals (try (simp only [xr, simprocAttr]; try refine int_eq1 ?_)))); all_goals simp) (Nat.zero_le _) fun i hi => ?_
  have hl := mkKto_len 3 k xs i 0
  simp only [xr, simprocAttr]
  (repeat (first | refine g1 ?_ | refine g2 ?_ | ((first | refine g3 ?_ | refine g4 ?_ | refine g5 ?_); try simp only [xq, simprocAttr]) | ((first | refine g6 ?_ | refine g7 ?_); simp only [xr, simprocAttr]; repeat (guard_target =~ _ ∧ _; refine ⟨by first | trivial | (unfold I64; omega) | omega | (simp <;> omega) | (intros; omega), ?_⟩))))
  refine awp_cond (by first | rfl | (simp only [xr, simprocAttr]; rfl)) (fun hc => ?_) (fun hc => ?_)
  · have hc := of_decide_eq_true hc
    have hi' : i < xs.length := by omega
    (repeat (first | refine g1 ?_ | refine g2 ?_ | ((first | refine g3 ?_ | refine g4 ?_ | refine g5 ?_); try simp only [xq, simprocAttr]) | ((first | refine g6 ?_ | refine g7 ?_); simp only [xr, simprocAttr]; repeat (guard_target =~ _ ∧ _; refine ⟨by first | trivial | (unfold I64; omega) | omega | (simp <;> omega) | (intros; omega), ?_⟩))))
    refine awp_rounds (α := Nat) (fun j => [(6, true, .int j), (1, true, .int (k + (i * 3 + j : Nat)))]) [0, 5] (fun j => [.row 80 (.k 3 (mkKto 3 k xs i j))]) (fun j => j ≤ 3) (fun j => 3 - j) 0 (by ((try simp only [xk]); (repeat (refine leK_cons ?_ ?_; first | (focus (first | rfl | (simp only [xr, simprocAttr]; done) | (simp only [xr, simprocAttr]; refine int_eq1 ?_; first | trivial | (unfold I64; omega) | omega | (simp <;> omega) | (intros; omega)))) | rotate_left)); (refine leK_nil ?_; exact (by rfl)); (all_goals (try (simp only [xr, simprocAttr]; try refine int_eq1 ?_))))) (Nat.zero_le _) fun j hj => ?_
    have hl2 := mkKto_len 3 k xs i j
    simp only [xr, simprocAttr]
    (repeat (first | refine g1 ?_ | refine g2 ?_ | ((first | refine g3 ?_ | refine g4 ?_ | refine g5 ?_); try simp only [xq, simprocAttr]) | ((first | refine g6 ?_ | refine g7 ?_); simp only [xr, simprocAttr]; repeat (guard_target =~ _ ∧ _; refine ⟨by first | trivial | (unfold I64; omega) | omega | (simp <;> omega) | (intros; omega), ?_⟩))))
    refine awp_cond (by first | rfl | (simp only [xr, simprocAttr]; rfl)) (fun hd => ?_) (fun hd => ?_)
    · have hd := of_decide_eq_true hd
      have hj' : j < 3 := by omega
      have hst := mkKto_set (k := k) hi' hj'
      (repeat (first | refine g1 ?_ | refine g2 ?_ | ((first | refine g3 ?_ | refine g4 ?_ | refine g5 ?_); try simp only [xq, simprocAttr]) | ((first | refine g6 ?_ | refine g7 ?_); simp only [xr, simprocAttr]; repeat (guard_target =~ _ ∧ _; refine ⟨by first | trivial | (unfold I64; omega) | omega | (simp <;> omega) | (intros; omega), ?_⟩))))
      refine ⟨j + 1, by omega, by omega, .inl ?_⟩
      ((try simp only [xk]); (repeat (refine leK_cons ?_ ?_; first | (focus (first | rfl | (simp only [xr, simprocAttr]; done) | (simp only [xr, simprocAttr]; refine int_eq1 ?_; first | trivial | (unfold I64; omega) | omega | (simp <;> omega) | (intros; omega)))) | rotate_left)); (refine leK_nil ?_; exact (by simp only [Nat.zero_add, Nat.mul_one]; rw [hst])); (all_goals (try (simp only [xr, simprocAttr]; try refine int_eq1 ?_))))
    · have hd := of_decide_eq_false hd
      have hj' : j = 3 := by omega
      subst hj'
      rw [mkKto_next]
      (repeat (first | refine g1 ?_ | refine g2 ?_ | ((first | refine g3 ?_ | refine g4 ?_ | refine g5 ?_); try simp only [xq, simprocAttr]) | ((first | refine g6 ?_ | refine g7 ?_); simp only [xr, simprocAttr]; repeat (guard_target =~ _ ∧ _; refine ⟨by first | trivial | (unfold I64; omega) | omega | (simp <;> omega) | (intros; omega), ?_⟩))))
      refine ⟨i + 1, by omega, by omega, .inl ?_⟩
      ((try simp only [xk]); (repeat (refine leK_cons ?_ ?_; first | (focus (first | rfl | (simp only [xr, simprocAttr]; done) | (simp only [xr, simprocAttr]; refine int_eq1 ?_; first | trivial | (unfold I64; omega) | omega | (simp <;> omega) | (intros; omega)))) | rotate_left)); (try exact leK_nil rfl); (all_goals (try (simp only [xr, simprocAttr]; try refine int_eq1 ?_))))
  · have hc := of_decide_eq_false hc
    have hi' : i = xs.length := by omega
    subst hi'
    rw [mkKto_all]
    (repeat (first | refine g1 ?_ | refine g2 ?_ | ((first | refine g3 ?_ | refine g4 ?_ | refine g5 ?_); try simp only [xq, simprocAttr]) | ((first | refine g6 ?_ | refine g7 ?_); simp only [xr, simprocAttr]; repeat (guard_target =~ _ ∧ _; refine ⟨by first | trivial | (unfold I64; omega) | omega | (simp <;> omega) | (intros; omega), ?_⟩))))
    (simp only [ends_normal, ends_ret]; refine retH_1 [0] rfl ⟨rfl, trivial⟩ rfl rfl rfl rfl rfl ?_; try rfl)
theorem heldK3_d (k : Int) (xs : List (List Int)) (hk : 0 ≤ k ∧ k + (xs.length * 3 : Nat) ≤ 1073741824) (hn : xs.length ≤ 1048576) : Does Try.prog 53 [.sl (.k 3 (mkK 3 k xs)), .int k] (.imm (.int (k + (xs.length * 3 : Nat)))) := by
  have hl := mkK_len 3 k xs
  refine spec_imm Try.func53 rfl Try.ntmps53 cfOK (fun _ _ => by kernel_rfl) rfl (Nat.le_of_ble_eq_true rfl) ?_
  intro M0 w0
  rw [Try.results53]
  (repeat (first | refine g1 ?_ | refine g2 ?_ | ((first | refine g3 ?_ | refine g4 ?_ | refine g5 ?_); try simp only [xq, simprocAttr]) | ((first | refine g6 ?_ | refine g7 ?_); simp only [xr, simprocAttr]; repeat (guard_target =~ _ ∧ _; refine ⟨by first | trivial | (unfold I64; omega) | omega | (simp <;> omega) | (intros; omega), ?_⟩))))
  refine awp_rounds (α := Nat) (fun i => [(5, true, .int i), (1, true, .int (k + (i * 3 : Nat)))]) [0] (fun _ => []) (fun i => i ≤ xs.length) (fun i => xs.length - i) 0 (by ((try simp only [xk]); (repeat (refine leK_cons ?_ ?_; first | (focus (first | rfl | (simp only [xr, simprocAttr]; done) | (simp only [xr, simprocAttr]; refine int_eq1 ?_; first | trivial | (unfold I64; omega) | omega | (simp <;> omega) | (intros; omega)))) | rotate_left)); (try exact leK_nil rfl); (all_goals (try (simp only [xr, simprocAttr]; try refine int_eq1 ?_)))); all_goals simp) (Nat.zero_le _) fun i hi => ?_
  simp only [xr, simprocAttr]
  (repeat (first | refine g1 ?_ | refine g2 ?_ | ((first | refine g3 ?_ | refine g4 ?_ | refine g5 ?_); try simp only [xq, simprocAttr]) | ((first | refine g6 ?_ | refine g7 ?_); simp only [xr, simprocAttr]; repeat (guard_target =~ _ ∧ _; refine ⟨by first | trivial | (unfold I64; omega) | omega | (simp <;> omega) | (intros; omega), ?_⟩))))
  refine awp_cond (by first | rfl | (simp only [xr, simprocAttr]; rfl)) (fun hc => ?_) (fun hc => ?_)
  · have hc := of_decide_eq_true hc
    have hi' : i < xs.length := by omega
    (repeat (first | refine g1 ?_ | refine g2 ?_ | ((first | refine g3 ?_ | refine g4 ?_ | refine g5 ?_); try simp only [xq, simprocAttr]) | ((first | refine g6 ?_ | refine g7 ?_); simp only [xr, simprocAttr]; repeat (guard_target =~ _ ∧ _; refine ⟨by first | trivial | (unfold I64; omega) | omega | (simp <;> omega) | (intros; omega), ?_⟩))))
    refine awp_rounds (α := Nat) (fun j => [(6, true, .int j), (1, true, .int (k + (i * 3 + j : Nat)))]) [0, 5] (fun _ => []) (fun j => j ≤ 3) (fun j => 3 - j) 0 (by ((try simp only [xk]); (repeat (refine leK_cons ?_ ?_; first | (focus (first | rfl | (simp only [xr, simprocAttr]; done) | (simp only [xr, simprocAttr]; refine int_eq1 ?_; first | trivial | (unfold I64; omega) | omega | (simp <;> omega) | (intros; omega)))) | rotate_left)); (try exact leK_nil rfl); (all_goals (try (simp only [xr, simprocAttr]; try refine int_eq1 ?_))))) (Nat.zero_le _) fun j hj => ?_
    simp only [xr, simprocAttr]
    (repeat (first | refine g1 ?_ | refine g2 ?_ | ((first | refine g3 ?_ | refine g4 ?_ | refine g5 ?_); try simp only [xq, simprocAttr]) | ((first | refine g6 ?_ | refine g7 ?_); simp only [xr, simprocAttr]; repeat (guard_target =~ _ ∧ _; refine ⟨by first | trivial | (unfold I64; omega) | omega | (simp <;> omega) | (intros; omega), ?_⟩))))
    refine awp_cond (by first | rfl | (simp only [xr, simprocAttr]; rfl)) (fun hd => ?_) (fun hd => ?_)
    · have hd := of_decide_eq_true hd
      have hj' : j < 3 := by omega
      have hat := mkK_at (k := k) hi' hj'
      (repeat (first | refine g1 ?_ | refine g2 ?_ | ((first | refine g3 ?_ | refine g4 ?_ | refine g5 ?_); try simp only [xq, simprocAttr]) | ((first | refine g6 ?_ | refine g7 ?_); simp only [xr, simprocAttr]; repeat (guard_target =~ _ ∧ _; refine ⟨by first | trivial | (unfold I64; omega) | omega | (simp <;> omega) | (intros; omega), ?_⟩))))
      simp only [Nat.zero_add, Nat.mul_one]
      rw [hat]
      refine awp_cond (by first | rfl | (simp only [xr, simprocAttr]; rfl)) (fun he => ?_) (fun he => ?_)
      · simp at he
      (repeat (first | refine g1 ?_ | refine g2 ?_ | ((first | refine g3 ?_ | refine g4 ?_ | refine g5 ?_); try simp only [xq, simprocAttr]) | ((first | refine g6 ?_ | refine g7 ?_); simp only [xr, simprocAttr]; repeat (guard_target =~ _ ∧ _; refine ⟨by first | trivial | (unfold I64; omega) | omega | (simp <;> omega) | (intros; omega), ?_⟩))))
      refine ⟨j + 1, by omega, by omega, .inl ?_⟩
      ((try simp only [xk]); (repeat (refine leK_cons ?_ ?_; first | (focus (first | rfl | (simp only [xr, simprocAttr]; done) | (simp only [xr, simprocAttr]; refine int_eq1 ?_; first | trivial | (unfold I64; omega) | omega | (simp <;> omega) | (intros; omega)))) | rotate_left)); (try exact leK_nil rfl); (all_goals (try (simp only [xr, simprocAttr]; try refine int_eq1 ?_))))
    · have hd := of_decide_eq_false hd
      have hj' : j = 3 := by omega
      subst hj'
      (repeat (first | refine g1 ?_ | refine g2 ?_ | ((first | refine g3 ?_ | refine g4 ?_ | refine g5 ?_); try simp only [xq, simprocAttr]) | ((first | refine g6 ?_ | refine g7 ?_); simp only [xr, simprocAttr]; repeat (guard_target =~ _ ∧ _; refine ⟨by first | trivial | (unfold I64; omega) | omega | (simp <;> omega) | (intros; omega), ?_⟩))))
      refine ⟨i + 1, by omega, by omega, .inl ?_⟩
      ((try simp only [xk]); (repeat (refine leK_cons ?_ ?_; first | (focus (first | rfl | (simp only [xr, simprocAttr]; done) | (simp only [xr, simprocAttr]; refine int_eq1 ?_; first | trivial | (unfold I64; omega) | omega | (simp <;> omega) | (intros; omega)))) | rotate_left)); (try exact leK_nil rfl); (all_goals (try (simp only [xr, simprocAttr]; try refine int_eq1 ?_))))
  · have hc := of_decide_eq_false hc
    have hi' : i = xs.length := by omega
    subst hi'
    (repeat (first | refine g1 ?_ | refine g2 ?_ | ((first | refine g3 ?_ | refine g4 ?_ | refine g5 ?_); try simp only [xq, simprocAttr]) | ((first | refine g6 ?_ | refine g7 ?_); simp only [xr, simprocAttr]; repeat (guard_target =~ _ ∧ _; refine ⟨by first | trivial | (unfold I64; omega) | omega | (simp <;> omega) | (intros; omega), ?_⟩))))
    (simp only [xe, simprocAttr]; refine ⟨_, rfl, rfl, Imp.eq ?_⟩)
    rfl
end Go.Proofs.Ytiaddmelbonhcaa
