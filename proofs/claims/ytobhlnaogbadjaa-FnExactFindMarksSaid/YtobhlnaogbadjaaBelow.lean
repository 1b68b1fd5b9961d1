/- Lists of numbers below a bound, on the machine. Conditions: bounds that are ints. -/
import Derived.Test.YtobhlnaogbadjaaME
import Derived.Test.YtobhlnaogbadjaaOA
set_option linter.all false
set_option linter.unusedSimpArgs false
set_option linter.unusedVariables false
namespace Go.Proofs.Ytobhlnaogbadjaa
open Go Go.RowKit Am

theorem within_e (n lo hi : Int) : Does Try.prog 75 [.int n, .int lo, .int hi] (.imm (.bool (rng n lo hi))) := by
  refine spec_imm Try.func75 rfl Try.ntmps75 cfOK (fun _ _ => by kernel_rfl) rfl (Nat.le_of_ble_eq_true rfl) ?_
  intro M0 w0
  rw [Try.results75]
  (repeat (first | refine g1 ?_ | refine g2 ?_ | ((first | refine g3 ?_ | refine g4 ?_ | refine g5 ?_); try simp only [xq, simprocAttr]) | ((first | refine g6 ?_ | refine g7 ?_); simp only [xr, simprocAttr]; repeat (guard_target =~ _ ∧ _; refine ⟨by first | trivial | (unfold I64; omega) | omega | (simp <;> omega) | (intros; omega), ?_⟩))))
  (simp only [xe, simprocAttr]; refine ⟨_, rfl, rfl, Imp.eq ?_⟩)
  show AV.bool _ = AV.bool _
  congr 1
  unfold rng
  by_cases h1 : lo ≤ n <;> by_cases h2 : n ≤ hi <;> simp [h1, h2]
theorem l1In_e (n lo hi : Int) : Does Try.prog 42 [.int n, .int lo, .int hi] (.imm (.bool (rng n lo hi))) := by
  refine spec_imm Try.func42 rfl Try.ntmps42 cfOK (fun _ _ => by kernel_rfl) rfl (Nat.le_of_ble_eq_true rfl) ?_
  intro M0 w0
  rw [Try.results42]
  (repeat (first | refine g1 ?_ | refine g2 ?_ | ((first | refine g3 ?_ | refine g4 ?_ | refine g5 ?_); try simp only [xq, simprocAttr]) | ((first | refine g6 ?_ | refine g7 ?_); simp only [xr, simprocAttr]; repeat (guard_target =~ _ ∧ _; refine ⟨by first | trivial | (unfold I64; omega) | omega | (simp <;> omega) | (intros; omega), ?_⟩))))
  (simp only [xe, simprocAttr]; refine ⟨_, rfl, rfl, Imp.eq ?_⟩)
  show AV.bool _ = AV.bool _
  congr 1
  unfold rng
  by_cases h1 : lo ≤ n <;> by_cases h2 : n ≤ hi <;> simp [h1, h2]
theorem areBelowB1_d (x n : Int) (hn : -9223372036854775807 ≤ n ∧ n ≤ 9223372036854775807) : Does Try.prog 87 [.int x, .lf (.ip [.val (.int .i64 n)] 0)] (.imm (.bool (!rng x 0 (n - 1)))) := by
  refine spec_imm Try.func87 rfl Try.ntmps87 cfOK (fun _ _ => by kernel_rfl) rfl (Nat.le_of_ble_eq_true rfl) ?_
  intro M0 w0
  rw [Try.results87]
  (repeat (first | refine g1 ?_ | refine g2 ?_ | ((first | refine g3 ?_ | refine g4 ?_ | refine g5 ?_); try simp only [xq, simprocAttr]) | ((first | refine g6 ?_ | refine g7 ?_); simp only [xr, simprocAttr]; repeat (guard_target =~ _ ∧ _; refine ⟨by first | trivial | (unfold I64; omega) | omega | (simp <;> omega) | (intros; omega), ?_⟩))))
  ((try refine Or.inl ?_); refine ⟨_, (within_e _ _ _), .inl rfl, ?_⟩; (try simp only [xr, simprocAttr]); repeat (guard_target =~ _ ∧ _; refine ⟨by first | trivial | (unfold I64; omega) | omega | (simp <;> omega) | (intros; omega), ?_⟩))
  (repeat (first | refine g1 ?_ | refine g2 ?_ | ((first | refine g3 ?_ | refine g4 ?_ | refine g5 ?_); try simp only [xq, simprocAttr]) | ((first | refine g6 ?_ | refine g7 ?_); simp only [xr, simprocAttr]; repeat (guard_target =~ _ ∧ _; refine ⟨by first | trivial | (unfold I64; omega) | omega | (simp <;> omega) | (intros; omega), ?_⟩))))
  (simp only [xe, simprocAttr]; refine ⟨_, rfl, rfl, Imp.eq ?_⟩)
  rfl
theorem areBelowB_d (n : Int) (xs : List Int) (hn : -9223372036854775807 ≤ n ∧ n ≤ 9223372036854775807) : Does Try.prog 63 [.int n, .sl (.ints xs)] (.imm (.bool (allIn 0 (n - 1) xs))) := by
  refine spec_imm Try.func63 rfl Try.ntmps63 cfOK (fun _ _ => by kernel_rfl) rfl (Nat.le_of_ble_eq_true rfl) ?_
  intro M0 w0
  rw [Try.results63]
  (repeat (first | refine g1 ?_ | refine g2 ?_ | ((first | refine g3 ?_ | refine g4 ?_ | refine g5 ?_); try simp only [xq, simprocAttr]) | ((first | refine g6 ?_ | refine g7 ?_); simp only [xr, simprocAttr]; repeat (guard_target =~ _ ∧ _; refine ⟨by first | trivial | (unfold I64; omega) | omega | (simp <;> omega) | (intros; omega), ?_⟩))))
  ((try refine Or.inl ?_); refine ⟨_, (containsFuncI_d xs _ [.ip [.val (.int .i64 n)] 0] (fun x => !rng x 0 (n - 1)) rfl fun j hj => areBelowB1_d _ n hn), .inl rfl, ?_⟩; (try simp only [xr, simprocAttr]); repeat (guard_target =~ _ ∧ _; refine ⟨by first | trivial | (unfold I64; omega) | omega | (simp <;> omega) | (intros; omega), ?_⟩))
  (repeat (first | refine g1 ?_ | refine g2 ?_ | ((first | refine g3 ?_ | refine g4 ?_ | refine g5 ?_); try simp only [xq, simprocAttr]) | ((first | refine g6 ?_ | refine g7 ?_); simp only [xr, simprocAttr]; repeat (guard_target =~ _ ∧ _; refine ⟨by first | trivial | (unfold I64; omega) | omega | (simp <;> omega) | (intros; omega), ?_⟩))))
  (simp only [xe, simprocAttr]; refine ⟨_, rfl, rfl, Imp.eq ?_⟩)
  show AV.bool _ = AV.bool _
  congr 1
  rw [List.not_any_eq_all_not]
  simp [allIn]
end Go.Proofs.Ytobhlnaogbadjaa
