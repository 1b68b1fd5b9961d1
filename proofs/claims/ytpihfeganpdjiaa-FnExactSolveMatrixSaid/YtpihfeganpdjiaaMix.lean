/- Algorithms and mixtures, on the machine. Conditions: problems that are right. -/
import Derived.Test.YtpihfeganpdjiaaME
import Derived.Test.YtpihfeganpdjiaaOA
import Derived.Test.YtpihfeganpdjiaaPS
set_option linter.all false
set_option linter.unusedSimpArgs false
set_option linter.unusedVariables false
namespace Go.Proofs.Ytpihfeganpdjiaa
open Go Go.RowKit Am

theorem within_d (n lo hi : Int) : Does Try.prog 39 [.int n, .int lo, .int hi] (.imm (.bool (rng n lo hi))) := by
  refine spec_imm Try.func39 rfl Try.ntmps39 cfOK (fun _ _ => by kernel_rfl) rfl (Nat.le_of_ble_eq_true rfl) ?_
  intro M0 w0
  rw [Try.results39]
  (repeat (first | refine g1 ?_ | refine g2 ?_ | ((first | refine g3 ?_ | refine g4 ?_ | refine g5 ?_); try simp only [xq, simprocAttr]) | ((first | refine g6 ?_ | refine g7 ?_); simp only [xr, simprocAttr]; repeat (guard_target =~ _ ∧ _; refine ⟨by first | trivial | (unfold I64; omega) | omega | (simp <;> omega) | (intros; omega), ?_⟩))))
  (simp only [xe, simprocAttr]; refine ⟨_, rfl, rfl, Imp.eq ?_⟩)
  show AV.bool _ = AV.bool _
  congr
  by_cases h1 : lo ≤ n <;> by_cases h2 : n ≤ hi <;> simp [rng, h1, h2]
theorem l1In_d (n lo hi : Int) : Does Try.prog 30 [.int n, .int lo, .int hi] (.imm (.bool (rng n lo hi))) := by
  refine spec_imm Try.func30 rfl Try.ntmps30 cfOK (fun _ _ => by kernel_rfl) rfl (Nat.le_of_ble_eq_true rfl) ?_
  intro M0 w0
  rw [Try.results30]
  (repeat (first | refine g1 ?_ | refine g2 ?_ | ((first | refine g3 ?_ | refine g4 ?_ | refine g5 ?_); try simp only [xq, simprocAttr]) | ((first | refine g6 ?_ | refine g7 ?_); simp only [xr, simprocAttr]; repeat (guard_target =~ _ ∧ _; refine ⟨by first | trivial | (unfold I64; omega) | omega | (simp <;> omega) | (intros; omega), ?_⟩))))
  (simp only [xe, simprocAttr]; refine ⟨_, rfl, rfl, Imp.eq ?_⟩)
  show AV.bool _ = AV.bool _
  congr
  by_cases h1 : lo ≤ n <;> by_cases h2 : n ≤ hi <;> simp [rng, h1, h2]
theorem dec_len (a b : Nat) : decide ((a : Int) = b) = (a == b) := by rw [Bool.eq_iff_iff, decide_eq_true_eq, beq_iff_eq]; omega
theorem any_not {α : Type} (p : α → Bool) (xs : List α) : (!xs.any fun x => !p x) = xs.all p := by rw [List.not_any_eq_all_not]; simp
theorem prob_rows {m s : List (List Int)} (h : probB m s = true) : ∀ r, r < s.length → (s.getD r []).length = m.length := fun r hr => by
  unfold probB at h
  simp only [Bool.and_eq_true, List.all_eq_true] at h
  have := h.2 _ (List.getElem_mem hr)
  unfold reqB at this
  simp only [Bool.and_eq_true, beq_iff_eq] at this
  rw [getD_in hr]
  exact this.1.1
end Go.Proofs.Ytpihfeganpdjiaa
