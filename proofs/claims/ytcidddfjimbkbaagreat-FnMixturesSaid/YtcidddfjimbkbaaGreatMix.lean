/- Algorithms and mixtures, on the machine. Conditions: problems that are right. -/
import Derived.Test.YtcidddfjimbkbaaGreatME
import Derived.Test.YtcidddfjimbkbaaGreatOA
import Derived.Test.YtcidddfjimbkbaaGreatPS
set_option linter.all false
set_option linter.unusedSimpArgs false
set_option linter.unusedVariables false
namespace Go.Proofs.YtcidddfjimbkbaaGreat
open Go Go.RowKit Am

theorem within_d (n lo hi : Int) : Does Tryz.prog 79 [.int n, .int lo, .int hi] (.imm (.bool (rng n lo hi))) := by
  refine spec_imm Tryz.func79 rfl Tryz.ntmps79 cfOK (fun _ _ => by kernel_rfl) rfl (Nat.le_of_ble_eq_true rfl) ?_
  intro M0 w0
  rw [Tryz.results79]
  (repeat (first | refine g1 ?_ | refine g2 ?_ | ((first | refine g3 ?_ | refine g4 ?_ | refine g5 ?_); try simp only [xq, simprocAttr]) | ((first | refine g6 ?_ | refine g7 ?_); simp only [xr, simprocAttr]; repeat (guard_target =~ _ ∧ _; refine ⟨by first | trivial | (unfold I64; omega) | omega | (simp <;> omega) | (intros; omega), ?_⟩))))
  (simp only [xe, simprocAttr]; refine ⟨_, rfl, rfl, Imp.eq ?_⟩)
  show AV.bool _ = AV.bool _
  congr
  by_cases h1 : lo ≤ n <;> by_cases h2 : n ≤ hi <;> simp [rng, h1, h2]
theorem l1In_d (n lo hi : Int) : Does Tryz.prog 87 [.int n, .int lo, .int hi] (.imm (.bool (rng n lo hi))) := by
  refine spec_imm Tryz.func87 rfl Tryz.ntmps87 cfOK (fun _ _ => by kernel_rfl) rfl (Nat.le_of_ble_eq_true rfl) ?_
  intro M0 w0
  rw [Tryz.results87]
  (repeat (first | refine g1 ?_ | refine g2 ?_ | ((first | refine g3 ?_ | refine g4 ?_ | refine g5 ?_); try simp only [xq, simprocAttr]) | ((first | refine g6 ?_ | refine g7 ?_); simp only [xr, simprocAttr]; repeat (guard_target =~ _ ∧ _; refine ⟨by first | trivial | (unfold I64; omega) | omega | (simp <;> omega) | (intros; omega), ?_⟩))))
  (simp only [xe, simprocAttr]; refine ⟨_, rfl, rfl, Imp.eq ?_⟩)
  show AV.bool _ = AV.bool _
  congr
  by_cases h1 : lo ≤ n <;> by_cases h2 : n ≤ hi <;> simp [rng, h1, h2]
theorem isState_d (m s : List (List Int)) (x : Int) : Does Tryz.prog 108 [prA m s, .int x] (.imm (.bool (rng x 0 ((m.length : Int) - 1)))) := by
  refine spec_imm Tryz.func108 rfl Tryz.ntmps108 cfOK (fun _ _ => by kernel_rfl) rfl (Nat.le_of_ble_eq_true rfl) ?_
  intro M0 w0
  rw [Tryz.results108]
  (refine awp_fits 0 rfl fun hf => ?_; simp only [xp, simprocAttr] at hf; simp only [xf, simprocAttr] at hf)
  (repeat (first | refine g1 ?_ | refine g2 ?_ | ((first | refine g3 ?_ | refine g4 ?_ | refine g5 ?_); try simp only [xq, simprocAttr]) | ((first | refine g6 ?_ | refine g7 ?_); simp only [xr, simprocAttr]; repeat (guard_target =~ _ ∧ _; refine ⟨by first | trivial | (unfold I64; omega) | omega | (simp <;> omega) | (intros; omega), ?_⟩))))
  ((try refine Or.inl ?_); refine ⟨_, (within_d _ _ _), .inl rfl, ?_⟩; (try simp only [xr, simprocAttr]); repeat (guard_target =~ _ ∧ _; refine ⟨by first | trivial | (unfold I64; omega) | omega | (simp <;> omega) | (intros; omega), ?_⟩))
  (repeat (first | refine g1 ?_ | refine g2 ?_ | ((first | refine g3 ?_ | refine g4 ?_ | refine g5 ?_); try simp only [xq, simprocAttr]) | ((first | refine g6 ?_ | refine g7 ?_); simp only [xr, simprocAttr]; repeat (guard_target =~ _ ∧ _; refine ⟨by first | trivial | (unfold I64; omega) | omega | (simp <;> omega) | (intros; omega), ?_⟩))))
  (simp only [xe, simprocAttr]; refine ⟨_, rfl, rfl, Imp.eq ?_⟩)
  rfl
theorem areServed_d (m s : List (List Int)) (row : List Int) (hrow : ∀ r, r < s.length → (s.getD r []).length = m.length) : Does Tryz.prog 133 [prA m s, .sl (.ints row)] (.imm (.bool (servB m.length s row))) := by
  refine spec_imm Tryz.func133 rfl Tryz.ntmps133 cfOK (fun _ _ => by kernel_rfl) rfl (Nat.le_of_ble_eq_true rfl) ?_
  intro M0 w0
  rw [Tryz.results133]
  (refine awp_fits 0 rfl fun hf => ?_; simp only [xp, simprocAttr] at hf; simp only [xf, simprocAttr] at hf)
  (refine awp_fits 1 rfl fun hg => ?_; simp only [xp, simprocAttr] at hg; simp only [xf, simprocAttr] at hg)
  (repeat (first | refine g1 ?_ | refine g2 ?_ | ((first | refine g3 ?_ | refine g4 ?_ | refine g5 ?_); try simp only [xq, simprocAttr]) | ((first | refine g6 ?_ | refine g7 ?_); simp only [xr, simprocAttr]; repeat (guard_target =~ _ ∧ _; refine ⟨by first | trivial | (unfold I64; omega) | omega | (simp <;> omega) | (intros; omega), ?_⟩))))
  refine awp_cond (by first | rfl | (simp only [xr, simprocAttr]; rfl)) (fun hc => ?_) (fun hc => ?_)
  · have hn : row.length ≠ s.length := by simp at hc; omega
    (repeat (first | refine g1 ?_ | refine g2 ?_ | ((first | refine g3 ?_ | refine g4 ?_ | refine g5 ?_); try simp only [xq, simprocAttr]) | ((first | refine g6 ?_ | refine g7 ?_); simp only [xr, simprocAttr]; repeat (guard_target =~ _ ∧ _; refine ⟨by first | trivial | (unfold I64; omega) | omega | (simp <;> omega) | (intros; omega), ?_⟩))))
    (simp only [xe, simprocAttr]; refine ⟨_, rfl, rfl, Imp.eq ?_⟩)
    rw [servB_len hn]
  have hl : row.length = s.length := by simp at hc; omega
  (repeat (first | refine g1 ?_ | refine g2 ?_ | ((first | refine g3 ?_ | refine g4 ?_ | refine g5 ?_); try simp only [xq, simprocAttr]) | ((first | refine g6 ?_ | refine g7 ?_); simp only [xr, simprocAttr]; repeat (guard_target =~ _ ∧ _; refine ⟨by first | trivial | (unfold I64; omega) | omega | (simp <;> omega) | (intros; omega), ?_⟩))))
  refine awp_rounds (α := Nat) (fun k => [(15, true, .int k)]) [2, 13, 14] (fun _ => [.box [.b (.sl (.ii m)), .b (.sl (.ii s))]]) (fun k => k ≤ row.length ∧ ∀ r (hr : r < k), toOk m.length s r (row.getD r 0) = true) (fun k => row.length - k) 0 (by ((try simp only [xk]); (repeat (refine leK_cons ?_ ?_; first | (focus (first | rfl | (simp only [xr, simprocAttr]; done) | (simp only [xr, simprocAttr]; refine int_eq1 ?_; first | trivial | (unfold I64; omega) | omega | (simp <;> omega) | (intros; omega)))) | rotate_left)); (try exact leK_nil rfl); (all_goals (try (simp only [xr, simprocAttr]; try refine int_eq1 ?_))))) ⟨Nat.zero_le _, fun r hr => by omega⟩ fun k hk => ?_
  obtain ⟨hk, hp⟩ := hk
  simp only [xr, simprocAttr]
  (repeat (first | refine g1 ?_ | refine g2 ?_ | ((first | refine g3 ?_ | refine g4 ?_ | refine g5 ?_); try simp only [xq, simprocAttr]) | ((first | refine g6 ?_ | refine g7 ?_); simp only [xr, simprocAttr]; repeat (guard_target =~ _ ∧ _; refine ⟨by first | trivial | (unfold I64; omega) | omega | (simp <;> omega) | (intros; omega), ?_⟩))))
  refine awp_cond (by first | rfl | (simp only [xr, simprocAttr]; rfl)) (fun hd => ?_) (fun hd => ?_)
  · have hk' : k < row.length := by simpa using hd
    (repeat (first | refine g1 ?_ | refine g2 ?_ | ((first | refine g3 ?_ | refine g4 ?_ | refine g5 ?_); try simp only [xq, simprocAttr]) | ((first | refine g6 ?_ | refine g7 ?_); simp only [xr, simprocAttr]; repeat (guard_target =~ _ ∧ _; refine ⟨by first | trivial | (unfold I64; omega) | omega | (simp <;> omega) | (intros; omega), ?_⟩))))
    ((try refine Or.inl ?_); refine ⟨_, (isState_d _ _ _), .inl rfl, ?_⟩; (try simp only [xr, simprocAttr]); repeat (guard_target =~ _ ∧ _; refine ⟨by first | trivial | (unfold I64; omega) | omega | (simp <;> omega) | (intros; omega), ?_⟩))
    have hr := hrow k (by omega)
    refine And.intro (fun h => ?_) ?_
    · have h := rng_iff.1 h
      exact ⟨by decide, h.1, by omega⟩
    (repeat (guard_target =~ _ ∧ _; refine ⟨by first | trivial | (unfold I64; omega) | omega | (simp <;> omega) | (intros; omega), ?_⟩))
    refine awp_cond (by first | rfl | (simp only [xr, simprocAttr]; rfl)) (fun he => ?_) (fun he => ?_)
    · have hn : toOk m.length s k (row.getD k 0) = false := by
        unfold toOk at2
        cases hq : rng (row.getD k 0) 0 ((m.length : Int) - 1)
        · rfl
        · rw [hq] at he
          simpa using he
      (repeat (first | refine g1 ?_ | refine g2 ?_ | ((first | refine g3 ?_ | refine g4 ?_ | refine g5 ?_); try simp only [xq, simprocAttr]) | ((first | refine g6 ?_ | refine g7 ?_); simp only [xr, simprocAttr]; repeat (guard_target =~ _ ∧ _; refine ⟨by first | trivial | (unfold I64; omega) | omega | (simp <;> omega) | (intros; omega), ?_⟩))))
      (simp only [xe, simprocAttr]; refine ⟨_, rfl, rfl, Imp.eq ?_⟩)
      rw [servB_no hk' (by rw [← getD_in (d := 0) hk']; exact hn)]
    · have hn : toOk m.length s k (row.getD k 0) = true := by
        unfold toOk at2
        cases hq : rng (row.getD k 0) 0 ((m.length : Int) - 1)
        · rw [hq] at he; cases he
        · rw [hq] at he
          simpa using he
      (repeat (first | refine g1 ?_ | refine g2 ?_ | ((first | refine g3 ?_ | refine g4 ?_ | refine g5 ?_); try simp only [xq, simprocAttr]) | ((first | refine g6 ?_ | refine g7 ?_); simp only [xr, simprocAttr]; repeat (guard_target =~ _ ∧ _; refine ⟨by first | trivial | (unfold I64; omega) | omega | (simp <;> omega) | (intros; omega), ?_⟩))))
      refine ⟨k + 1, by omega, fun r hr => ?_, by omega, .inl ?_⟩
      · rcases Nat.lt_or_ge r k with h1 | h1
        · exact hp r h1
        · rw [show r = k by omega]; exact hn
      · ((try simp only [xk]); (repeat (refine leK_cons ?_ ?_; first | (focus (first | rfl | (simp only [xr, simprocAttr]; done) | (simp only [xr, simprocAttr]; refine int_eq1 ?_; first | trivial | (unfold I64; omega) | omega | (simp <;> omega) | (intros; omega)))) | rotate_left)); (try exact leK_nil rfl); (all_goals (try (simp only [xr, simprocAttr]; try refine int_eq1 ?_))))
  · have hk' : k = row.length := by simp at hd; omega
    subst hk'
    (repeat (first | refine g1 ?_ | refine g2 ?_ | ((first | refine g3 ?_ | refine g4 ?_ | refine g5 ?_); try simp only [xq, simprocAttr]) | ((first | refine g6 ?_ | refine g7 ?_); simp only [xr, simprocAttr]; repeat (guard_target =~ _ ∧ _; refine ⟨by first | trivial | (unfold I64; omega) | omega | (simp <;> omega) | (intros; omega), ?_⟩))))
    (simp only [xe, simprocAttr]; refine ⟨_, rfl, rfl, Imp.eq ?_⟩)
    rw [servB_yes hl fun r hr => by rw [← getD_in (d := 0) hr]; exact hp r hr]
theorem isAlgorithm1_d (m s : List (List Int)) (row : List Int) (hrow : ∀ r, r < s.length → (s.getD r []).length = m.length) : Does Tryz.prog 132 [.sl (.ints row), .lf (.ip [.sl (.ii m), .sl (.ii s)] 0)] (.imm (.bool (!servB m.length s row))) := by
  refine spec_imm Tryz.func132 rfl Tryz.ntmps132 cfOK (fun _ _ => by kernel_rfl) rfl (Nat.le_of_ble_eq_true rfl) ?_
  intro M0 w0
  rw [Tryz.results132]
  (repeat (first | refine g1 ?_ | refine g2 ?_ | ((first | refine g3 ?_ | refine g4 ?_ | refine g5 ?_); try simp only [xq, simprocAttr]) | ((first | refine g6 ?_ | refine g7 ?_); simp only [xr, simprocAttr]; repeat (guard_target =~ _ ∧ _; refine ⟨by first | trivial | (unfold I64; omega) | omega | (simp <;> omega) | (intros; omega), ?_⟩))))
  ((try refine Or.inl ?_); refine ⟨_, (areServed_d _ _ _ hrow), .inl rfl, ?_⟩; (try simp only [xr, simprocAttr]); repeat (guard_target =~ _ ∧ _; refine ⟨by first | trivial | (unfold I64; omega) | omega | (simp <;> omega) | (intros; omega), ?_⟩))
  (repeat (first | refine g1 ?_ | refine g2 ?_ | ((first | refine g3 ?_ | refine g4 ?_ | refine g5 ?_); try simp only [xq, simprocAttr]) | ((first | refine g6 ?_ | refine g7 ?_); simp only [xr, simprocAttr]; repeat (guard_target =~ _ ∧ _; refine ⟨by first | trivial | (unfold I64; omega) | omega | (simp <;> omega) | (intros; omega), ?_⟩))))
  (simp only [xe, simprocAttr]; refine ⟨_, rfl, rfl, Imp.eq ?_⟩)
  rfl
theorem isAlgorithm_d (m s next : List (List Int)) (hrow : ∀ r, r < s.length → (s.getD r []).length = m.length) : Does Tryz.prog 82 [prA m s, .sl (.ii next)] (.imm (.bool (algB m s next))) := by
  refine spec_imm Tryz.func82 rfl Tryz.ntmps82 cfOK (fun _ _ => by kernel_rfl) rfl (Nat.le_of_ble_eq_true rfl) ?_
  intro M0 w0
  rw [Tryz.results82]
  (repeat (first | refine g1 ?_ | refine g2 ?_ | ((first | refine g3 ?_ | refine g4 ?_ | refine g5 ?_); try simp only [xq, simprocAttr]) | ((first | refine g6 ?_ | refine g7 ?_); simp only [xr, simprocAttr]; repeat (guard_target =~ _ ∧ _; refine ⟨by first | trivial | (unfold I64; omega) | omega | (simp <;> omega) | (intros; omega), ?_⟩))))
  ((try refine Or.inl ?_); refine ⟨_, (fun _ => containsFuncII_d next _ [.ip [.sl (.ii m), .sl (.ii s)] 0] (fun r => !servB m.length s r) rfl fun j hj => isAlgorithm1_d m s _ hrow), .inl rfl, ?_⟩; (try simp only [xr, simprocAttr]); repeat (guard_target =~ _ ∧ _; refine ⟨by first | trivial | (unfold I64; omega) | omega | (simp <;> omega) | (intros; omega), ?_⟩))
  (repeat (first | refine g1 ?_ | refine g2 ?_ | ((first | refine g3 ?_ | refine g4 ?_ | refine g5 ?_); try simp only [xq, simprocAttr]) | ((first | refine g6 ?_ | refine g7 ?_); simp only [xr, simprocAttr]; repeat (guard_target =~ _ ∧ _; refine ⟨by first | trivial | (unfold I64; omega) | omega | (simp <;> omega) | (intros; omega), ?_⟩))))
  (simp only [xe, simprocAttr]; refine ⟨_, rfl, rfl, Imp.eq ?_⟩)
  have e : (!next.any fun r => !servB m.length s r) = next.all (servB m.length s) := by rw [List.not_any_eq_all_not]; simp
  show AV.bool _ = AV.bool _
  rw [e]
  unfold algB
  congr 1
  by_cases h : next.length = m.length
  · simp [h]
  · have : ¬ ((next.length : Int) = m.length) := by omega
    simp [h, this]
/-! ### mixtures -/
theorem areWeights1_d (x lo : Int) : Does Tryz.prog 142 [.int x, .lf (.ip [.val (.int .i64 lo)] 0)] (.imm (.bool (!rng x lo 9))) := by
  refine spec_imm Tryz.func142 rfl Tryz.ntmps142 cfOK (fun _ _ => by kernel_rfl) rfl (Nat.le_of_ble_eq_true rfl) ?_
  intro M0 w0
  rw [Tryz.results142]
  (repeat (first | refine g1 ?_ | refine g2 ?_ | ((first | refine g3 ?_ | refine g4 ?_ | refine g5 ?_); try simp only [xq, simprocAttr]) | ((first | refine g6 ?_ | refine g7 ?_); simp only [xr, simprocAttr]; repeat (guard_target =~ _ ∧ _; refine ⟨by first | trivial | (unfold I64; omega) | omega | (simp <;> omega) | (intros; omega), ?_⟩))))
  ((try refine Or.inl ?_); refine ⟨_, (within_d _ _ _), .inl rfl, ?_⟩; (try simp only [xr, simprocAttr]); repeat (guard_target =~ _ ∧ _; refine ⟨by first | trivial | (unfold I64; omega) | omega | (simp <;> omega) | (intros; omega), ?_⟩))
  (repeat (first | refine g1 ?_ | refine g2 ?_ | ((first | refine g3 ?_ | refine g4 ?_ | refine g5 ?_); try simp only [xq, simprocAttr]) | ((first | refine g6 ?_ | refine g7 ?_); simp only [xr, simprocAttr]; repeat (guard_target =~ _ ∧ _; refine ⟨by first | trivial | (unfold I64; omega) | omega | (simp <;> omega) | (intros; omega), ?_⟩))))
  (simp only [xe, simprocAttr]; refine ⟨_, rfl, rfl, Imp.eq ?_⟩)
  rfl
theorem areWeights_d (xs : List Int) (lo : Int) : Does Tryz.prog 103 [.sl (.ints xs), .int lo] (.imm (.bool (allIn lo 9 xs))) := by
  refine spec_imm Tryz.func103 rfl Tryz.ntmps103 cfOK (fun _ _ => by kernel_rfl) rfl (Nat.le_of_ble_eq_true rfl) ?_
  intro M0 w0
  rw [Tryz.results103]
  (repeat (first | refine g1 ?_ | refine g2 ?_ | ((first | refine g3 ?_ | refine g4 ?_ | refine g5 ?_); try simp only [xq, simprocAttr]) | ((first | refine g6 ?_ | refine g7 ?_); simp only [xr, simprocAttr]; repeat (guard_target =~ _ ∧ _; refine ⟨by first | trivial | (unfold I64; omega) | omega | (simp <;> omega) | (intros; omega), ?_⟩))))
  ((try refine Or.inl ?_); refine ⟨_, (containsFuncI_d xs _ [.ip [.val (.int .i64 lo)] 0] (fun x => !rng x lo 9) rfl fun j hj => areWeights1_d _ lo), .inl rfl, ?_⟩; (try simp only [xr, simprocAttr]); repeat (guard_target =~ _ ∧ _; refine ⟨by first | trivial | (unfold I64; omega) | omega | (simp <;> omega) | (intros; omega), ?_⟩))
  (repeat (first | refine g1 ?_ | refine g2 ?_ | ((first | refine g3 ?_ | refine g4 ?_ | refine g5 ?_); try simp only [xq, simprocAttr]) | ((first | refine g6 ?_ | refine g7 ?_); simp only [xr, simprocAttr]; repeat (guard_target =~ _ ∧ _; refine ⟨by first | trivial | (unfold I64; omega) | omega | (simp <;> omega) | (intros; omega), ?_⟩))))
  (simp only [xe, simprocAttr]; refine ⟨_, rfl, rfl, Imp.eq ?_⟩)
  show AV.bool _ = AV.bool _
  congr 1
  rw [List.not_any_eq_all_not]
  simp [allIn]
theorem isMixture1_d (m s : List (List Int)) (next : List (List Int)) (hrow : ∀ r, r < s.length → (s.getD r []).length = m.length) : Does Tryz.prog 104 [.sl (.ii next), .lf (.ip [.sl (.ii m), .sl (.ii s)] 0)] (.imm (.bool (!algB m s next))) := by
  refine spec_imm Tryz.func104 rfl Tryz.ntmps104 cfOK (fun _ _ => by kernel_rfl) rfl (Nat.le_of_ble_eq_true rfl) ?_
  intro M0 w0
  rw [Tryz.results104]
  (repeat (first | refine g1 ?_ | refine g2 ?_ | ((first | refine g3 ?_ | refine g4 ?_ | refine g5 ?_); try simp only [xq, simprocAttr]) | ((first | refine g6 ?_ | refine g7 ?_); simp only [xr, simprocAttr]; repeat (guard_target =~ _ ∧ _; refine ⟨by first | trivial | (unfold I64; omega) | omega | (simp <;> omega) | (intros; omega), ?_⟩))))
  ((try refine Or.inl ?_); refine ⟨_, (isAlgorithm_d _ _ _ hrow), .inl rfl, ?_⟩; (try simp only [xr, simprocAttr]); repeat (guard_target =~ _ ∧ _; refine ⟨by first | trivial | (unfold I64; omega) | omega | (simp <;> omega) | (intros; omega), ?_⟩))
  (repeat (first | refine g1 ?_ | refine g2 ?_ | ((first | refine g3 ?_ | refine g4 ?_ | refine g5 ?_); try simp only [xq, simprocAttr]) | ((first | refine g6 ?_ | refine g7 ?_); simp only [xr, simprocAttr]; repeat (guard_target =~ _ ∧ _; refine ⟨by first | trivial | (unfold I64; omega) | omega | (simp <;> omega) | (intros; omega), ?_⟩))))
  (simp only [xe, simprocAttr]; refine ⟨_, rfl, rfl, Imp.eq ?_⟩)
  rfl
theorem payoffs1_d (m s : List (List Int)) (next : List (List Int)) (hrow : ∀ r, r < s.length → (s.getD r []).length = m.length) : Does Tryz.prog 81 [.sl (.ii next), .lf (.ip [.sl (.ii m), .sl (.ii s)] 0)] (.imm (.bool (!algB m s next))) := by
  refine spec_imm Tryz.func81 rfl Tryz.ntmps81 cfOK (fun _ _ => by kernel_rfl) rfl (Nat.le_of_ble_eq_true rfl) ?_
  intro M0 w0
  rw [Tryz.results81]
  (repeat (first | refine g1 ?_ | refine g2 ?_ | ((first | refine g3 ?_ | refine g4 ?_ | refine g5 ?_); try simp only [xq, simprocAttr]) | ((first | refine g6 ?_ | refine g7 ?_); simp only [xr, simprocAttr]; repeat (guard_target =~ _ ∧ _; refine ⟨by first | trivial | (unfold I64; omega) | omega | (simp <;> omega) | (intros; omega), ?_⟩))))
  ((try refine Or.inl ?_); refine ⟨_, (isAlgorithm_d _ _ _ hrow), .inl rfl, ?_⟩; (try simp only [xr, simprocAttr]); repeat (guard_target =~ _ ∧ _; refine ⟨by first | trivial | (unfold I64; omega) | omega | (simp <;> omega) | (intros; omega), ?_⟩))
  (repeat (first | refine g1 ?_ | refine g2 ?_ | ((first | refine g3 ?_ | refine g4 ?_ | refine g5 ?_); try simp only [xq, simprocAttr]) | ((first | refine g6 ?_ | refine g7 ?_); simp only [xr, simprocAttr]; repeat (guard_target =~ _ ∧ _; refine ⟨by first | trivial | (unfold I64; omega) | omega | (simp <;> omega) | (intros; omega), ?_⟩))))
  (simp only [xe, simprocAttr]; refine ⟨_, rfl, rfl, Imp.eq ?_⟩)
  rfl
theorem dec_len (a b : Nat) : decide ((a : Int) = b) = (a == b) := by rw [Bool.eq_iff_iff, decide_eq_true_eq, beq_iff_eq]; omega
theorem any_not {α : Type} (p : α → Bool) (xs : List α) : (!xs.any fun x => !p x) = xs.all p := by rw [List.not_any_eq_all_not]; simp
theorem isMixture_d (m s : List (List Int)) (ws : List Int) (ns : List (List (List Int))) (hrow : ∀ r, r < s.length → (s.getD r []).length = m.length) : Does Tryz.prog 38 [prA m s, mixA ws ns] (.imm (.bool (mixB m s ws ns 4))) := by
  refine spec_imm Tryz.func38 rfl Tryz.ntmps38 cfOK (fun _ _ => by kernel_rfl) rfl (Nat.le_of_ble_eq_true rfl) ?_
  intro M0 w0
  rw [Tryz.results38]
  (repeat (first | refine g1 ?_ | refine g2 ?_ | ((first | refine g3 ?_ | refine g4 ?_ | refine g5 ?_); try simp only [xq, simprocAttr]) | ((first | refine g6 ?_ | refine g7 ?_); simp only [xr, simprocAttr]; repeat (guard_target =~ _ ∧ _; refine ⟨by first | trivial | (unfold I64; omega) | omega | (simp <;> omega) | (intros; omega), ?_⟩))))
  ((try refine Or.inl ?_); refine ⟨_, (within_d _ _ _), .inl rfl, ?_⟩; (try simp only [xr, simprocAttr]); repeat (guard_target =~ _ ∧ _; refine ⟨by first | trivial | (unfold I64; omega) | omega | (simp <;> omega) | (intros; omega), ?_⟩))
  (repeat (first | refine g1 ?_ | refine g2 ?_ | ((first | refine g3 ?_ | refine g4 ?_ | refine g5 ?_); try simp only [xq, simprocAttr]) | ((first | refine g6 ?_ | refine g7 ?_); simp only [xr, simprocAttr]; repeat (guard_target =~ _ ∧ _; refine ⟨by first | trivial | (unfold I64; omega) | omega | (simp <;> omega) | (intros; omega), ?_⟩))))
  ((try refine Or.inl ?_); refine ⟨_, (fun _ => areWeights_d _ _), .inl rfl, ?_⟩; (try simp only [xr, simprocAttr]); repeat (guard_target =~ _ ∧ _; refine ⟨by first | trivial | (unfold I64; omega) | omega | (simp <;> omega) | (intros; omega), ?_⟩))
  (repeat (first | refine g1 ?_ | refine g2 ?_ | ((first | refine g3 ?_ | refine g4 ?_ | refine g5 ?_); try simp only [xq, simprocAttr]) | ((first | refine g6 ?_ | refine g7 ?_); simp only [xr, simprocAttr]; repeat (guard_target =~ _ ∧ _; refine ⟨by first | trivial | (unfold I64; omega) | omega | (simp <;> omega) | (intros; omega), ?_⟩))))
  ((try refine Or.inl ?_); refine ⟨_, (fun _ => containsFuncIII_d ns _ [.ip [.sl (.ii m), .sl (.ii s)] 0] (fun a => !algB m s a) rfl fun j hj => isMixture1_d m s _ hrow), .inl rfl, ?_⟩; (try simp only [xr, simprocAttr]); repeat (guard_target =~ _ ∧ _; refine ⟨by first | trivial | (unfold I64; omega) | omega | (simp <;> omega) | (intros; omega), ?_⟩))
  (repeat (first | refine g1 ?_ | refine g2 ?_ | ((first | refine g3 ?_ | refine g4 ?_ | refine g5 ?_); try simp only [xq, simprocAttr]) | ((first | refine g6 ?_ | refine g7 ?_); simp only [xr, simprocAttr]; repeat (guard_target =~ _ ∧ _; refine ⟨by first | trivial | (unfold I64; omega) | omega | (simp <;> omega) | (intros; omega), ?_⟩))))
  (simp only [xe, simprocAttr]; refine ⟨_, rfl, rfl, Imp.eq ?_⟩)
  show AV.bool _ = AV.bool _
  rw [any_not]
  unfold mixB
  congr 1
  simp only [Bool.cond_false_right, dec_len]
theorem isProblem_d (m s : List (List Int)) : Does Tryz.prog 37 [prA m s] (.imm (.bool (probB m s))) :=
  does_val (fun _ _ => by kernel_rfl) fun M w us hm ha => by
    obtain ⟨u, us', rfl, h1, h2⟩ := args_inv ha
    obtain rfl := args_inv0 h2
    obtain ⟨a, b, rfl, h3, h4⟩ := ls_two h1
    exact isProblem_any w _ m s ⟨a, b, rfl, sl_of_sii hm h3, sl_of_sii hm h4⟩
theorem l8Good_d (m s : List (List Int)) : Does Tryz.prog 39 [prA m s] (.imm (.bool (probB m s))) :=
  does_val (fun _ _ => by kernel_rfl) fun M w us hm ha => by
    obtain ⟨u, us', rfl, h1, h2⟩ := args_inv ha
    obtain rfl := args_inv0 h2
    obtain ⟨a, b, rfl, h3, h4⟩ := ls_two h1
    exact l8Good_any w _ m s ⟨a, b, rfl, sl_of_sii hm h3, sl_of_sii hm h4⟩
theorem prob_rows {m s : List (List Int)} (h : probB m s = true) : ∀ r, r < s.length → (s.getD r []).length = m.length := fun r hr => by
  unfold probB at h
  simp only [Bool.and_eq_true, List.all_eq_true] at h
  have := h.2 _ (List.getElem_mem hr)
  unfold reqB at this
  simp only [Bool.and_eq_true, beq_iff_eq] at this
  rw [getD_in hr]
  exact this.1.1
theorem impl_IsMixture_d (m s : List (List Int)) (ws : List Int) (ns : List (List (List Int))) : Does Tryz.prog 7 [prA m s, mixA ws ns] (.imm (.tup [.one (.b (.val (.bool (probB m s && mixB m s ws ns 4)))), .one (.b (.val (.bool (probB m s))))])) := by
  refine spec_imm Tryz.func7 rfl Tryz.ntmps7 cfOK (fun _ _ => by kernel_rfl) rfl (Nat.le_of_ble_eq_true rfl) ?_
  intro M0 w0
  rw [Tryz.results7]
  (repeat (first | refine g1 ?_ | refine g2 ?_ | ((first | refine g3 ?_ | refine g4 ?_ | refine g5 ?_); try simp only [xq, simprocAttr]) | ((first | refine g6 ?_ | refine g7 ?_); simp only [xr, simprocAttr]; repeat (guard_target =~ _ ∧ _; refine ⟨by first | trivial | (unfold I64; omega) | omega | (simp <;> omega) | (intros; omega), ?_⟩))))
  ((try refine Or.inl ?_); refine ⟨_, (isProblem_d _ _), .inl rfl, ?_⟩; (try simp only [xr, simprocAttr]); repeat (guard_target =~ _ ∧ _; refine ⟨by first | trivial | (unfold I64; omega) | omega | (simp <;> omega) | (intros; omega), ?_⟩))
  (repeat (first | refine g1 ?_ | refine g2 ?_ | ((first | refine g3 ?_ | refine g4 ?_ | refine g5 ?_); try simp only [xq, simprocAttr]) | ((first | refine g6 ?_ | refine g7 ?_); simp only [xr, simprocAttr]; repeat (guard_target =~ _ ∧ _; refine ⟨by first | trivial | (unfold I64; omega) | omega | (simp <;> omega) | (intros; omega), ?_⟩))))
  refine awp_cond (by first | rfl | (simp only [xr, simprocAttr]; rfl)) (fun hc => ?_) (fun hc => ?_)
  · simp only [Bool.not_eq_true'] at hc
    (repeat (first | refine g1 ?_ | refine g2 ?_ | ((first | refine g3 ?_ | refine g4 ?_ | refine g5 ?_); try simp only [xq, simprocAttr]) | ((first | refine g6 ?_ | refine g7 ?_); simp only [xr, simprocAttr]; repeat (guard_target =~ _ ∧ _; refine ⟨by first | trivial | (unfold I64; omega) | omega | (simp <;> omega) | (intros; omega), ?_⟩))))
    (simp only [xe, simprocAttr]; refine ⟨[_, _], ⟨rfl, rfl, trivial⟩, rfl, Imp.eq ?_⟩)
    rw [hc]
    rfl
  · simp only [Bool.not_eq_false'] at hc
    (repeat (first | refine g1 ?_ | refine g2 ?_ | ((first | refine g3 ?_ | refine g4 ?_ | refine g5 ?_); try simp only [xq, simprocAttr]) | ((first | refine g6 ?_ | refine g7 ?_); simp only [xr, simprocAttr]; repeat (guard_target =~ _ ∧ _; refine ⟨by first | trivial | (unfold I64; omega) | omega | (simp <;> omega) | (intros; omega), ?_⟩))))
    ((try refine Or.inl ?_); refine ⟨_, (isMixture_d _ _ _ _ (prob_rows hc)), .inl rfl, ?_⟩; (try simp only [xr, simprocAttr]); repeat (guard_target =~ _ ∧ _; refine ⟨by first | trivial | (unfold I64; omega) | omega | (simp <;> omega) | (intros; omega), ?_⟩))
    (repeat (first | refine g1 ?_ | refine g2 ?_ | ((first | refine g3 ?_ | refine g4 ?_ | refine g5 ?_); try simp only [xq, simprocAttr]) | ((first | refine g6 ?_ | refine g7 ?_); simp only [xr, simprocAttr]; repeat (guard_target =~ _ ∧ _; refine ⟨by first | trivial | (unfold I64; omega) | omega | (simp <;> omega) | (intros; omega), ?_⟩))))
    (simp only [xe, simprocAttr]; refine ⟨[_, _], ⟨rfl, rfl, trivial⟩, rfl, Imp.eq ?_⟩)
    rw [hc]
    rfl
end Go.Proofs.YtcidddfjimbkbaaGreat
