/- Algorithms and mixtures, on the machine. Conditions: problems that are right. -/
import Derived.Test.YtlhdeofkhajigaaME
import Derived.Test.YtlhdeofkhajigaaOA
import Derived.Test.YtlhdeofkhajigaaPS
set_option linter.all false
set_option linter.unusedSimpArgs false
set_option linter.unusedVariables false
namespace Go.Proofs.Ytlhdeofkhajigaa
open Go Go.RowKit Am

theorem within_d (n lo hi : Int) : Does Try.prog 88 [.int n, .int lo, .int hi] (.imm (.bool (rng n lo hi))) := by
  refine spec_imm Try.func88 rfl Try.ntmps88 cfOK (fun _ _ => by kernel_rfl) rfl (Nat.le_of_ble_eq_true rfl) ?_
  intro M0 w0
  rw [Try.results88]
  refine amGo ?_
  (simp only [xe, simprocAttr]; refine ⟨_, rfl, rfl, Imp.eq ?_⟩)
  show AV.bool _ = AV.bool _
  congr
  by_cases h1 : lo ≤ n <;> by_cases h2 : n ≤ hi <;> simp [rng, h1, h2]
theorem l1In_d (n lo hi : Int) : Does Try.prog 72 [.int n, .int lo, .int hi] (.imm (.bool (rng n lo hi))) := by
  refine spec_imm Try.func72 rfl Try.ntmps72 cfOK (fun _ _ => by kernel_rfl) rfl (Nat.le_of_ble_eq_true rfl) ?_
  intro M0 w0
  rw [Try.results72]
  refine amGo ?_
  (simp only [xe, simprocAttr]; refine ⟨_, rfl, rfl, Imp.eq ?_⟩)
  show AV.bool _ = AV.bool _
  congr
  by_cases h1 : lo ≤ n <;> by_cases h2 : n ≤ hi <;> simp [rng, h1, h2]
theorem isState_d (m s : List (List Int)) (x : Int) : Does Try.prog 75 [prA m s, .int x] (.imm (.bool (rng x 0 ((m.length : Int) - 1)))) := by
  refine spec_imm Try.func75 rfl Try.ntmps75 cfOK (fun _ _ => by kernel_rfl) rfl (Nat.le_of_ble_eq_true rfl) ?_
  intro M0 w0
  rw [Try.results75]
  (refine awp_fits 0 rfl fun hf => ?_; simp only [xp, simprocAttr] at hf; simp only [xf, simprocAttr] at hf)
  refine amGo ?_
  ((try refine Or.inl ?_); refine ⟨_, (within_d _ _ _), .inl rfl, ?_⟩; refine amC ?_)
  refine amGo ?_
  (simp only [xe, simprocAttr]; refine ⟨_, rfl, rfl, Imp.eq ?_⟩)
  rfl
theorem areServed_d (m s : List (List Int)) (row : List Int) (hrow : ∀ r, r < s.length → (s.getD r []).length = m.length) : Does Try.prog 82 [prA m s, .sl (.ints row)] (.imm (.bool (servB m.length s row))) := by
  refine spec_imm Try.func82 rfl Try.ntmps82 cfOK (fun _ _ => by kernel_rfl) rfl (Nat.le_of_ble_eq_true rfl) ?_
  intro M0 w0
  rw [Try.results82]
  (refine awp_fits 0 rfl fun hf => ?_; simp only [xp, simprocAttr] at hf; simp only [xf, simprocAttr] at hf)
  (refine awp_fits 1 rfl fun hg => ?_; simp only [xp, simprocAttr] at hg; simp only [xf, simprocAttr] at hg)
  refine amGo ?_
  refine awp_cond amQ (fun hc => ?_) (fun hc => ?_)
  · have hn : row.length ≠ s.length := by simp at hc; omega
    refine amGo ?_
    (simp only [xe, simprocAttr]; refine ⟨_, rfl, rfl, Imp.eq ?_⟩)
    rw [servB_len hn]
  have hl : row.length = s.length := by simp at hc; omega
  refine amGo ?_
  refine awp_rounds (α := Nat) (fun k => [(15, true, .int k)]) [2, 13, 14] (fun _ => [.box [.b (.sl (.ii m)), .b (.sl (.ii s))]]) (fun k => k ≤ row.length ∧ ∀ r (hr : r < k), toOk m.length s r (row.getD r 0) = true) (fun k => row.length - k) 0 (by ((try simp only [xk]); (repeat (refine leK_cons ?_ ?_; first | (exact amE) | rotate_left)); (try exact leK_nil rfl); (all_goals (try (simp only [xr, simprocAttr]; try refine int_eq1 ?_))))) ⟨Nat.zero_le _, fun r hr => by omega⟩ fun k hk => ?_
  obtain ⟨hk, hp⟩ := hk
  simp only [xr, simprocAttr]
  refine amGo ?_
  refine awp_cond amQ (fun hd => ?_) (fun hd => ?_)
  · have hk' : k < row.length := by simpa using hd
    refine amGo ?_
    ((try refine Or.inl ?_); refine ⟨_, (isState_d _ _ _), .inl rfl, ?_⟩; refine amC ?_)
    have hr := hrow k (by omega)
    refine And.intro (fun h => ?_) ?_
    · have h := rng_iff.1 h
      exact ⟨by decide, h.1, by omega⟩
    refine amS ?_
    refine awp_cond amQ (fun he => ?_) (fun he => ?_)
    · have hn : toOk m.length s k (row.getD k 0) = false := by
        unfold toOk at2
        cases hq : rng (row.getD k 0) 0 ((m.length : Int) - 1)
        · rfl
        · rw [hq] at he
          simpa using he
      refine amGo ?_
      (simp only [xe, simprocAttr]; refine ⟨_, rfl, rfl, Imp.eq ?_⟩)
      rw [servB_no hk' (by rw [← getD_in (d := 0) hk']; exact hn)]
    · have hn : toOk m.length s k (row.getD k 0) = true := by
        unfold toOk at2
        cases hq : rng (row.getD k 0) 0 ((m.length : Int) - 1)
        · rw [hq] at he; cases he
        · rw [hq] at he
          simpa using he
      refine amGo ?_
      refine ⟨k + 1, by omega, fun r hr => ?_, by omega, .inl ?_⟩
      · rcases Nat.lt_or_ge r k with h1 | h1
        · exact hp r h1
        · rw [show r = k by omega]; exact hn
      · ((try simp only [xk]); (repeat (refine leK_cons ?_ ?_; first | (exact amE) | rotate_left)); (try exact leK_nil rfl); (all_goals (try (simp only [xr, simprocAttr]; try refine int_eq1 ?_))))
  · have hk' : k = row.length := by simp at hd; omega
    subst hk'
    refine amGo ?_
    (simp only [xe, simprocAttr]; refine ⟨_, rfl, rfl, Imp.eq ?_⟩)
    rw [servB_yes hl fun r hr => by rw [← getD_in (d := 0) hr]; exact hp r hr]
theorem isAlgorithm1_d (m s : List (List Int)) (row : List Int) (hrow : ∀ r, r < s.length → (s.getD r []).length = m.length) : Does Try.prog 81 [.sl (.ints row), .lf (.ip [.sl (.ii m), .sl (.ii s)] 0)] (.imm (.bool (!servB m.length s row))) := by
  refine spec_imm Try.func81 rfl Try.ntmps81 cfOK (fun _ _ => by kernel_rfl) rfl (Nat.le_of_ble_eq_true rfl) ?_
  intro M0 w0
  rw [Try.results81]
  refine amGo ?_
  ((try refine Or.inl ?_); refine ⟨_, (areServed_d _ _ _ hrow), .inl rfl, ?_⟩; refine amC ?_)
  refine amGo ?_
  (simp only [xe, simprocAttr]; refine ⟨_, rfl, rfl, Imp.eq ?_⟩)
  rfl
theorem isAlgorithm_d (m s next : List (List Int)) (hrow : ∀ r, r < s.length → (s.getD r []).length = m.length) : Does Try.prog 57 [prA m s, .sl (.ii next)] (.imm (.bool (algB m s next))) := by
  refine spec_imm Try.func57 rfl Try.ntmps57 cfOK (fun _ _ => by kernel_rfl) rfl (Nat.le_of_ble_eq_true rfl) ?_
  intro M0 w0
  rw [Try.results57]
  refine amGo ?_
  ((try refine Or.inl ?_); refine ⟨_, (fun _ => containsFuncII_d next _ [.ip [.sl (.ii m), .sl (.ii s)] 0] (fun r => !servB m.length s r) rfl fun j hj => isAlgorithm1_d m s _ hrow), .inl rfl, ?_⟩; refine amC ?_)
  refine amGo ?_
  (simp only [xe, simprocAttr]; refine ⟨_, rfl, rfl, Imp.eq ?_⟩)
  have e : (!next.any fun r => !servB m.length s r) = next.all (servB m.length s) := by rw [List.not_any_eq_all_not]; simp
  show AV.bool _ = AV.bool _
  rw [e]
  unfold algB
  congr 1
  by_cases h : next.length = m.length
  · simp [h]
  · have : ¬ ((next.length : Int) = m.length) := by omega
    simp [h, this]
theorem dec_len (a b : Nat) : decide ((a : Int) = b) = (a == b) := by rw [Bool.eq_iff_iff, decide_eq_true_eq, beq_iff_eq]; omega
theorem any_not {α : Type} (p : α → Bool) (xs : List α) : (!xs.any fun x => !p x) = xs.all p := by rw [List.not_any_eq_all_not]; simp
theorem isProblem_d (m s : List (List Int)) : Does Try.prog 74 [prA m s] (.imm (.bool (probB m s))) :=
  does_val (fun _ _ => by kernel_rfl) fun M w us hm ha => by
    obtain ⟨u, us', rfl, h1, h2⟩ := args_inv ha
    obtain rfl := args_inv0 h2
    obtain ⟨a, b, rfl, h3, h4⟩ := ls_two h1
    exact isProblem_any w _ m s ⟨a, b, rfl, sl_of_sii hm h3, sl_of_sii hm h4⟩
theorem l8Good_d (m s : List (List Int)) : Does Try.prog 71 [prA m s] (.imm (.bool (probB m s))) :=
  does_val (fun _ _ => by kernel_rfl) fun M w us hm ha => by
    obtain ⟨u, us', rfl, h1, h2⟩ := args_inv ha
    obtain rfl := args_inv0 h2
    obtain ⟨a, b, rfl, h3, h4⟩ := ls_two h1
    exact l8Good_any w _ m s ⟨a, b, rfl, sl_of_sii hm h3, sl_of_sii hm h4⟩
theorem prob_rows {m s : List (List Int)} (h : probB m s = true) : ∀ r, r < s.length → (s.getD r []).length = m.length := fun r hr => by
  unfold probB at h
  simp only [Bool.and_eq_true, List.all_eq_true] at h
  have := h.2 _ (List.getElem_mem hr)
  unfold reqB at this
  simp only [Bool.and_eq_true, beq_iff_eq] at this
  rw [getD_in hr]
  exact this.1.1
end Go.Proofs.Ytlhdeofkhajigaa
