/- Costs, served states, sums, and what is started, on the machine. Conditions: problems that are right. -/
import Derived.Test.YtcidddfjimbkbaaGreatMix
import Derived.Test.YtcidddfjimbkbaaGreatSums
import Derived.Test.YtcidddfjimbkbaaGreatTakes
set_option linter.all false
set_option linter.unusedSimpArgs false
set_option linter.unusedVariables false
namespace Go.Proofs.YtcidddfjimbkbaaGreat
open Go Go.RowKit Am

/-- other arguments that stand for the same -/
theorem Does.args {P : Program} {f : Nat} {xs ys : List AV} {r : Res} (h : Does P f ys r) (k : ∀ M us, ArgsRel M xs us → ArgsRel M ys us) : Does P f xs r := ⟨h.1, fun M w us hm ha => h.2 M w us hm (k M us ha)⟩
theorem nil_ints {M : Am.Mem} {u : Value} (h : (AV.val (.slice none 0 0)).rel noφ M u) : (AV.sl (.ints [])).rel noφ M u := by
  obtain rfl : u = .slice none 0 0 := h
  exact nil_rel (c := .ints []) rfl trivial
theorem prob_len {m s : List (List Int)} (h : probB m s = true) : 1 ≤ m.length ∧ m.length ≤ 4 ∧ 1 ≤ s.length ∧ s.length ≤ 4 := by
  have h1 : rng m.length 1 4 = true := by
    cases q : rng m.length 1 4
    · rw [probB_1 q] at h; cases h
    · rfl
  have h2 : rng s.length 1 4 = true := by
    cases q : rng s.length 1 4
    · rw [probB_3 q] at h; cases h
    · rfl
  have h1 := rng_iff.1 h1
  have h2 := rng_iff.1 h2
  omega
theorem prob_met {m s : List (List Int)} (h : probB m s = true) : metB m = true := by
  cases q : metB m
  · rw [probB_2 q] at h; cases h
  · rfl
theorem sum_getD (xs : List Int) (k : Nat) : (xs.take (k + 1)).sum = (xs.take k).sum + xs.getD k 0 := by
  by_cases h : k < xs.length
  · rw [sum_take_succ _ _ h]; simp [h]
  · rw [List.take_of_length_le (by omega), List.take_of_length_le (by omega)]; simp [h]
theorem total_d (xs : List Int) (hs : SumFits xs) : Does Tryz.prog 46 [.sl (.ints xs)] (.imm (.int xs.sum)) := by
  refine spec_imm Tryz.func46 rfl Tryz.ntmps46 cfOK (fun _ _ => by kernel_rfl) rfl (Nat.le_of_ble_eq_true rfl) ?_
  intro M0 w0
  rw [Tryz.results46]
  (refine awp_fits 0 rfl fun hf => ?_; simp only [xp, simprocAttr] at hf; simp only [xf, simprocAttr] at hf)
  (repeat (first | refine g1 ?_ | refine g2 ?_ | ((first | refine g3 ?_ | refine g4 ?_ | refine g5 ?_); try simp only [xq, simprocAttr]) | ((first | refine g6 ?_ | refine g7 ?_); simp only [xr, simprocAttr]; repeat (guard_target =~ _ ∧ _; refine ⟨by first | trivial | (unfold I64; omega) | omega | (simp <;> omega) | (intros; omega), ?_⟩))))
  refine awp_rounds (α := Nat) (fun k => [(3, true, .int (xs.take k).sum), (8, true, .int k)]) [6, 7] (fun _ => []) (fun k => k ≤ xs.length) (fun k => xs.length - k) 0 (by ((try simp only [xk]); (repeat (refine leK_cons ?_ ?_; first | (focus (first | rfl | (simp only [xr, simprocAttr]; done) | (simp only [xr, simprocAttr]; refine int_eq1 ?_; first | trivial | (unfold I64; omega) | omega | (simp <;> omega) | (intros; omega)))) | rotate_left)); (try exact leK_nil rfl); (all_goals (try (simp only [xr, simprocAttr]; try refine int_eq1 ?_))))) (Nat.zero_le _) fun k hk => ?_
  simp only [xr, simprocAttr]
  (repeat (first | refine g1 ?_ | refine g2 ?_ | ((first | refine g3 ?_ | refine g4 ?_ | refine g5 ?_); try simp only [xq, simprocAttr]) | ((first | refine g6 ?_ | refine g7 ?_); simp only [xr, simprocAttr]; repeat (guard_target =~ _ ∧ _; refine ⟨by first | trivial | (unfold I64; omega) | omega | (simp <;> omega) | (intros; omega), ?_⟩))))
  refine awp_cond (by first | rfl | (simp only [xr, simprocAttr]; rfl)) (fun hc => ?_) (fun hc => ?_)
  · have hk' : k < xs.length := by simpa using hc
    have h0 := hs (k + 1) (by omega)
    rw [sum_getD] at h0
    (repeat (first | refine g1 ?_ | refine g2 ?_ | ((first | refine g3 ?_ | refine g4 ?_ | refine g5 ?_); try simp only [xq, simprocAttr]) | ((first | refine g6 ?_ | refine g7 ?_); simp only [xr, simprocAttr]; repeat (guard_target =~ _ ∧ _; refine ⟨by first | trivial | (unfold I64; omega) | omega | (simp <;> omega) | (intros; omega), ?_⟩))))
    refine ⟨k + 1, by omega, by omega, .inl ?_⟩
    ((try simp only [xk]); (repeat (refine leK_cons ?_ ?_; first | (focus (first | rfl | (simp only [xr, simprocAttr]; done) | (simp only [xr, simprocAttr]; refine int_eq1 ?_; first | trivial | (unfold I64; omega) | omega | (simp <;> omega) | (intros; omega)))) | rotate_left)); (try exact leK_nil rfl); (all_goals (try (simp only [xr, simprocAttr]; try refine int_eq1 ?_))))
    exact (sum_getD _ _).symm
  · have hk' : k = xs.length := by simp at hc; omega
    subst hk'
    (repeat (first | refine g1 ?_ | refine g2 ?_ | ((first | refine g3 ?_ | refine g4 ?_ | refine g5 ?_); try simp only [xq, simprocAttr]) | ((first | refine g6 ?_ | refine g7 ?_); simp only [xr, simprocAttr]; repeat (guard_target =~ _ ∧ _; refine ⟨by first | trivial | (unfold I64; omega) | omega | (simp <;> omega) | (intros; omega), ?_⟩))))
    (simp only [xe, simprocAttr]; refine ⟨_, rfl, rfl, Imp.eq ?_⟩)
    simp
theorem l11Sum_d (xs : List Int) (hs : SumFits xs) : Does Tryz.prog 53 [.sl (.ints xs)] (.imm (.int xs.sum)) := by
  refine spec_imm Tryz.func53 rfl Tryz.ntmps53 cfOK (fun _ _ => by kernel_rfl) rfl (Nat.le_of_ble_eq_true rfl) ?_
  intro M0 w0
  rw [Tryz.results53]
  (refine awp_fits 0 rfl fun hf => ?_; simp only [xp, simprocAttr] at hf; simp only [xf, simprocAttr] at hf)
  (repeat (first | refine g1 ?_ | refine g2 ?_ | ((first | refine g3 ?_ | refine g4 ?_ | refine g5 ?_); try simp only [xq, simprocAttr]) | ((first | refine g6 ?_ | refine g7 ?_); simp only [xr, simprocAttr]; repeat (guard_target =~ _ ∧ _; refine ⟨by first | trivial | (unfold I64; omega) | omega | (simp <;> omega) | (intros; omega), ?_⟩))))
  refine awp_rounds (α := Nat) (fun k => [(3, true, .int (xs.take k).sum), (4, true, .int k)]) [0] (fun _ => []) (fun k => k ≤ xs.length) (fun k => xs.length - k) 0 (by ((try simp only [xk]); (repeat (refine leK_cons ?_ ?_; first | (focus (first | rfl | (simp only [xr, simprocAttr]; done) | (simp only [xr, simprocAttr]; refine int_eq1 ?_; first | trivial | (unfold I64; omega) | omega | (simp <;> omega) | (intros; omega)))) | rotate_left)); (try exact leK_nil rfl); (all_goals (try (simp only [xr, simprocAttr]; try refine int_eq1 ?_))))) (Nat.zero_le _) fun k hk => ?_
  simp only [xr, simprocAttr]
  (repeat (first | refine g1 ?_ | refine g2 ?_ | ((first | refine g3 ?_ | refine g4 ?_ | refine g5 ?_); try simp only [xq, simprocAttr]) | ((first | refine g6 ?_ | refine g7 ?_); simp only [xr, simprocAttr]; repeat (guard_target =~ _ ∧ _; refine ⟨by first | trivial | (unfold I64; omega) | omega | (simp <;> omega) | (intros; omega), ?_⟩))))
  refine awp_cond (by first | rfl | (simp only [xr, simprocAttr]; rfl)) (fun hc => ?_) (fun hc => ?_)
  · have hk' : k < xs.length := by simpa using hc
    have h0 := hs (k + 1) (by omega)
    rw [sum_getD] at h0
    (repeat (first | refine g1 ?_ | refine g2 ?_ | ((first | refine g3 ?_ | refine g4 ?_ | refine g5 ?_); try simp only [xq, simprocAttr]) | ((first | refine g6 ?_ | refine g7 ?_); simp only [xr, simprocAttr]; repeat (guard_target =~ _ ∧ _; refine ⟨by first | trivial | (unfold I64; omega) | omega | (simp <;> omega) | (intros; omega), ?_⟩))))
    refine ⟨k + 1, by omega, by omega, .inl ?_⟩
    ((try simp only [xk]); (repeat (refine leK_cons ?_ ?_; first | (focus (first | rfl | (simp only [xr, simprocAttr]; done) | (simp only [xr, simprocAttr]; refine int_eq1 ?_; first | trivial | (unfold I64; omega) | omega | (simp <;> omega) | (intros; omega)))) | rotate_left)); (try exact leK_nil rfl); (all_goals (try (simp only [xr, simprocAttr]; try refine int_eq1 ?_))))
    exact (sum_getD _ _).symm
  · have hk' : k = xs.length := by simp at hc; omega
    subst hk'
    (repeat (first | refine g1 ?_ | refine g2 ?_ | ((first | refine g3 ?_ | refine g4 ?_ | refine g5 ?_); try simp only [xq, simprocAttr]) | ((first | refine g6 ?_ | refine g7 ?_); simp only [xr, simprocAttr]; repeat (guard_target =~ _ ∧ _; refine ⟨by first | trivial | (unfold I64; omega) | omega | (simp <;> omega) | (intros; omega), ?_⟩))))
    (simp only [xe, simprocAttr]; refine ⟨_, rfl, rfl, Imp.eq ?_⟩)
    simp
/-! ### served states -/
def srv (s : List (List Int)) (n r : Nat) : List Int := ((List.range n).filter fun y => decide (0 ≤ at2 s r y)).map fun (y : Nat) => (y : Int)
theorem srv_step (s : List (List Int)) (n r : Nat) : srv s (n + 1) r = if 0 ≤ at2 s r n then srv s n r ++ [(n : Int)] else srv s n r := by
  unfold srv
  rw [List.range_succ, List.filter_append]
  by_cases h : 0 ≤ at2 s r n <;> simp [h]
theorem srv_len (s : List (List Int)) (n r : Nat) : (srv s n r).length ≤ n := by
  unfold srv
  rw [List.length_map]
  exact Nat.le_trans (List.length_filter_le _ _) (by simp)
theorem served_d (m s : List (List Int)) (r : Nat) (hr : r < s.length) (hrow : (s.getD r []).length = m.length) (hm : m.length ≤ 1000) : Does Tryz.prog 155 [prA m s, .int r] (.imm (.sl (.ints (srv s m.length r)))) := by
  refine spec_imm Tryz.func155 rfl Tryz.ntmps155 cfOK (fun _ _ => by kernel_rfl) rfl (Nat.le_of_ble_eq_true rfl) ?_
  intro M0 w0
  rw [Tryz.results155]
  (repeat (first | refine g1 ?_ | refine g2 ?_ | ((first | refine g3 ?_ | refine g4 ?_ | refine g5 ?_); try simp only [xq, simprocAttr]) | ((first | refine g6 ?_ | refine g7 ?_); simp only [xr, simprocAttr]; repeat (guard_target =~ _ ∧ _; refine ⟨by first | trivial | (unfold I64; omega) | omega | (simp <;> omega) | (intros; omega), ?_⟩))))
  refine awp_rounds (α := Nat) (fun k => [(15, true, .int k)]) [2, 5, 13, 14] (fun k => [.box [.b (.sl (.ii m)), .b (.sl (.ii s))], .row 3 (.ints (srv s k r))]) (fun k => k ≤ m.length) (fun k => m.length - k) 0 (by ((try simp only [xk]); (repeat (refine leK_cons ?_ ?_; first | (focus (first | rfl | (simp only [xr, simprocAttr]; done) | (simp only [xr, simprocAttr]; refine int_eq1 ?_; first | trivial | (unfold I64; omega) | omega | (simp <;> omega) | (intros; omega)))) | rotate_left)); (try exact leK_nil rfl); (all_goals (try (simp only [xr, simprocAttr]; try refine int_eq1 ?_))))) (Nat.zero_le _) fun k hk => ?_
  have hl := srv_len s k r
  simp only [xr, simprocAttr]
  (repeat (first | refine g1 ?_ | refine g2 ?_ | ((first | refine g3 ?_ | refine g4 ?_ | refine g5 ?_); try simp only [xq, simprocAttr]) | ((first | refine g6 ?_ | refine g7 ?_); simp only [xr, simprocAttr]; repeat (guard_target =~ _ ∧ _; refine ⟨by first | trivial | (unfold I64; omega) | omega | (simp <;> omega) | (intros; omega), ?_⟩))))
  refine awp_cond (by first | rfl | (simp only [xr, simprocAttr]; rfl)) (fun hc => ?_) (fun hc => ?_)
  · have hk' : k < m.length := by have hc := of_decide_eq_true hc; omega
    (repeat (first | refine g1 ?_ | refine g2 ?_ | ((first | refine g3 ?_ | refine g4 ?_ | refine g5 ?_); try simp only [xq, simprocAttr]) | ((first | refine g6 ?_ | refine g7 ?_); simp only [xr, simprocAttr]; repeat (guard_target =~ _ ∧ _; refine ⟨by first | trivial | (unfold I64; omega) | omega | (simp <;> omega) | (intros; omega), ?_⟩))))
    refine awp_cond (by first | rfl | (simp only [xr, simprocAttr]; rfl)) (fun hd => ?_) (fun hd => ?_)
    · have hd : 0 ≤ at2 s r k := by simpa [at2] using hd
      (repeat (first | refine g1 ?_ | refine g2 ?_ | ((first | refine g3 ?_ | refine g4 ?_ | refine g5 ?_); try simp only [xq, simprocAttr]) | ((first | refine g6 ?_ | refine g7 ?_); simp only [xr, simprocAttr]; repeat (guard_target =~ _ ∧ _; refine ⟨by first | trivial | (unfold I64; omega) | omega | (simp <;> omega) | (intros; omega), ?_⟩))))
      refine ⟨k + 1, by omega, by omega, .inl ?_⟩
      ((try simp only [xk]); (repeat (refine leK_cons ?_ ?_; first | (focus (first | rfl | (simp only [xr, simprocAttr]; done) | (simp only [xr, simprocAttr]; refine int_eq1 ?_; first | trivial | (unfold I64; omega) | omega | (simp <;> omega) | (intros; omega)))) | rotate_left)); (refine leK_nil ?_; exact (by rw [srv_step, if_pos hd])); (all_goals (try (simp only [xr, simprocAttr]; try refine int_eq1 ?_))))
    · have hd : ¬ 0 ≤ at2 s r k := by simpa [at2] using hd
      (repeat (first | refine g1 ?_ | refine g2 ?_ | ((first | refine g3 ?_ | refine g4 ?_ | refine g5 ?_); try simp only [xq, simprocAttr]) | ((first | refine g6 ?_ | refine g7 ?_); simp only [xr, simprocAttr]; repeat (guard_target =~ _ ∧ _; refine ⟨by first | trivial | (unfold I64; omega) | omega | (simp <;> omega) | (intros; omega), ?_⟩))))
      refine ⟨k + 1, by omega, by omega, .inl ?_⟩
      ((try simp only [xk]); (repeat (refine leK_cons ?_ ?_; first | (focus (first | rfl | (simp only [xr, simprocAttr]; done) | (simp only [xr, simprocAttr]; refine int_eq1 ?_; first | trivial | (unfold I64; omega) | omega | (simp <;> omega) | (intros; omega)))) | rotate_left)); (refine leK_nil ?_; exact (by rw [srv_step, if_neg hd])); (all_goals (try (simp only [xr, simprocAttr]; try refine int_eq1 ?_))))
  · have hk' : k = m.length := by have hc := of_decide_eq_false hc; omega
    subst hk'
    (repeat (first | refine g1 ?_ | refine g2 ?_ | ((first | refine g3 ?_ | refine g4 ?_); try simp only [xq, simprocAttr]) | ((first | refine g6 ?_ | refine g7 ?_); simp only [xr, simprocAttr]; repeat (guard_target =~ _ ∧ _; refine ⟨by first | trivial | (unfold I64; omega) | omega | (simp <;> omega) | (intros; omega), ?_⟩))))
    (refine awp_frz 1 rfl ?_; simp only [xz, simprocAttr])
    (repeat (first | refine g1 ?_ | refine g2 ?_ | ((first | refine g3 ?_ | refine g4 ?_ | refine g5 ?_); try simp only [xq, simprocAttr]) | ((first | refine g6 ?_ | refine g7 ?_); simp only [xr, simprocAttr]; repeat (guard_target =~ _ ∧ _; refine ⟨by first | trivial | (unfold I64; omega) | omega | (simp <;> omega) | (intros; omega), ?_⟩))))
    (simp only [xe, simprocAttr]; refine ⟨_, rfl, rfl, Imp.eq ?_⟩)
    rfl
theorem prob_m {m s : List (List Int)} (h : probB m s = true) {x : Nat} (hx : x < m.length) : (m.getD x []).length = m.length ∧ ∀ y, y < m.length → 0 ≤ at2 m x y ∧ at2 m x y ≤ 99 := by
  have h1 := prob_met h
  unfold metB at h1
  simp only [Bool.and_eq_true] at h1
  have h2 := h1.1
  unfold tableB at h2
  simp only [Bool.and_eq_true] at h2
  refine ⟨?_, fun y hy => tab_bound h2.2 hx hy⟩
  rw [getD_in hx]
  exact sqB_iff.1 h2.1.2 _ (List.getElem_mem hx)
theorem prob_s {m s : List (List Int)} (h : probB m s = true) {r : Nat} (hr : r < s.length) : ∀ y, y < m.length → -1 ≤ at2 s r y ∧ at2 s r y ≤ 20 := fun y hy => by
  unfold probB at h
  simp only [Bool.and_eq_true, List.all_eq_true] at h
  have h1 := h.2 _ (List.getElem_mem hr)
  unfold reqB at h1
  simp only [Bool.and_eq_true, beq_iff_eq] at h1
  have hy' : y < s[r].length := by omega
  have h2 := allIn_iff.1 h1.1.2 _ (List.getElem_mem hy')
  rw [at2_eq hr hy']
  exact h2
theorem cost_d (m s : List (List Int)) (x y r : Nat) (hp : probB m s = true) (hx : x < m.length) (hy : y < m.length) (hr : r < s.length) : Does Tryz.prog 115 [prA m s, .int x, .int y, .int r] (.imm (.int (at2 m x y + at2 s r y))) := by
  refine spec_imm Tryz.func115 rfl Tryz.ntmps115 cfOK (fun _ _ => by kernel_rfl) rfl (Nat.le_of_ble_eq_true rfl) ?_
  intro M0 w0
  rw [Tryz.results115]
  have h1 := prob_rows hp r hr
  have h2 := prob_m hp hx
  have h3 := h2.2 y hy
  have h4 := prob_s hp hr y hy
  have h5 := h2.1
  unfold at2 at h3 h4
  (repeat (first | refine g1 ?_ | refine g2 ?_ | ((first | refine g3 ?_ | refine g4 ?_ | refine g5 ?_); try simp only [xq, simprocAttr]) | ((first | refine g6 ?_ | refine g7 ?_); simp only [xr, simprocAttr]; repeat (guard_target =~ _ ∧ _; refine ⟨by first | trivial | (unfold I64; omega) | omega | (simp <;> omega) | (intros; omega), ?_⟩))))
  (simp only [xe, simprocAttr]; refine ⟨_, rfl, rfl, Imp.eq ?_⟩)
  rfl
/-! ### starts -/
theorem isSequence_d (m s : List (List Int)) (xs : List Int) : Does Tryz.prog 85 [prA m s, .sl (.ints xs)] (.imm (.bool (seqB s.length xs))) :=
  does_val (fun _ _ => by kernel_rfl) fun M w us hm ha => by
    obtain ⟨u, us', rfl, h1, h2⟩ := args_inv ha
    obtain ⟨u', us'', rfl, h3, h4⟩ := args_inv h2
    obtain rfl := args_inv0 h4
    obtain ⟨a, b, rfl, h5, h6⟩ := ls_two h1
    exact isSequence_any w _ u' m s xs ⟨a, b, rfl, sl_of_sii hm h5, sl_of_sii hm h6⟩ (sl_of_si hm h3)
theorem l8Takes_d (m s : List (List Int)) (x : Int) (xs : List Int) : Does Tryz.prog 47 [prA m s, .int x, .sl (.ints xs)] (.imm (.bool (takesB m s x xs))) :=
  does_val (fun _ _ => by kernel_rfl) fun M w us hm ha => by
    obtain ⟨u, us', rfl, h1, h2⟩ := args_inv ha
    obtain ⟨u', us'', rfl, h3, h4⟩ := args_inv h2
    obtain ⟨u2, us3, rfl, h7, h8⟩ := args_inv h4
    obtain rfl := args_inv0 h8
    obtain rfl : u' = .int .i64 x := h3
    obtain ⟨a, b, rfl, h5, h6⟩ := ls_two h1
    exact l8Takes_any w _ u2 m s x xs ⟨a, b, rfl, sl_of_sii hm h5, sl_of_sii hm h6⟩ (sl_of_si hm h7)
theorem isStarted_d (m s : List (List Int)) (x : Int) (xs : List Int) : Does Tryz.prog 43 [prA m s, .int x, .sl (.ints xs)] (.imm (.bool (takesB m s x xs))) := by
  refine spec_imm Tryz.func43 rfl Tryz.ntmps43 cfOK (fun _ _ => by kernel_rfl) rfl (Nat.le_of_ble_eq_true rfl) ?_
  intro M0 w0
  rw [Tryz.results43]
  (repeat (first | refine g1 ?_ | refine g2 ?_ | ((first | refine g3 ?_ | refine g4 ?_ | refine g5 ?_); try simp only [xq, simprocAttr]) | ((first | refine g6 ?_ | refine g7 ?_); simp only [xr, simprocAttr]; repeat (guard_target =~ _ ∧ _; refine ⟨by first | trivial | (unfold I64; omega) | omega | (simp <;> omega) | (intros; omega), ?_⟩))))
  ((try refine Or.inl ?_); refine ⟨_, (isProblem_d _ _), .inl rfl, ?_⟩; (try simp only [xr, simprocAttr]); repeat (guard_target =~ _ ∧ _; refine ⟨by first | trivial | (unfold I64; omega) | omega | (simp <;> omega) | (intros; omega), ?_⟩))
  (repeat (first | refine g1 ?_ | refine g2 ?_ | ((first | refine g3 ?_ | refine g4 ?_ | refine g5 ?_); try simp only [xq, simprocAttr]) | ((first | refine g6 ?_ | refine g7 ?_); simp only [xr, simprocAttr]; repeat (guard_target =~ _ ∧ _; refine ⟨by first | trivial | (unfold I64; omega) | omega | (simp <;> omega) | (intros; omega), ?_⟩))))
  ((try refine Or.inl ?_); refine ⟨_, (fun _ => isState_d _ _ _), .inl rfl, ?_⟩; (try simp only [xr, simprocAttr]); repeat (guard_target =~ _ ∧ _; refine ⟨by first | trivial | (unfold I64; omega) | omega | (simp <;> omega) | (intros; omega), ?_⟩))
  (repeat (first | refine g1 ?_ | refine g2 ?_ | ((first | refine g3 ?_ | refine g4 ?_ | refine g5 ?_); try simp only [xq, simprocAttr]) | ((first | refine g6 ?_ | refine g7 ?_); simp only [xr, simprocAttr]; repeat (guard_target =~ _ ∧ _; refine ⟨by first | trivial | (unfold I64; omega) | omega | (simp <;> omega) | (intros; omega), ?_⟩))))
  ((try refine Or.inl ?_); refine ⟨_, (fun _ => isSequence_d _ _ _), .inl rfl, ?_⟩; (try simp only [xr, simprocAttr]); repeat (guard_target =~ _ ∧ _; refine ⟨by first | trivial | (unfold I64; omega) | omega | (simp <;> omega) | (intros; omega), ?_⟩))
  (repeat (first | refine g1 ?_ | refine g2 ?_ | ((first | refine g3 ?_ | refine g4 ?_ | refine g5 ?_); try simp only [xq, simprocAttr]) | ((first | refine g6 ?_ | refine g7 ?_); simp only [xr, simprocAttr]; repeat (guard_target =~ _ ∧ _; refine ⟨by first | trivial | (unfold I64; omega) | omega | (simp <;> omega) | (intros; omega), ?_⟩))))
  (simp only [xe, simprocAttr]; refine ⟨_, rfl, rfl, Imp.eq ?_⟩)
  show AV.bool _ = AV.bool _
  simp only [Bool.cond_false_right]
  rfl
end Go.Proofs.YtcidddfjimbkbaaGreat
