/- Costs, served states, sums, and what is started, on the machine. Conditions: problems that are right. -/
import Derived.Test.YtlhdeofkhajigaaMix
import Derived.Test.YtlhdeofkhajigaaSums
import Derived.Test.YtlhdeofkhajigaaTakes
set_option linter.all false
set_option linter.unusedSimpArgs false
set_option linter.unusedVariables false
namespace Go.Proofs.Ytlhdeofkhajigaa
open Go Go.RowKit Am

/-- other arguments that stand for the same -/
theorem Does.args {P : Program} {f : Nat} {xs ys : List AV} {r : Res} (h : Does P f ys r) (k : ∀ M us, ArgsRel M xs us → ArgsRel M ys us) : Does P f xs r := ⟨h.1, fun M w us hm ha => h.2 M w us hm (k M us ha)⟩
theorem nil_ints {M : Am.Mem} {u : Value} (h : (AV.val (.slice none 0 0)).rel noφ M u) : (AV.sl (.ints [])).rel noφ M u := by
  obtain rfl : u = .slice none 0 0 := h
  exact nil_rel (c := .ints []) rfl trivial
theorem prob_len {m s : List (List Int)} (h : probB m s = true) : 1 ≤ m.length ∧ m.length ≤ 4 ∧ 1 ≤ s.length ∧ s.length ≤ 4 := by
  have h1 : rng m.length 1 4 = true := by
    cases q : rng m.length 1 4
    · rw [probB_1 q] at h; cases h
    · rfl
  have h2 : rng s.length 1 4 = true := by
    cases q : rng s.length 1 4
    · rw [probB_3 q] at h; cases h
    · rfl
  have h1 := rng_iff.1 h1
  have h2 := rng_iff.1 h2
  omega
theorem prob_met {m s : List (List Int)} (h : probB m s = true) : metB m = true := by
  cases q : metB m
  · rw [probB_2 q] at h; cases h
  · rfl
theorem sum_getD (xs : List Int) (k : Nat) : (xs.take (k + 1)).sum = (xs.take k).sum + xs.getD k 0 := by
  by_cases h : k < xs.length
  · rw [sum_take_succ _ _ h]; simp [h]
  · rw [List.take_of_length_le (by omega), List.take_of_length_le (by omega)]; simp [h]
/-! ### served states -/
def srv (s : List (List Int)) (n r : Nat) : List Int := ((List.range n).filter fun y => decide (0 ≤ at2 s r y)).map fun (y : Nat) => (y : Int)
theorem srv_step (s : List (List Int)) (n r : Nat) : srv s (n + 1) r = if 0 ≤ at2 s r n then srv s n r ++ [(n : Int)] else srv s n r := by
  unfold srv
  rw [List.range_succ, List.filter_append]
  by_cases h : 0 ≤ at2 s r n <;> simp [h]
theorem srv_len (s : List (List Int)) (n r : Nat) : (srv s n r).length ≤ n := by
  unfold srv
  rw [List.length_map]
  exact Nat.le_trans (List.length_filter_le _ _) (by simp)
theorem served_d (m s : List (List Int)) (r : Nat) (hr : r < s.length) (hrow : (s.getD r []).length = m.length) (hm : m.length ≤ 1000) : Does Try.prog 50 [prA m s, .int r] (.imm (.sl (.ints (srv s m.length r)))) := by
  refine spec_imm Try.func50 rfl Try.ntmps50 cfOK (fun _ _ => by kernel_rfl) rfl (Nat.le_of_ble_eq_true rfl) ?_
  intro M0 w0
  rw [Try.results50]
  refine amGo ?_
  refine awp_rounds (α := Nat) (fun k => [(15, true, .int k)]) [2, 5, 13, 14] (fun k => [.box [.b (.sl (.ii m)), .b (.sl (.ii s))], .row 3 (.ints (srv s k r))]) (fun k => k ≤ m.length) (fun k => m.length - k) 0 (by ((try simp only [xk]); (repeat (refine leK_cons ?_ ?_; first | (exact amE) | rotate_left)); (try exact leK_nil rfl); (all_goals (try (simp only [xr, simprocAttr]; try refine int_eq1 ?_))))) (Nat.zero_le _) fun k hk => ?_
  have hl := srv_len s k r
  simp only [xr, simprocAttr]
  refine amGo ?_
  refine awp_cond amQ (fun hc => ?_) (fun hc => ?_)
  · have hk' : k < m.length := by have hc := of_decide_eq_true hc; omega
    refine amGo ?_
    refine awp_cond amQ (fun hd => ?_) (fun hd => ?_)
    · have hd : 0 ≤ at2 s r k := by simpa [at2] using hd
      refine amGo ?_
      refine ⟨k + 1, by omega, by omega, .inl ?_⟩
      ((try simp only [xk]); (repeat (refine leK_cons ?_ ?_; first | (exact amE) | rotate_left)); (refine leK_nil ?_; exact (by rw [srv_step, if_pos hd])); (all_goals (try (simp only [xr, simprocAttr]; try refine int_eq1 ?_))))
    · have hd : ¬ 0 ≤ at2 s r k := by simpa [at2] using hd
      refine amGo ?_
      refine ⟨k + 1, by omega, by omega, .inl ?_⟩
      ((try simp only [xk]); (repeat (refine leK_cons ?_ ?_; first | (exact amE) | rotate_left)); (refine leK_nil ?_; exact (by rw [srv_step, if_neg hd])); (all_goals (try (simp only [xr, simprocAttr]; try refine int_eq1 ?_))))
  · have hk' : k = m.length := by have hc := of_decide_eq_false hc; omega
    subst hk'
    refine amGoR ?_
    (refine awp_frz 1 rfl ?_; simp only [xz, simprocAttr])
    refine amGo ?_
    (simp only [xe, simprocAttr]; refine ⟨_, rfl, rfl, Imp.eq ?_⟩)
    rfl
theorem prob_m {m s : List (List Int)} (h : probB m s = true) {x : Nat} (hx : x < m.length) : (m.getD x []).length = m.length ∧ ∀ y, y < m.length → 0 ≤ at2 m x y ∧ at2 m x y ≤ 99 := by
  have h1 := prob_met h
  unfold metB at h1
  simp only [Bool.and_eq_true] at h1
  have h2 := h1.1
  unfold tableB at h2
  simp only [Bool.and_eq_true] at h2
  refine ⟨?_, fun y hy => tab_bound h2.2 hx hy⟩
  rw [getD_in hx]
  exact sqB_iff.1 h2.1.2 _ (List.getElem_mem hx)
theorem prob_s {m s : List (List Int)} (h : probB m s = true) {r : Nat} (hr : r < s.length) : ∀ y, y < m.length → -1 ≤ at2 s r y ∧ at2 s r y ≤ 20 := fun y hy => by
  unfold probB at h
  simp only [Bool.and_eq_true, List.all_eq_true] at h
  have h1 := h.2 _ (List.getElem_mem hr)
  unfold reqB at h1
  simp only [Bool.and_eq_true, beq_iff_eq] at h1
  have hy' : y < s[r].length := by omega
  have h2 := allIn_iff.1 h1.1.2 _ (List.getElem_mem hy')
  rw [at2_eq hr hy']
  exact h2
theorem cost_d (m s : List (List Int)) (x y r : Nat) (hp : probB m s = true) (hx : x < m.length) (hy : y < m.length) (hr : r < s.length) : Does Try.prog 60 [prA m s, .int x, .int y, .int r] (.imm (.int (at2 m x y + at2 s r y))) := by
  refine spec_imm Try.func60 rfl Try.ntmps60 cfOK (fun _ _ => by kernel_rfl) rfl (Nat.le_of_ble_eq_true rfl) ?_
  intro M0 w0
  rw [Try.results60]
  have h1 := prob_rows hp r hr
  have h2 := prob_m hp hx
  have h3 := h2.2 y hy
  have h4 := prob_s hp hr y hy
  have h5 := h2.1
  unfold at2 at h3 h4
  refine amGo ?_
  (simp only [xe, simprocAttr]; refine ⟨_, rfl, rfl, Imp.eq ?_⟩)
  rfl
/-! ### starts -/
theorem isSequence_d (m s : List (List Int)) (xs : List Int) : Does Try.prog 76 [prA m s, .sl (.ints xs)] (.imm (.bool (seqB s.length xs))) :=
  does_val (fun _ _ => by kernel_rfl) fun M w us hm ha => by
    obtain ⟨u, us', rfl, h1, h2⟩ := args_inv ha
    obtain ⟨u', us'', rfl, h3, h4⟩ := args_inv h2
    obtain rfl := args_inv0 h4
    obtain ⟨a, b, rfl, h5, h6⟩ := ls_two h1
    exact isSequence_any w _ u' m s xs ⟨a, b, rfl, sl_of_sii hm h5, sl_of_sii hm h6⟩ (sl_of_si hm h3)
theorem l8Takes_d (m s : List (List Int)) (x : Int) (xs : List Int) : Does Try.prog 42 [prA m s, .int x, .sl (.ints xs)] (.imm (.bool (takesB m s x xs))) :=
  does_val (fun _ _ => by kernel_rfl) fun M w us hm ha => by
    obtain ⟨u, us', rfl, h1, h2⟩ := args_inv ha
    obtain ⟨u', us'', rfl, h3, h4⟩ := args_inv h2
    obtain ⟨u2, us3, rfl, h7, h8⟩ := args_inv h4
    obtain rfl := args_inv0 h8
    obtain rfl : u' = .int .i64 x := h3
    obtain ⟨a, b, rfl, h5, h6⟩ := ls_two h1
    exact l8Takes_any w _ u2 m s x xs ⟨a, b, rfl, sl_of_sii hm h5, sl_of_sii hm h6⟩ (sl_of_si hm h7)
theorem isStarted_d (m s : List (List Int)) (x : Int) (xs : List Int) : Does Try.prog 46 [prA m s, .int x, .sl (.ints xs)] (.imm (.bool (takesB m s x xs))) := by
  refine spec_imm Try.func46 rfl Try.ntmps46 cfOK (fun _ _ => by kernel_rfl) rfl (Nat.le_of_ble_eq_true rfl) ?_
  intro M0 w0
  rw [Try.results46]
  refine amGo ?_
  ((try refine Or.inl ?_); refine ⟨_, (isProblem_d _ _), .inl rfl, ?_⟩; refine amC ?_)
  refine amGo ?_
  ((try refine Or.inl ?_); refine ⟨_, (fun _ => isState_d _ _ _), .inl rfl, ?_⟩; refine amC ?_)
  refine amGo ?_
  ((try refine Or.inl ?_); refine ⟨_, (fun _ => isSequence_d _ _ _), .inl rfl, ?_⟩; refine amC ?_)
  refine amGo ?_
  (simp only [xe, simprocAttr]; refine ⟨_, rfl, rfl, Imp.eq ?_⟩)
  show AV.bool _ = AV.bool _
  simp only [Bool.cond_false_right]
  rfl
theorem eqFrac_d (a b : Int × Int) : Does Try.prog 23 [frA a, frA b] (.imm (.bool (decide (a = b)))) := by
  refine spec_imm Try.func23 rfl Try.ntmps23 cfOK (fun _ _ => by kernel_rfl) rfl (Nat.le_of_ble_eq_true rfl) ?_
  intro M0 w0
  rw [Try.results23]
  refine amGo ?_
  refine awp_cond amQ (fun hc => ?_) (fun hc => ?_)
  · have hn : a ≠ b := fun e => by simp [e] at hc
    refine amGo ?_
    (simp only [xe, simprocAttr]; refine ⟨_, rfl, rfl, Imp.eq ?_⟩)
    rw [decide_eq_false hn]
  · have h1 : a.1 = b.1 := by simpa using hc
    refine amGo ?_
    refine awp_cond amQ (fun hd => ?_) (fun hd => ?_)
    · have hn : a ≠ b := fun e => by simp [e] at hd
      refine amGo ?_
      (simp only [xe, simprocAttr]; refine ⟨_, rfl, rfl, Imp.eq ?_⟩)
      rw [decide_eq_false hn]
    · have h2 : a.2 = b.2 := by simpa using hd
      refine amGo ?_
      (simp only [xe, simprocAttr]; refine ⟨_, rfl, rfl, Imp.eq ?_⟩)
      rw [decide_eq_true (Prod.ext h1 h2)]
end Go.Proofs.Ytlhdeofkhajigaa
