/- Costs, served states, sums, and what is started, on the machine. Conditions: problems that are right. -/
import Derived.Test.YtpihfeganpdjiaaMix
import Derived.Test.YtpihfeganpdjiaaSums
import Derived.Test.YtpihfeganpdjiaaTakes
set_option linter.all false
set_option linter.unusedSimpArgs false
set_option linter.unusedVariables false
namespace Go.Proofs.Ytpihfeganpdjiaa
open Go Go.RowKit Am

/-- other arguments that stand for the same -/
theorem Does.args {P : Program} {f : Nat} {xs ys : List AV} {r : Res} (h : Does P f ys r) (k : ∀ M us, ArgsRel M xs us → ArgsRel M ys us) : Does P f xs r := ⟨h.1, fun M w us hm ha => h.2 M w us hm (k M us ha)⟩
theorem nil_ints {M : Am.Mem} {u : Value} (h : (AV.val (.slice none 0 0)).rel noφ M u) : (AV.sl (.ints [])).rel noφ M u := by
  obtain rfl : u = .slice none 0 0 := h
  exact nil_rel (c := .ints []) rfl trivial
theorem prob_len {m s : List (List Int)} (h : probB m s = true) : 1 ≤ m.length ∧ m.length ≤ 4 ∧ 1 ≤ s.length ∧ s.length ≤ 4 := by
  have h1 : rng m.length 1 4 = true := by
    cases q : rng m.length 1 4
    · rw [probB_1 q] at h; cases h
    · rfl
  have h2 : rng s.length 1 4 = true := by
    cases q : rng s.length 1 4
    · rw [probB_3 q] at h; cases h
    · rfl
  have h1 := rng_iff.1 h1
  have h2 := rng_iff.1 h2
  omega
theorem prob_met {m s : List (List Int)} (h : probB m s = true) : metB m = true := by
  cases q : metB m
  · rw [probB_2 q] at h; cases h
  · rfl
theorem sum_getD (xs : List Int) (k : Nat) : (xs.take (k + 1)).sum = (xs.take k).sum + xs.getD k 0 := by
  by_cases h : k < xs.length
  · rw [sum_take_succ _ _ h]; simp [h]
  · rw [List.take_of_length_le (by omega), List.take_of_length_le (by omega)]; simp [h]
theorem total_d (xs : List Int) (hs : SumFits xs) : Does Try.prog 49 [.sl (.ints xs)] (.imm (.int xs.sum)) := by
  refine spec_imm Try.func49 rfl Try.ntmps49 cfOK (fun _ _ => by kernel_rfl) rfl (Nat.le_of_ble_eq_true rfl) ?_
  intro M0 w0
  rw [Try.results49]
  (refine awp_fits 0 rfl fun hf => ?_; simp only [xp, simprocAttr] at hf; simp only [xf, simprocAttr] at hf)
  (repeat (first | refine g1 ?_ | refine g2 ?_ | ((first | refine g3 ?_ | refine g4 ?_ | refine g5 ?_); try simp only [xq, simprocAttr]) | ((first | refine g6 ?_ | refine g7 ?_); simp only [xr, simprocAttr]; repeat (guard_target =~ _ ∧ _; refine ⟨by first | trivial | (unfold I64; omega) | omega | (simp <;> omega) | (intros; omega), ?_⟩))))
  refine awp_rounds (α := Nat) (fun k => [(3, true, .int (xs.take k).sum), (8, true, .int k)]) [6, 7] (fun _ => []) (fun k => k ≤ xs.length) (fun k => xs.length - k) 0 (by ((try simp only [xk]); (repeat (refine leK_cons ?_ ?_; first | (focus (first | rfl | (simp only [xr, simprocAttr]; done) | (simp only [xr, simprocAttr]; refine int_eq1 ?_; first | trivial | (unfold I64; omega) | omega | (simp <;> omega) | (intros; omega)))) | rotate_left)); (try exact leK_nil rfl); (all_goals (try (simp only [xr, simprocAttr]; try refine int_eq1 ?_))))) (Nat.zero_le _) fun k hk => ?_
  simp only [xr, simprocAttr]
  (repeat (first | refine g1 ?_ | refine g2 ?_ | ((first | refine g3 ?_ | refine g4 ?_ | refine g5 ?_); try simp only [xq, simprocAttr]) | ((first | refine g6 ?_ | refine g7 ?_); simp only [xr, simprocAttr]; repeat (guard_target =~ _ ∧ _; refine ⟨by first | trivial | (unfold I64; omega) | omega | (simp <;> omega) | (intros; omega), ?_⟩))))
  refine awp_cond (by first | rfl | (simp only [xr, simprocAttr]; rfl)) (fun hc => ?_) (fun hc => ?_)
  · have hk' : k < xs.length := by simpa using hc
    have h0 := hs (k + 1) (by omega)
    rw [sum_getD] at h0
    (repeat (first | refine g1 ?_ | refine g2 ?_ | ((first | refine g3 ?_ | refine g4 ?_ | refine g5 ?_); try simp only [xq, simprocAttr]) | ((first | refine g6 ?_ | refine g7 ?_); simp only [xr, simprocAttr]; repeat (guard_target =~ _ ∧ _; refine ⟨by first | trivial | (unfold I64; omega) | omega | (simp <;> omega) | (intros; omega), ?_⟩))))
    refine ⟨k + 1, by omega, by omega, .inl ?_⟩
    ((try simp only [xk]); (repeat (refine leK_cons ?_ ?_; first | (focus (first | rfl | (simp only [xr, simprocAttr]; done) | (simp only [xr, simprocAttr]; refine int_eq1 ?_; first | trivial | (unfold I64; omega) | omega | (simp <;> omega) | (intros; omega)))) | rotate_left)); (try exact leK_nil rfl); (all_goals (try (simp only [xr, simprocAttr]; try refine int_eq1 ?_))))
    exact (sum_getD _ _).symm
  · have hk' : k = xs.length := by simp at hc; omega
    subst hk'
    (repeat (first | refine g1 ?_ | refine g2 ?_ | ((first | refine g3 ?_ | refine g4 ?_ | refine g5 ?_); try simp only [xq, simprocAttr]) | ((first | refine g6 ?_ | refine g7 ?_); simp only [xr, simprocAttr]; repeat (guard_target =~ _ ∧ _; refine ⟨by first | trivial | (unfold I64; omega) | omega | (simp <;> omega) | (intros; omega), ?_⟩))))
    (simp only [xe, simprocAttr]; refine ⟨_, rfl, rfl, Imp.eq ?_⟩)
    simp
/-! ### served states -/
def srv (s : List (List Int)) (n r : Nat) : List Int := ((List.range n).filter fun y => decide (0 ≤ at2 s r y)).map fun (y : Nat) => (y : Int)
theorem srv_step (s : List (List Int)) (n r : Nat) : srv s (n + 1) r = if 0 ≤ at2 s r n then srv s n r ++ [(n : Int)] else srv s n r := by
  unfold srv
  rw [List.range_succ, List.filter_append]
  by_cases h : 0 ≤ at2 s r n <;> simp [h]
theorem srv_len (s : List (List Int)) (n r : Nat) : (srv s n r).length ≤ n := by
  unfold srv
  rw [List.length_map]
  exact Nat.le_trans (List.length_filter_le _ _) (by simp)
theorem prob_m {m s : List (List Int)} (h : probB m s = true) {x : Nat} (hx : x < m.length) : (m.getD x []).length = m.length ∧ ∀ y, y < m.length → 0 ≤ at2 m x y ∧ at2 m x y ≤ 99 := by
  have h1 := prob_met h
  unfold metB at h1
  simp only [Bool.and_eq_true] at h1
  have h2 := h1.1
  unfold tableB at h2
  simp only [Bool.and_eq_true] at h2
  refine ⟨?_, fun y hy => tab_bound h2.2 hx hy⟩
  rw [getD_in hx]
  exact sqB_iff.1 h2.1.2 _ (List.getElem_mem hx)
theorem prob_s {m s : List (List Int)} (h : probB m s = true) {r : Nat} (hr : r < s.length) : ∀ y, y < m.length → -1 ≤ at2 s r y ∧ at2 s r y ≤ 20 := fun y hy => by
  unfold probB at h
  simp only [Bool.and_eq_true, List.all_eq_true] at h
  have h1 := h.2 _ (List.getElem_mem hr)
  unfold reqB at h1
  simp only [Bool.and_eq_true, beq_iff_eq] at h1
  have hy' : y < s[r].length := by omega
  have h2 := allIn_iff.1 h1.1.2 _ (List.getElem_mem hy')
  rw [at2_eq hr hy']
  exact h2
theorem eqFrac_d (a b : Int × Int) : Does Try.prog 9 [frA a, frA b] (.imm (.bool (decide (a = b)))) := by
  refine spec_imm Try.func9 rfl Try.ntmps9 cfOK (fun _ _ => by kernel_rfl) rfl (Nat.le_of_ble_eq_true rfl) ?_
  intro M0 w0
  rw [Try.results9]
  (repeat (first | refine g1 ?_ | refine g2 ?_ | ((first | refine g3 ?_ | refine g4 ?_ | refine g5 ?_); try simp only [xq, simprocAttr]) | ((first | refine g6 ?_ | refine g7 ?_); simp only [xr, simprocAttr]; repeat (guard_target =~ _ ∧ _; refine ⟨by first | trivial | (unfold I64; omega) | omega | (simp <;> omega) | (intros; omega), ?_⟩))))
  refine awp_cond (by first | rfl | (simp only [xr, simprocAttr]; rfl)) (fun hc => ?_) (fun hc => ?_)
  · have hn : a ≠ b := fun e => by simp [e] at hc
    (repeat (first | refine g1 ?_ | refine g2 ?_ | ((first | refine g3 ?_ | refine g4 ?_ | refine g5 ?_); try simp only [xq, simprocAttr]) | ((first | refine g6 ?_ | refine g7 ?_); simp only [xr, simprocAttr]; repeat (guard_target =~ _ ∧ _; refine ⟨by first | trivial | (unfold I64; omega) | omega | (simp <;> omega) | (intros; omega), ?_⟩))))
    (simp only [xe, simprocAttr]; refine ⟨_, rfl, rfl, Imp.eq ?_⟩)
    rw [decide_eq_false hn]
  · have h1 : a.1 = b.1 := by simpa using hc
    (repeat (first | refine g1 ?_ | refine g2 ?_ | ((first | refine g3 ?_ | refine g4 ?_ | refine g5 ?_); try simp only [xq, simprocAttr]) | ((first | refine g6 ?_ | refine g7 ?_); simp only [xr, simprocAttr]; repeat (guard_target =~ _ ∧ _; refine ⟨by first | trivial | (unfold I64; omega) | omega | (simp <;> omega) | (intros; omega), ?_⟩))))
    refine awp_cond (by first | rfl | (simp only [xr, simprocAttr]; rfl)) (fun hd => ?_) (fun hd => ?_)
    · have hn : a ≠ b := fun e => by simp [e] at hd
      (repeat (first | refine g1 ?_ | refine g2 ?_ | ((first | refine g3 ?_ | refine g4 ?_ | refine g5 ?_); try simp only [xq, simprocAttr]) | ((first | refine g6 ?_ | refine g7 ?_); simp only [xr, simprocAttr]; repeat (guard_target =~ _ ∧ _; refine ⟨by first | trivial | (unfold I64; omega) | omega | (simp <;> omega) | (intros; omega), ?_⟩))))
      (simp only [xe, simprocAttr]; refine ⟨_, rfl, rfl, Imp.eq ?_⟩)
      rw [decide_eq_false hn]
    · have h2 : a.2 = b.2 := by simpa using hd
      (repeat (first | refine g1 ?_ | refine g2 ?_ | ((first | refine g3 ?_ | refine g4 ?_ | refine g5 ?_); try simp only [xq, simprocAttr]) | ((first | refine g6 ?_ | refine g7 ?_); simp only [xr, simprocAttr]; repeat (guard_target =~ _ ∧ _; refine ⟨by first | trivial | (unfold I64; omega) | omega | (simp <;> omega) | (intros; omega), ?_⟩))))
      (simp only [xe, simprocAttr]; refine ⟨_, rfl, rfl, Imp.eq ?_⟩)
      rw [decide_eq_true (Prod.ext h1 h2)]
end Go.Proofs.Ytpihfeganpdjiaa
