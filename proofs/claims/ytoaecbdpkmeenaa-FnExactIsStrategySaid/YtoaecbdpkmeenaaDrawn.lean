/- Chances and means, on the machine. Conditions: problems, algorithms and chances that are right. -/
import Derived.Test.YtoaecbdpkmeenaaMixed
import Derived.Test.YtoaecbdpkmeenaaChancesV
import Derived.Test.YtoaecbdpkmeenaaChancesS
namespace Go.Proofs.Ytoaecbdpkmeenaa
open Go Go.RowKit Am

theorem isChances_d (m s : List (List Int)) (ws : List Int) (qs : List (List Int)) : Does Try.prog 150 [prA m s, chA ws qs] (.imm (.bool (chB s.length ws qs))) :=
  does_val (fun _ _ => by kernel_rfl) fun M w us hm ha => by
    obtain ⟨u, us', rfl, h1, h2⟩ := args_inv ha
    obtain ⟨u', us'', rfl, h3, h4⟩ := args_inv h2
    obtain rfl := args_inv0 h4
    obtain ⟨a, b, rfl, h5, h6⟩ := ls_two h1
    obtain ⟨a', b', rfl, h7, h8⟩ := ls_two h3
    exact isChances_any w _ _ m s ws qs ⟨a, b, rfl, sl_of_sii hm h5, sl_of_sii hm h6⟩ ⟨a', b', rfl, sl_of_si hm h7, sl_of_sii hm h8⟩
theorem l11Chances_d (m s : List (List Int)) (ws : List Int) (qs : List (List Int)) : Does Try.prog 149 [prA m s, chA ws qs] (.imm (.bool (probB m s && chB s.length ws qs))) :=
  does_val (fun _ _ => by kernel_rfl) fun M w us hm ha => by
    obtain ⟨u, us', rfl, h1, h2⟩ := args_inv ha
    obtain ⟨u', us'', rfl, h3, h4⟩ := args_inv h2
    obtain rfl := args_inv0 h4
    obtain ⟨a, b, rfl, h5, h6⟩ := ls_two h1
    obtain ⟨a', b', rfl, h7, h8⟩ := ls_two h3
    exact l11Chances_any w _ _ m s ws qs ⟨a, b, rfl, sl_of_sii hm h5, sl_of_sii hm h6⟩ ⟨a', b', rfl, sl_of_si hm h7, sl_of_sii hm h8⟩
theorem isStarted_n (m s : List (List Int)) (x : Int) : Does Try.prog 85 [prA m s, .int x, .val (.slice none 0 0)] (.imm (.bool (takesB m s x []))) :=
  Does.args (isStarted_d m s x []) fun M us ha => by
    obtain ⟨u, us', rfl, h1, h2⟩ := args_inv ha
    obtain ⟨u', us'', rfl, h3, h4⟩ := args_inv h2
    obtain ⟨u2, us3, rfl, h5, h6⟩ := args_inv h4
    exact args_cons h1 (args_cons h3 (args_cons (nil_ints h5) h6))
theorem isDrawn_d (m s : List (List Int)) (x : Int) (ws : List Int) (qs : List (List Int)) : Does Try.prog 103 [prA m s, .int x, chA ws qs] (.imm (.bool (takesB m s x [] && chB s.length ws qs))) := by
  refine spec_imm Try.func103 rfl Try.ntmps103 cfOK (fun _ _ => by kernel_rfl) rfl (Nat.le_of_ble_eq_true rfl) ?_
  intro M0 w0
  rw [Try.results103]
  (repeat (first | refine awp_seq ?_ | refine awp_block ?_ | ((first | refine awp_skip ?_ | refine awp_exit ?_); try simp only [xq, simprocAttr]) | (refine awp_ret ?_; try simp only [xq, simprocAttr]) | ((first | refine awp_reg ?_ | refine awp_anyR (by rfl) (by kernel_rfl) (by kernel_rfl) ?_); simp only [xr, simprocAttr]; repeat (guard_target =~ _ ∧ _; refine And.intro (by first | trivial | (unfold I64; omega) | omega | (refine ⟨?_, ?_⟩ <;> omega) | (simp; done) | (simp; omega) | (intros; omega)) ?_))))
  ((first | refine .inl ⟨_, (isStarted_n _ _ _), .inl rfl, ?_⟩ | refine ⟨_, (isStarted_n _ _ _), .inl rfl, ?_⟩); (try simp only [xr, simprocAttr]); repeat (guard_target =~ _ ∧ _; refine And.intro (by first | trivial | (unfold I64; omega) | omega | (refine ⟨?_, ?_⟩ <;> omega) | (simp; done) | (simp; omega) | (intros; omega)) ?_))
  (repeat (first | refine awp_seq ?_ | refine awp_block ?_ | ((first | refine awp_skip ?_ | refine awp_exit ?_); try simp only [xq, simprocAttr]) | (refine awp_ret ?_; try simp only [xq, simprocAttr]) | ((first | refine awp_reg ?_ | refine awp_anyR (by rfl) (by kernel_rfl) (by kernel_rfl) ?_); simp only [xr, simprocAttr]; repeat (guard_target =~ _ ∧ _; refine And.intro (by first | trivial | (unfold I64; omega) | omega | (refine ⟨?_, ?_⟩ <;> omega) | (simp; done) | (simp; omega) | (intros; omega)) ?_))))
  ((first | refine .inl ⟨_, (fun _ => isChances_d _ _ _ _), .inl rfl, ?_⟩ | refine ⟨_, (fun _ => isChances_d _ _ _ _), .inl rfl, ?_⟩); (try simp only [xr, simprocAttr]); repeat (guard_target =~ _ ∧ _; refine And.intro (by first | trivial | (unfold I64; omega) | omega | (refine ⟨?_, ?_⟩ <;> omega) | (simp; done) | (simp; omega) | (intros; omega)) ?_))
  (repeat (first | refine awp_seq ?_ | refine awp_block ?_ | ((first | refine awp_skip ?_ | refine awp_exit ?_); try simp only [xq, simprocAttr]) | (refine awp_ret ?_; try simp only [xq, simprocAttr]) | ((first | refine awp_reg ?_ | refine awp_anyR (by rfl) (by kernel_rfl) (by kernel_rfl) ?_); simp only [xr, simprocAttr]; repeat (guard_target =~ _ ∧ _; refine And.intro (by first | trivial | (unfold I64; omega) | omega | (refine ⟨?_, ?_⟩ <;> omega) | (simp; done) | (simp; omega) | (intros; omega)) ?_))))
  (simp only [xe, simprocAttr]; refine ⟨_, rfl, rfl, Imp.eq ?_⟩)
  simp only [Bool.cond_false_right]
theorem l11Start_d (m s : List (List Int)) (x : Int) (ws : List Int) (qs : List (List Int)) : Does Try.prog 101 [prA m s, .int x, chA ws qs] (.imm (.bool (takesB m s x [] && chB s.length ws qs))) := by
  refine spec_imm Try.func101 rfl Try.ntmps101 cfOK (fun _ _ => by kernel_rfl) rfl (Nat.le_of_ble_eq_true rfl) ?_
  intro M0 w0
  rw [Try.results101]
  (refine awp_fits 0 rfl fun hf => ?_; simp only [xp, simprocAttr] at hf; simp only [xf, simprocAttr] at hf)
  (repeat (first | refine awp_seq ?_ | refine awp_block ?_ | ((first | refine awp_skip ?_ | refine awp_exit ?_); try simp only [xq, simprocAttr]) | (refine awp_ret ?_; try simp only [xq, simprocAttr]) | ((first | refine awp_reg ?_ | refine awp_anyR (by rfl) (by kernel_rfl) (by kernel_rfl) ?_); simp only [xr, simprocAttr]; repeat (guard_target =~ _ ∧ _; refine And.intro (by first | trivial | (unfold I64; omega) | omega | (refine ⟨?_, ?_⟩ <;> omega) | (simp; done) | (simp; omega) | (intros; omega)) ?_))))
  ((first | refine .inl ⟨_, (l11Chances_d _ _ _ _), .inl rfl, ?_⟩ | refine ⟨_, (l11Chances_d _ _ _ _), .inl rfl, ?_⟩); (try simp only [xr, simprocAttr]); repeat (guard_target =~ _ ∧ _; refine And.intro (by first | trivial | (unfold I64; omega) | omega | (refine ⟨?_, ?_⟩ <;> omega) | (simp; done) | (simp; omega) | (intros; omega)) ?_))
  (repeat (first | refine awp_seq ?_ | refine awp_block ?_ | ((first | refine awp_skip ?_ | refine awp_exit ?_); try simp only [xq, simprocAttr]) | (refine awp_ret ?_; try simp only [xq, simprocAttr]) | ((first | refine awp_reg ?_ | refine awp_anyR (by rfl) (by kernel_rfl) (by kernel_rfl) ?_); simp only [xr, simprocAttr]; repeat (guard_target =~ _ ∧ _; refine And.intro (by first | trivial | (unfold I64; omega) | omega | (refine ⟨?_, ?_⟩ <;> omega) | (simp; done) | (simp; omega) | (intros; omega)) ?_))))
  ((first | refine .inl ⟨_, (fun _ => l1In_d _ _ _), .inl rfl, ?_⟩ | refine ⟨_, (fun _ => l1In_d _ _ _), .inl rfl, ?_⟩); (try simp only [xr, simprocAttr]); repeat (guard_target =~ _ ∧ _; refine And.intro (by first | trivial | (unfold I64; omega) | omega | (refine ⟨?_, ?_⟩ <;> omega) | (simp; done) | (simp; omega) | (intros; omega)) ?_))
  (repeat (first | refine awp_seq ?_ | refine awp_block ?_ | ((first | refine awp_skip ?_ | refine awp_exit ?_); try simp only [xq, simprocAttr]) | (refine awp_ret ?_; try simp only [xq, simprocAttr]) | ((first | refine awp_reg ?_ | refine awp_anyR (by rfl) (by kernel_rfl) (by kernel_rfl) ?_); simp only [xr, simprocAttr]; repeat (guard_target =~ _ ∧ _; refine And.intro (by first | trivial | (unfold I64; omega) | omega | (refine ⟨?_, ?_⟩ <;> omega) | (simp; done) | (simp; omega) | (intros; omega)) ?_))))
  (simp only [xe, simprocAttr]; refine ⟨_, rfl, rfl, Imp.eq ?_⟩)
  have e : seqB s.length [] = true := rfl
  show AV.bool _ = AV.bool _
  congr 1
  unfold takesB
  rw [e]
  cases probB m s <;> cases chB s.length ws qs <;> cases rng x 0 ((m.length : Int) - 1) <;> rfl
structure ChOK (n : Nat) (ws : List Int) (qs : List (List Int)) : Prop where
  lo : 1 ≤ qs.length
  hi : qs.length ≤ 12
  len : ws.length = qs.length
  w : ∀ i, i < qs.length → 1 ≤ ws.getD i 0 ∧ ws.getD i 0 ≤ 9
  ws : ∀ w ∈ ws, 1 ≤ w ∧ w ≤ 9
  seq : ∀ i, i < qs.length → reqsB n (qs.getD i []) ∧ (qs.getD i []).length ≤ 6
theorem ch_ok {n : Nat} {ws : List Int} {qs : List (List Int)} (h : chB n ws qs = true) : ChOK n ws qs := by
  unfold chB at h
  simp only [Bool.and_eq_true, beq_iff_eq, List.all_eq_true] at h
  obtain ⟨⟨⟨h1, h2⟩, h3⟩, h4⟩ := h
  have h1 := rng_iff.1 h1
  have h3 := allIn_iff.1 h3
  refine ⟨by omega, by omega, h2, fun i hi => ?_, h3, fun i hi => ?_⟩
  · have hi' : i < ws.length := by omega
    rw [getD_in hi']
    exact h3 _ (List.getElem_mem hi')
  · rw [getD_in hi]
    have h5 := h4 _ (List.getElem_mem hi)
    unfold drawnB at h5
    simp only [Bool.and_eq_true, decide_eq_true_eq] at h5
    exact ⟨(seq_reqs h5.2).1, h5.1.1⟩
theorem ChOK.sum {n : Nat} {ws : List Int} {qs : List (List Int)} (h : ChOK n ws qs) : 1 ≤ ws.sum ∧ ws.sum ≤ 108 := by
  have h1 := sum_bounds (xs := ws) (B := 9) fun w hw => by have := h.ws w hw; omega
  have h2 := h.hi
  have h3 := h.len
  refine ⟨?_, by omega⟩
  match ws, h.len, h.ws, h.lo with
  | [], e, _, lo => simp at e; omega
  | w :: ws, _, hw, _ =>
    have h4 := hw w (by simp)
    have h5 := sum_bounds (xs := ws) (B := 9) fun w hw' => by have := hw w (by simp [hw']); omega
    simp only [List.sum_cons]
    omega
theorem ChOK.fits {n : Nat} {ws : List Int} {qs : List (List Int)} (h : ChOK n ws qs) : SumFits ws := sumFits_of (B := 9) (fun w hw => by have := h.ws w hw; omega) (by have := h.hi; have := h.len; omega) (by omega)
def meanS (ws : List Int) (g : Nat → Int) : Nat → Int := sumTo fun i => ws.getD i 0 * g i
theorem meanS_bd {n : Nat} {ws : List Int} {qs : List (List Int)} {g : Nat → Int} (h : ChOK n ws qs) (hg : ∀ i, i < qs.length → 0 ≤ g i ∧ g i ≤ 100000) : ∀ k, k ≤ qs.length → 0 ≤ meanS ws g k ∧ meanS ws g k ≤ 900000 * k
  | 0, _ => ⟨Int.le_refl _, Int.le_refl _⟩
  | k + 1, hk => by
    have ih := meanS_bd h hg k (by omega)
    have h1 := h.w k (by omega)
    have h2 := hg k (by omega)
    have h3 : 0 ≤ ws.getD k 0 * g k := Int.mul_nonneg (by omega) h2.1
    have h4 : ws.getD k 0 * g k ≤ 9 * 100000 := Int.mul_le_mul h1.2 h2.2 h2.1 (by omega)
    unfold meanS at ih ⊢
    simp only [sumTo]
    omega
theorem mean_step {n : Nat} {ws : List Int} {qs : List (List Int)} {g : Nat → Int} (h : ChOK n ws qs) (hg : ∀ i, i < qs.length → 0 ≤ g i ∧ g i ≤ 100000) {k : Nat} (hk : k < qs.length) :
    meanS ws g (k + 1) = meanS ws g k + ws.getD k 0 * g k ∧ 0 ≤ ws.getD k 0 * g k ∧ ws.getD k 0 * g k ≤ 1000000 ∧ 0 ≤ meanS ws g k ∧ meanS ws g k ≤ 100000000 := by
  have h0 := h.hi
  have h1 := h.w k (by omega)
  have h2 := hg k (by omega)
  have h3 : 0 ≤ ws.getD k 0 * g k := Int.mul_nonneg (by omega) h2.1
  have h4 : ws.getD k 0 * g k ≤ 9 * 100000 := Int.mul_le_mul h1.2 h2.2 h2.1 (by omega)
  have h5 := meanS_bd h hg k (by omega)
  exact ⟨rfl, h3, by omega, h5.1, by omega⟩
theorem mean_d (n : Nat) (ws : List Int) (qs : List (List Int)) (K : Nat) (caps : List Lf) (g : Nat → Int) (h : ChOK n ws qs) (hg : ∀ i, i < qs.length → 0 ≤ g i ∧ g i ≤ 100000) (hcap : caps.all capOK = true) (hK : ∀ j, j < qs.length → Does Try.prog K (.sl (.ints (qs.getD j [])) :: caps.map fun y => .tv (.one y)) (.imm (.int (g j)))) :
    Does Try.prog 104 [chA ws qs, .clo K caps] (.imm (.tup [frT (mkFr (meanS ws g qs.length) ws.sum), blT (mkOk (meanS ws g qs.length) ws.sum)])) := by
  refine spec_imm Try.func104 rfl Try.ntmps104 cfOK (fun _ _ => by kernel_rfl) (by simp only [List.all_cons, List.all_nil, clo_free hcap]; rfl) (Nat.le_of_ble_eq_true rfl) ?_
  intro M0 w0
  rw [Try.results104]
  have hlen := h.len
  have hhi := h.hi
  have hs := h.sum
  have hb := meanS_bd h hg qs.length (Nat.le_refl _)
  (repeat (first | refine awp_seq ?_ | refine awp_block ?_ | ((first | refine awp_skip ?_ | refine awp_exit ?_); try simp only [xq, simprocAttr]) | (refine awp_ret ?_; try simp only [xq, simprocAttr]) | ((first | refine awp_reg ?_ | refine awp_anyR (by rfl) (by kernel_rfl) (by kernel_rfl) ?_); simp only [xr, simprocAttr]; repeat (guard_target =~ _ ∧ _; refine And.intro (by first | trivial | (unfold I64; omega) | omega | (refine ⟨?_, ?_⟩ <;> omega) | (simp; done) | (simp; omega) | (intros; omega)) ?_))))
  refine awp_rounds (α := Nat) (fun k => [(12, true, .int k), (6, true, .int (meanS ws g k))]) [1, 2, 4, 5, 10, 11] (fun _ => [.box [.b (.sl (.ints ws)), .b (.sl (.ii qs))], .box [.b (.val (.int .i64 0)), .b (.val (.int .i64 0))]]) (fun k => k ≤ qs.length) (fun k => qs.length - k) 0 (by ((try simp only [xk]); (repeat (refine leK_cons ?_ ?_; first | (focus (first | rfl | (simp only [xr, simprocAttr]; done) | (simp only [xr, simprocAttr]; refine int_eq1 ?_; first | trivial | (unfold I64; omega) | omega | (refine ⟨?_, ?_⟩ <;> omega) | (simp; done) | (simp; omega) | (intros; omega)))) | rotate_left)); (try exact leK_nil rfl); (all_goals (try (simp only [xr, simprocAttr]; try refine int_eq1 ?_))))) (Nat.zero_le _) fun k hk => ?_
  simp only [xr, simprocAttr]
  (repeat (first | refine awp_seq ?_ | refine awp_block ?_ | ((first | refine awp_skip ?_ | refine awp_exit ?_); try simp only [xq, simprocAttr]) | (refine awp_ret ?_; try simp only [xq, simprocAttr]) | ((first | refine awp_reg ?_ | refine awp_anyR (by rfl) (by kernel_rfl) (by kernel_rfl) ?_); simp only [xr, simprocAttr]; repeat (guard_target =~ _ ∧ _; refine And.intro (by first | trivial | (unfold I64; omega) | omega | (refine ⟨?_, ?_⟩ <;> omega) | (simp; done) | (simp; omega) | (intros; omega)) ?_))))
  refine awp_cond (by first | rfl | (simp only [xr, simprocAttr]; rfl)) (fun hc => ?_) (fun hc => ?_)
  · have hk' : k < qs.length := by have hc := of_decide_eq_true hc; omega
    obtain ⟨e1, e2, e3, e4, e5⟩ := mean_step h hg hk'
    (repeat (first | refine awp_seq ?_ | refine awp_block ?_ | ((first | refine awp_skip ?_ | refine awp_exit ?_); try simp only [xq, simprocAttr]) | (refine awp_ret ?_; try simp only [xq, simprocAttr]) | ((first | refine awp_reg ?_ | refine awp_anyR (by rfl) (by kernel_rfl) (by kernel_rfl) ?_); simp only [xr, simprocAttr]; repeat (guard_target =~ _ ∧ _; refine And.intro (by first | trivial | (unfold I64; omega) | omega | (refine ⟨?_, ?_⟩ <;> omega) | (simp; done) | (simp; omega) | (intros; omega)) ?_))))
    (simp only [xr, simprocAttr, caps_view hcap]; repeat (guard_target =~ _ ∧ _; refine And.intro (by first | trivial | (unfold I64; omega) | omega | (refine ⟨?_, ?_⟩ <;> omega) | (simp; done) | (simp; omega) | (intros; omega)) ?_))
    ((first | refine .inl ⟨_, (hK k hk'), .inl rfl, ?_⟩ | refine ⟨_, (hK k hk'), .inl rfl, ?_⟩); (try simp only [xr, simprocAttr]); repeat (guard_target =~ _ ∧ _; refine And.intro (by first | trivial | (unfold I64; omega) | omega | (refine ⟨?_, ?_⟩ <;> omega) | (simp; done) | (simp; omega) | (intros; omega)) ?_))
    (repeat (first | refine awp_seq ?_ | refine awp_block ?_ | ((first | refine awp_skip ?_ | refine awp_exit ?_); try simp only [xq, simprocAttr]) | (refine awp_ret ?_; try simp only [xq, simprocAttr]) | ((first | refine awp_reg ?_ | refine awp_anyR (by rfl) (by kernel_rfl) (by kernel_rfl) ?_); simp only [xr, simprocAttr]; repeat (guard_target =~ _ ∧ _; refine And.intro (by first | trivial | (unfold I64; omega) | omega | (refine ⟨?_, ?_⟩ <;> omega) | (simp; done) | (simp; omega) | (intros; omega)) ?_))))
    refine ⟨k + 1, by omega, by omega, .inl ?_⟩
    ((try simp only [xk]); (repeat (refine leK_cons ?_ ?_; first | (focus (first | rfl | (simp only [xr, simprocAttr]; done) | (simp only [xr, simprocAttr]; refine int_eq1 ?_; first | trivial | (unfold I64; omega) | omega | (refine ⟨?_, ?_⟩ <;> omega) | (simp; done) | (simp; omega) | (intros; omega)))) | rotate_left)); (try exact leK_nil rfl); (all_goals (try (simp only [xr, simprocAttr]; try refine int_eq1 ?_))))
  · have hk' : k = qs.length := by have hc := of_decide_eq_false hc; omega
    subst hk'
    (repeat (first | refine awp_seq ?_ | refine awp_block ?_ | ((first | refine awp_skip ?_ | refine awp_exit ?_); try simp only [xq, simprocAttr]) | (refine awp_ret ?_; try simp only [xq, simprocAttr]) | ((first | refine awp_reg ?_ | refine awp_anyR (by rfl) (by kernel_rfl) (by kernel_rfl) ?_); simp only [xr, simprocAttr]; repeat (guard_target =~ _ ∧ _; refine And.intro (by first | trivial | (unfold I64; omega) | omega | (refine ⟨?_, ?_⟩ <;> omega) | (simp; done) | (simp; omega) | (intros; omega)) ?_))))
    ((first | refine .inl ⟨_, (total_d ws h.fits), .inl rfl, ?_⟩ | refine ⟨_, (total_d ws h.fits), .inl rfl, ?_⟩); (try simp only [xr, simprocAttr]); repeat (guard_target =~ _ ∧ _; refine And.intro (by first | trivial | (unfold I64; omega) | omega | (refine ⟨?_, ?_⟩ <;> omega) | (simp; done) | (simp; omega) | (intros; omega)) ?_))
    (repeat (first | refine awp_seq ?_ | refine awp_block ?_ | ((first | refine awp_skip ?_ | refine awp_exit ?_); try simp only [xq, simprocAttr]) | (refine awp_ret ?_; try simp only [xq, simprocAttr]) | ((first | refine awp_reg ?_ | refine awp_anyR (by rfl) (by kernel_rfl) (by kernel_rfl) ?_); simp only [xr, simprocAttr]; repeat (guard_target =~ _ ∧ _; refine And.intro (by first | trivial | (unfold I64; omega) | omega | (refine ⟨?_, ?_⟩ <;> omega) | (simp; done) | (simp; omega) | (intros; omega)) ?_))))
    ((first | refine .inl ⟨_, (makeFrac_d _ _ (by omega) (by omega) (by omega) (by omega)), .inl rfl, ?_⟩ | refine ⟨_, (makeFrac_d _ _ (by omega) (by omega) (by omega) (by omega)), .inl rfl, ?_⟩); (try simp only [xr, simprocAttr]); repeat (guard_target =~ _ ∧ _; refine And.intro (by first | trivial | (unfold I64; omega) | omega | (refine ⟨?_, ?_⟩ <;> omega) | (simp; done) | (simp; omega) | (intros; omega)) ?_))
    (repeat (first | refine awp_seq ?_ | refine awp_block ?_ | ((first | refine awp_skip ?_ | refine awp_exit ?_); try simp only [xq, simprocAttr]) | (refine awp_ret ?_; try simp only [xq, simprocAttr]) | ((first | refine awp_reg ?_ | refine awp_anyR (by rfl) (by kernel_rfl) (by kernel_rfl) ?_); simp only [xr, simprocAttr]; repeat (guard_target =~ _ ∧ _; refine And.intro (by first | trivial | (unfold I64; omega) | omega | (refine ⟨?_, ?_⟩ <;> omega) | (simp; done) | (simp; omega) | (intros; omega)) ?_))))
    (simp only [xec, simprocAttr]; refine ⟨[_, _], ⟨⟨by simp only [xr, simprocAttr] <;> (and_intros <;> first | trivial | (unfold I64; omega) | omega | (refine ⟨?_, ?_⟩ <;> omega) | (simp; done) | (simp; omega) | (intros; omega)), rfl⟩, rfl, trivial⟩, rfl, Imp.eq ?_⟩)
    rfl
end Go.Proofs.Ytoaecbdpkmeenaa
