/- Expected costs of an algorithm, on the machine. Conditions: none. -/
import Derived.Test.YtoaecbdpkmeenaaDrawn
namespace Go.Proofs.Ytoaecbdpkmeenaa
open Go Go.RowKit Am

theorem takes_and {m s : List (List Int)} {x : Int} {rs : List Int} {c : Bool} (h : (takesB m s x rs && c) = true) : probB m s = true := by
  rw [Bool.and_eq_true] at h
  exact (takes_ok h.1).1
def expG (m s next : List (List Int)) (x : Int) (qs : List (List Int)) (i : Nat) : Int := costS m s next x.toNat (qs.getD i [])
def expN (m s next : List (List Int)) (x : Int) (ws : List Int) (qs : List (List Int)) : Int := meanS ws (expG m s next x qs) qs.length
theorem expG_bd {m s next : List (List Int)} {x : Nat} {ws : List Int} {qs : List (List Int)} (hp : probB m s = true) (ha : algB m s next = true) (hx : x < m.length) (h : ChOK s.length ws qs) : ∀ i, i < qs.length → 0 ≤ expG m s next x qs i ∧ expG m s next x qs i ≤ 100000 := fun i hi => by
  obtain ⟨h1, h2⟩ := h.seq i hi
  have := costS_bd hp ha _ x hx h1
  unfold expG
  rw [Int.toNat_natCast]
  omega
theorem expectedCost1_d (m s next : List (List Int)) (x : Nat) (rs : List Int) (hp : probB m s = true) (ha : algB m s next = true) (hx : x < m.length) (hq : reqsB s.length rs) (hl : rs.length ≤ 1000) :
    Does Try.prog 105 [.sl (.ints rs), .lf (.ip [.sl (.ii m), .sl (.ii s)] 0), .lf (.ip [.sl (.ii next)] 0), .lf (.ip [.val (.int .i64 x)] 0)] (.imm (.int (costS m s next x rs))) := by
  refine spec_imm Try.func105 rfl Try.ntmps105 cfOK (fun _ _ => by kernel_rfl) rfl (Nat.le_of_ble_eq_true rfl) ?_
  intro M0 w0
  rw [Try.results105]
  (repeat (first | refine awp_seq ?_ | refine awp_block ?_ | ((first | refine awp_skip ?_ | refine awp_exit ?_); try simp only [xq, simprocAttr]) | (refine awp_ret ?_; try simp only [xq, simprocAttr]) | ((first | refine awp_reg ?_ | refine awp_anyR (by kernel_rfl) (by kernel_rfl) (by kernel_rfl) ?_); simp only [xr, simprocAttr]; repeat (guard_target =~ _ ∧ _; refine And.intro (by first | trivial | (unfold I64; omega) | omega | (refine ⟨?_, ?_⟩ <;> omega) | (simp; done) | (simp; omega) | (intros; omega)) ?_))))
  ((first | refine .inl ⟨_, (ran_d m s next x rs hp ha hx hq hl), .inr (by and_intros <;> first | rfl | (simp; done)), ?_⟩ | refine ⟨_, (ran_d m s next x rs hp ha hx hq hl), .inr (by and_intros <;> first | rfl | (simp; done)), ?_⟩); (try simp only [xr, simprocAttr]); repeat (guard_target =~ _ ∧ _; refine And.intro (by first | trivial | (unfold I64; omega) | omega | (refine ⟨?_, ?_⟩ <;> omega) | (simp; done) | (simp; omega) | (intros; omega)) ?_))
  (repeat (first | refine awp_seq ?_ | refine awp_block ?_ | ((first | refine awp_skip ?_ | refine awp_exit ?_); try simp only [xq, simprocAttr]) | (refine awp_ret ?_; try simp only [xq, simprocAttr]) | ((first | refine awp_reg ?_ | refine awp_anyR (by kernel_rfl) (by kernel_rfl) (by kernel_rfl) ?_); simp only [xr, simprocAttr]; repeat (guard_target =~ _ ∧ _; refine And.intro (by first | trivial | (unfold I64; omega) | omega | (refine ⟨?_, ?_⟩ <;> omega) | (simp; done) | (simp; omega) | (intros; omega)) ?_))))
  (simp only [xe, simprocAttr]; refine ⟨_, rfl, rfl, Imp.eq ?_⟩)
  rfl
theorem impl_ExpectedCost_d (m s next : List (List Int)) (x : Int) (ws : List Int) (qs : List (List Int)) :
    Does Try.prog 43 [prA m s, .sl (.ii next), .int x, chA ws qs] (.imm (frIf (takesB m s x [] && chB s.length ws qs && algB m s next) (expN m s next x ws qs) ws.sum)) := by
  refine spec_imm Try.func43 rfl Try.ntmps43 cfOK (fun _ _ => by kernel_rfl) rfl (Nat.le_of_ble_eq_true rfl) ?_
  intro M0 w0
  rw [Try.results43]
  (repeat (first | refine awp_seq ?_ | refine awp_block ?_ | ((first | refine awp_skip ?_ | refine awp_exit ?_); try simp only [xq, simprocAttr]) | (refine awp_ret ?_; try simp only [xq, simprocAttr]) | ((first | refine awp_reg ?_ | refine awp_anyR (by kernel_rfl) (by kernel_rfl) (by kernel_rfl) ?_); simp only [xr, simprocAttr]; repeat (guard_target =~ _ ∧ _; refine And.intro (by first | trivial | (unfold I64; omega) | omega | (refine ⟨?_, ?_⟩ <;> omega) | (simp; done) | (simp; omega) | (intros; omega)) ?_))))
  ((first | refine .inl ⟨_, (isDrawn_d _ _ _ _ _), .inl rfl, ?_⟩ | refine ⟨_, (isDrawn_d _ _ _ _ _), .inl rfl, ?_⟩); (try simp only [xr, simprocAttr]); repeat (guard_target =~ _ ∧ _; refine And.intro (by first | trivial | (unfold I64; omega) | omega | (refine ⟨?_, ?_⟩ <;> omega) | (simp; done) | (simp; omega) | (intros; omega)) ?_))
  (repeat (first | refine awp_seq ?_ | refine awp_block ?_ | ((first | refine awp_skip ?_ | refine awp_exit ?_); try simp only [xq, simprocAttr]) | (refine awp_ret ?_; try simp only [xq, simprocAttr]) | ((first | refine awp_reg ?_ | refine awp_anyR (by kernel_rfl) (by kernel_rfl) (by kernel_rfl) ?_); simp only [xr, simprocAttr]; repeat (guard_target =~ _ ∧ _; refine And.intro (by first | trivial | (unfold I64; omega) | omega | (refine ⟨?_, ?_⟩ <;> omega) | (simp; done) | (simp; omega) | (intros; omega)) ?_))))
  ((first | refine .inl ⟨_, (fun hh => isAlgorithm_d _ _ _ (prob_rows (takes_and hh))), .inl rfl, ?_⟩ | refine ⟨_, (fun hh => isAlgorithm_d _ _ _ (prob_rows (takes_and hh))), .inl rfl, ?_⟩); (try simp only [xr, simprocAttr]); repeat (guard_target =~ _ ∧ _; refine And.intro (by first | trivial | (unfold I64; omega) | omega | (refine ⟨?_, ?_⟩ <;> omega) | (simp; done) | (simp; omega) | (intros; omega)) ?_))
  (repeat (first | refine awp_seq ?_ | refine awp_block ?_ | ((first | refine awp_skip ?_ | refine awp_exit ?_); try simp only [xq, simprocAttr]) | (refine awp_ret ?_; try simp only [xq, simprocAttr]) | ((first | refine awp_reg ?_ | refine awp_anyR (by kernel_rfl) (by kernel_rfl) (by kernel_rfl) ?_); simp only [xr, simprocAttr]; repeat (guard_target =~ _ ∧ _; refine And.intro (by first | trivial | (unfold I64; omega) | omega | (refine ⟨?_, ?_⟩ <;> omega) | (simp; done) | (simp; omega) | (intros; omega)) ?_))))
  refine awp_cond (by first | rfl | (simp only [xr, simprocAttr]; rfl)) (fun hc => ?_) (fun hc => ?_)
  · have hc' : (takesB m s x [] && chB s.length ws qs && algB m s next) = false := by
      revert hc
      cases takesB m s x [] <;> cases chB s.length ws qs <;> cases algB m s next <;> decide
    (repeat (first | refine awp_seq ?_ | refine awp_block ?_ | ((first | refine awp_skip ?_ | refine awp_exit ?_); try simp only [xq, simprocAttr]) | (refine awp_ret ?_; try simp only [xq, simprocAttr]) | ((first | refine awp_reg ?_ | refine awp_anyR (by kernel_rfl) (by kernel_rfl) (by kernel_rfl) ?_); simp only [xr, simprocAttr]; repeat (guard_target =~ _ ∧ _; refine And.intro (by first | trivial | (unfold I64; omega) | omega | (refine ⟨?_, ?_⟩ <;> omega) | (simp; done) | (simp; omega) | (intros; omega)) ?_))))
    (simp only [xec, simprocAttr]; refine ⟨[_, _], ⟨⟨by simp only [xr, simprocAttr] <;> (and_intros <;> first | trivial | (unfold I64; omega) | omega | (refine ⟨?_, ?_⟩ <;> omega) | (simp; done) | (simp; omega) | (intros; omega)), rfl⟩, rfl, trivial⟩, rfl, Imp.eq ?_⟩)
    rw [hc']
    rfl
  · have hc' : takesB m s x [] = true ∧ chB s.length ws qs = true ∧ algB m s next = true := by
      revert hc
      cases takesB m s x [] <;> cases chB s.length ws qs <;> cases algB m s next <;> decide
    obtain ⟨h1, ⟨y, rfl, hy⟩, -, -⟩ := takes_ok hc'.1
    have hC := ch_ok hc'.2.1
    have ha := hc'.2.2
    (repeat (first | refine awp_seq ?_ | refine awp_block ?_ | ((first | refine awp_skip ?_ | refine awp_exit ?_); try simp only [xq, simprocAttr]) | (refine awp_ret ?_; try simp only [xq, simprocAttr]) | ((first | refine awp_reg ?_ | refine awp_anyR (by kernel_rfl) (by kernel_rfl) (by kernel_rfl) ?_); simp only [xr, simprocAttr]; repeat (guard_target =~ _ ∧ _; refine And.intro (by first | trivial | (unfold I64; omega) | omega | (refine ⟨?_, ?_⟩ <;> omega) | (simp; done) | (simp; omega) | (intros; omega)) ?_))))
    ((first | refine .inl ⟨_, (mean_d s.length ws qs _ [_, _, _] (expG m s next y qs) hC (expG_bd h1 ha hy hC) rfl fun j hj => expectedCost1_d m s next y _ h1 ha hy (hC.seq j hj).1 (by have := (hC.seq j hj).2; omega)), .inl rfl, ?_⟩ | refine ⟨_, (mean_d s.length ws qs _ [_, _, _] (expG m s next y qs) hC (expG_bd h1 ha hy hC) rfl fun j hj => expectedCost1_d m s next y _ h1 ha hy (hC.seq j hj).1 (by have := (hC.seq j hj).2; omega)), .inl rfl, ?_⟩); (try simp only [xr, simprocAttr]); repeat (guard_target =~ _ ∧ _; refine And.intro (by first | trivial | (unfold I64; omega) | omega | (refine ⟨?_, ?_⟩ <;> omega) | (simp; done) | (simp; omega) | (intros; omega)) ?_))
    (repeat (first | refine awp_seq ?_ | refine awp_block ?_ | ((first | refine awp_skip ?_ | refine awp_exit ?_); try simp only [xq, simprocAttr]) | (refine awp_ret ?_; try simp only [xq, simprocAttr]) | ((first | refine awp_reg ?_ | refine awp_anyR (by kernel_rfl) (by kernel_rfl) (by kernel_rfl) ?_); simp only [xr, simprocAttr]; repeat (guard_target =~ _ ∧ _; refine And.intro (by first | trivial | (unfold I64; omega) | omega | (refine ⟨?_, ?_⟩ <;> omega) | (simp; done) | (simp; omega) | (intros; omega)) ?_))))
    (simp only [xec, simprocAttr]; refine ⟨[_, _], ⟨⟨by simp only [xr, simprocAttr] <;> (and_intros <;> first | trivial | (unfold I64; omega) | omega | (refine ⟨?_, ?_⟩ <;> omega) | (simp; done) | (simp; omega) | (intros; omega)), rfl⟩, rfl, trivial⟩, rfl, Imp.eq ?_⟩)
    rw [hc'.1, hc'.2.1, hc'.2.2]
    rfl
theorem spec_ExpectedCost_d (m s next : List (List Int)) (x : Int) (ws : List Int) (qs : List (List Int)) :
    Does Try.prog 41 [prA m s, .sl (.ii next), .int x, chA ws qs] (.imm (frIf (takesB m s x [] && chB s.length ws qs && algB m s next) (expN m s next x ws qs) ws.sum)) := by
  refine spec_imm Try.func41 rfl Try.ntmps41 cfOK (fun _ _ => by kernel_rfl) rfl (Nat.le_of_ble_eq_true rfl) ?_
  intro M0 w0
  rw [Try.results41]
  (repeat (first | refine awp_seq ?_ | refine awp_block ?_ | ((first | refine awp_skip ?_ | refine awp_exit ?_); try simp only [xq, simprocAttr]) | (refine awp_ret ?_; try simp only [xq, simprocAttr]) | ((first | refine awp_reg ?_ | refine awp_anyR (by kernel_rfl) (by kernel_rfl) (by kernel_rfl) ?_); simp only [xr, simprocAttr]; repeat (guard_target =~ _ ∧ _; refine And.intro (by first | trivial | (unfold I64; omega) | omega | (refine ⟨?_, ?_⟩ <;> omega) | (simp; done) | (simp; omega) | (intros; omega)) ?_))))
  ((first | refine .inl ⟨_, (l11Start_d _ _ _ _ _), .inl rfl, ?_⟩ | refine ⟨_, (l11Start_d _ _ _ _ _), .inl rfl, ?_⟩); (try simp only [xr, simprocAttr]); repeat (guard_target =~ _ ∧ _; refine And.intro (by first | trivial | (unfold I64; omega) | omega | (refine ⟨?_, ?_⟩ <;> omega) | (simp; done) | (simp; omega) | (intros; omega)) ?_))
  (repeat (first | refine awp_seq ?_ | refine awp_block ?_ | ((first | refine awp_skip ?_ | refine awp_exit ?_); try simp only [xq, simprocAttr]) | (refine awp_ret ?_; try simp only [xq, simprocAttr]) | ((first | refine awp_reg ?_ | refine awp_anyR (by kernel_rfl) (by kernel_rfl) (by kernel_rfl) ?_); simp only [xr, simprocAttr]; repeat (guard_target =~ _ ∧ _; refine And.intro (by first | trivial | (unfold I64; omega) | omega | (refine ⟨?_, ?_⟩ <;> omega) | (simp; done) | (simp; omega) | (intros; omega)) ?_))))
  ((first | refine .inl ⟨_, (fun hh => l8Alg_d _ _ _ (prob_rows (takes_and hh))), .inl rfl, ?_⟩ | refine ⟨_, (fun hh => l8Alg_d _ _ _ (prob_rows (takes_and hh))), .inl rfl, ?_⟩); (try simp only [xr, simprocAttr]); repeat (guard_target =~ _ ∧ _; refine And.intro (by first | trivial | (unfold I64; omega) | omega | (refine ⟨?_, ?_⟩ <;> omega) | (simp; done) | (simp; omega) | (intros; omega)) ?_))
  (repeat (first | refine awp_seq ?_ | refine awp_block ?_ | ((first | refine awp_skip ?_ | refine awp_exit ?_); try simp only [xq, simprocAttr]) | (refine awp_ret ?_; try simp only [xq, simprocAttr]) | ((first | refine awp_reg ?_ | refine awp_anyR (by kernel_rfl) (by kernel_rfl) (by kernel_rfl) ?_); simp only [xr, simprocAttr]; repeat (guard_target =~ _ ∧ _; refine And.intro (by first | trivial | (unfold I64; omega) | omega | (refine ⟨?_, ?_⟩ <;> omega) | (simp; done) | (simp; omega) | (intros; omega)) ?_))))
  refine awp_cond (by first | rfl | (simp only [xr, simprocAttr]; rfl)) (fun hc => ?_) (fun hc => ?_)
  · have hc' : (takesB m s x [] && chB s.length ws qs && algB m s next) = false := by
      revert hc
      cases takesB m s x [] <;> cases chB s.length ws qs <;> cases algB m s next <;> decide
    (repeat (first | refine awp_seq ?_ | refine awp_block ?_ | ((first | refine awp_skip ?_ | refine awp_exit ?_); try simp only [xq, simprocAttr]) | (refine awp_ret ?_; try simp only [xq, simprocAttr]) | ((first | refine awp_reg ?_ | refine awp_anyR (by kernel_rfl) (by kernel_rfl) (by kernel_rfl) ?_); simp only [xr, simprocAttr]; repeat (guard_target =~ _ ∧ _; refine And.intro (by first | trivial | (unfold I64; omega) | omega | (refine ⟨?_, ?_⟩ <;> omega) | (simp; done) | (simp; omega) | (intros; omega)) ?_))))
    (simp only [xec, simprocAttr]; refine ⟨[_, _], ⟨⟨by simp only [xr, simprocAttr] <;> (and_intros <;> first | trivial | (unfold I64; omega) | omega | (refine ⟨?_, ?_⟩ <;> omega) | (simp; done) | (simp; omega) | (intros; omega)), rfl⟩, rfl, trivial⟩, rfl, Imp.eq ?_⟩)
    rw [hc']
    rfl
  · have hc' : takesB m s x [] = true ∧ chB s.length ws qs = true ∧ algB m s next = true := by
      revert hc
      cases takesB m s x [] <;> cases chB s.length ws qs <;> cases algB m s next <;> decide
    obtain ⟨h1, ⟨y, rfl, hy⟩, -, -⟩ := takes_ok hc'.1
    have hC := ch_ok hc'.2.1
    have ha := hc'.2.2
    have hg := expG_bd h1 ha hy hC
    have hlen := hC.len
    have hhi := hC.hi
    have hs := hC.sum
    have hb := meanS_bd hC hg qs.length (Nat.le_refl _)
    (repeat (first | refine awp_seq ?_ | refine awp_block ?_ | ((first | refine awp_skip ?_ | refine awp_exit ?_); try simp only [xq, simprocAttr]) | (refine awp_ret ?_; try simp only [xq, simprocAttr]) | ((first | refine awp_reg ?_ | refine awp_anyR (by kernel_rfl) (by kernel_rfl) (by kernel_rfl) ?_); simp only [xr, simprocAttr]; repeat (guard_target =~ _ ∧ _; refine And.intro (by first | trivial | (unfold I64; omega) | omega | (refine ⟨?_, ?_⟩ <;> omega) | (simp; done) | (simp; omega) | (intros; omega)) ?_))))
    refine awp_rounds (α := Nat) (fun k => [(11, true, .int k), (10, true, .int (meanS ws (expG m s next y qs) k))]) [1, 2, 4, 7, 8, 9] (fun _ => [.box [.b (.sl (.ii m)), .b (.sl (.ii s))], .box [.b (.sl (.ints ws)), .b (.sl (.ii qs))], .box [.b (.val (.int .i64 0)), .b (.val (.int .i64 0))]]) (fun k => k ≤ qs.length) (fun k => qs.length - k) 0 (by ((try simp only [xk]); (repeat (refine leK_cons ?_ ?_; first | (focus (first | rfl | (simp only [xr, simprocAttr]; done) | (simp only [xr, simprocAttr]; refine int_eq1 ?_; first | trivial | (unfold I64; omega) | omega | (refine ⟨?_, ?_⟩ <;> omega) | (simp; done) | (simp; omega) | (intros; omega)))) | rotate_left)); (try exact leK_nil rfl); (all_goals (try (simp only [xr, simprocAttr]; try refine int_eq1 ?_))))) (Nat.zero_le _) fun k hk => ?_
    simp only [xr, simprocAttr]
    (repeat (first | refine awp_seq ?_ | refine awp_block ?_ | ((first | refine awp_skip ?_ | refine awp_exit ?_); try simp only [xq, simprocAttr]) | (refine awp_ret ?_; try simp only [xq, simprocAttr]) | ((first | refine awp_reg ?_ | refine awp_anyR (by kernel_rfl) (by kernel_rfl) (by kernel_rfl) ?_); simp only [xr, simprocAttr]; repeat (guard_target =~ _ ∧ _; refine And.intro (by first | trivial | (unfold I64; omega) | omega | (refine ⟨?_, ?_⟩ <;> omega) | (simp; done) | (simp; omega) | (intros; omega)) ?_))))
    refine awp_cond (by first | rfl | (simp only [xr, simprocAttr]; rfl)) (fun hd => ?_) (fun hd => ?_)
    · have hk' : k < qs.length := by have hd := of_decide_eq_true hd; omega
      obtain ⟨e1, e2, e3, e4, e5⟩ := mean_step hC hg hk'
      obtain ⟨q1, q2⟩ := hC.seq k hk'
      have e6 : costS m s next y (qs.getD k []) = expG m s next y qs k := rfl
      (repeat (first | refine awp_seq ?_ | refine awp_block ?_ | ((first | refine awp_skip ?_ | refine awp_exit ?_); try simp only [xq, simprocAttr]) | (refine awp_ret ?_; try simp only [xq, simprocAttr]) | ((first | refine awp_reg ?_ | refine awp_anyR (by kernel_rfl) (by kernel_rfl) (by kernel_rfl) ?_); simp only [xr, simprocAttr]; repeat (guard_target =~ _ ∧ _; refine And.intro (by first | trivial | (unfold I64; omega) | omega | (refine ⟨?_, ?_⟩ <;> omega) | (simp; done) | (simp; omega) | (intros; omega)) ?_))))
      ((first | refine .inl ⟨_, (l8Cost_d m s next y _ h1 ha hy q1 (by omega)), .inl rfl, ?_⟩ | refine ⟨_, (l8Cost_d m s next y _ h1 ha hy q1 (by omega)), .inl rfl, ?_⟩); (try simp only [xr, simprocAttr]); repeat (guard_target =~ _ ∧ _; refine And.intro (by first | trivial | (unfold I64; omega) | omega | (refine ⟨?_, ?_⟩ <;> omega) | (simp; done) | (simp; omega) | (intros; omega)) ?_))
      rw [e6]
      (repeat (guard_target =~ _ ∧ _; refine And.intro (by first | trivial | (unfold I64; omega) | omega | (refine ⟨?_, ?_⟩ <;> omega) | (simp; done) | (simp; omega) | (intros; omega)) ?_))
      (repeat (first | refine awp_seq ?_ | refine awp_block ?_ | ((first | refine awp_skip ?_ | refine awp_exit ?_); try simp only [xq, simprocAttr]) | (refine awp_ret ?_; try simp only [xq, simprocAttr]) | ((first | refine awp_reg ?_ | refine awp_anyR (by kernel_rfl) (by kernel_rfl) (by kernel_rfl) ?_); simp only [xr, simprocAttr]; repeat (guard_target =~ _ ∧ _; refine And.intro (by first | trivial | (unfold I64; omega) | omega | (refine ⟨?_, ?_⟩ <;> omega) | (simp; done) | (simp; omega) | (intros; omega)) ?_))))
      refine ⟨k + 1, by omega, by omega, .inl ?_⟩
      ((try simp only [xk]); (repeat (refine leK_cons ?_ ?_; first | (focus (first | rfl | (simp only [xr, simprocAttr]; done) | (simp only [xr, simprocAttr]; refine int_eq1 ?_; first | trivial | (unfold I64; omega) | omega | (refine ⟨?_, ?_⟩ <;> omega) | (simp; done) | (simp; omega) | (intros; omega)))) | rotate_left)); (try exact leK_nil rfl); (all_goals (try (simp only [xr, simprocAttr]; try refine int_eq1 ?_))))
    · have hk' : k = qs.length := by have hd := of_decide_eq_false hd; omega
      subst hk'
      (repeat (first | refine awp_seq ?_ | refine awp_block ?_ | ((first | refine awp_skip ?_ | refine awp_exit ?_); try simp only [xq, simprocAttr]) | (refine awp_ret ?_; try simp only [xq, simprocAttr]) | ((first | refine awp_reg ?_ | refine awp_anyR (by kernel_rfl) (by kernel_rfl) (by kernel_rfl) ?_); simp only [xr, simprocAttr]; repeat (guard_target =~ _ ∧ _; refine And.intro (by first | trivial | (unfold I64; omega) | omega | (refine ⟨?_, ?_⟩ <;> omega) | (simp; done) | (simp; omega) | (intros; omega)) ?_))))
      ((first | refine .inl ⟨_, (l11Sum_d ws hC.fits), .inl rfl, ?_⟩ | refine ⟨_, (l11Sum_d ws hC.fits), .inl rfl, ?_⟩); (try simp only [xr, simprocAttr]); repeat (guard_target =~ _ ∧ _; refine And.intro (by first | trivial | (unfold I64; omega) | omega | (refine ⟨?_, ?_⟩ <;> omega) | (simp; done) | (simp; omega) | (intros; omega)) ?_))
      (repeat (first | refine awp_seq ?_ | refine awp_block ?_ | ((first | refine awp_skip ?_ | refine awp_exit ?_); try simp only [xq, simprocAttr]) | (refine awp_ret ?_; try simp only [xq, simprocAttr]) | ((first | refine awp_reg ?_ | refine awp_anyR (by kernel_rfl) (by kernel_rfl) (by kernel_rfl) ?_); simp only [xr, simprocAttr]; repeat (guard_target =~ _ ∧ _; refine And.intro (by first | trivial | (unfold I64; omega) | omega | (refine ⟨?_, ?_⟩ <;> omega) | (simp; done) | (simp; omega) | (intros; omega)) ?_))))
      ((first | refine .inl ⟨_, (l2Make_d _ _ (by omega) (by omega) (by omega) (by omega)), .inl rfl, ?_⟩ | refine ⟨_, (l2Make_d _ _ (by omega) (by omega) (by omega) (by omega)), .inl rfl, ?_⟩); (try simp only [xr, simprocAttr]); repeat (guard_target =~ _ ∧ _; refine And.intro (by first | trivial | (unfold I64; omega) | omega | (refine ⟨?_, ?_⟩ <;> omega) | (simp; done) | (simp; omega) | (intros; omega)) ?_))
      (repeat (first | refine awp_seq ?_ | refine awp_block ?_ | ((first | refine awp_skip ?_ | refine awp_exit ?_); try simp only [xq, simprocAttr]) | (refine awp_ret ?_; try simp only [xq, simprocAttr]) | ((first | refine awp_reg ?_ | refine awp_anyR (by kernel_rfl) (by kernel_rfl) (by kernel_rfl) ?_); simp only [xr, simprocAttr]; repeat (guard_target =~ _ ∧ _; refine And.intro (by first | trivial | (unfold I64; omega) | omega | (refine ⟨?_, ?_⟩ <;> omega) | (simp; done) | (simp; omega) | (intros; omega)) ?_))))
      (simp only [xec, simprocAttr]; refine ⟨[_, _], ⟨⟨by simp only [xr, simprocAttr] <;> (and_intros <;> first | trivial | (unfold I64; omega) | omega | (refine ⟨?_, ?_⟩ <;> omega) | (simp; done) | (simp; omega) | (intros; omega)), rfl⟩, rfl, trivial⟩, rfl, Imp.eq ?_⟩)
      rw [hc'.1, hc'.2.1, hc'.2.2]
      rfl
end Go.Proofs.Ytoaecbdpkmeenaa
