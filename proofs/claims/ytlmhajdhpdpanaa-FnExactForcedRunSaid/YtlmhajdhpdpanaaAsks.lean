/- Asks of games, on the machine. Conditions: games that are whole. -/
import Derived.Test.YtlmhajdhpdpanaaRatio
set_option linter.all false
set_option linter.unusedSimpArgs false
set_option linter.unusedVariables false
namespace Go.Proofs.Ytlmhajdhpdpanaa
open Go Go.RowKit Am

theorem areAsks_d {m s : List (List Int)} {g : GmT} (hg : GmFull m s g) (asks : List Int) : Does Try.prog 71 [gI g, .sl (.ints asks)] (.imm (.bool (asksB s g asks))) := by
  have hle := hg.le
  have hcl := hg.clen
  have hpos := hg.pos
  have h0 := hg.c.len 0 (by omega)
  have hpl := prob_len hg.prob
  refine spec_imm Try.func71 rfl Try.ntmps71 cfOK (fun _ _ => by kernel_rfl) rfl (Nat.le_of_ble_eq_true rfl) ?_
  intro M0 w0
  rw [Try.results71]
  (refine awp_fits 1 rfl fun hf => ?_; simp only [xp, simprocAttr] at hf; simp only [xf, simprocAttr] at hf)
  (repeat (first | refine awp_seq ?_ | refine awp_block ?_ | ((first | refine awp_skip ?_ | refine awp_exit ?_); try simp only [xq, simprocAttr]) | (refine awp_ret ?_; try simp only [xq, simprocAttr]) | ((first | refine awp_reg ?_ | refine awp_anyR (by rfl) (by kernel_rfl) (by kernel_rfl) ?_); simp only [xr, simprocAttr]; repeat (guard_target =~ _ ∧ _; refine And.intro (by first | trivial | (unfold I64; omega) | omega | (refine ⟨?_, ?_⟩ <;> omega) | (simp; done) | (simp; omega) | (intros; omega)) ?_))))
  rw [h0]
  ((first | refine .inl ⟨_, (fun _ => areBelow_d (s.length : Int) asks (by omega)), .inl rfl, ?_⟩ | refine ⟨_, (fun _ => areBelow_d (s.length : Int) asks (by omega)), .inl rfl, ?_⟩); (try simp only [xr, simprocAttr]); repeat (guard_target =~ _ ∧ _; refine And.intro (by first | trivial | (unfold I64; omega) | omega | (refine ⟨?_, ?_⟩ <;> omega) | (simp; done) | (simp; omega) | (intros; omega)) ?_))
  (repeat (first | refine awp_seq ?_ | refine awp_block ?_ | ((first | refine awp_skip ?_ | refine awp_exit ?_); try simp only [xq, simprocAttr]) | (refine awp_ret ?_; try simp only [xq, simprocAttr]) | ((first | refine awp_reg ?_ | refine awp_anyR (by rfl) (by kernel_rfl) (by kernel_rfl) ?_); simp only [xr, simprocAttr]; repeat (guard_target =~ _ ∧ _; refine And.intro (by first | trivial | (unfold I64; omega) | omega | (refine ⟨?_, ?_⟩ <;> omega) | (simp; done) | (simp; omega) | (intros; omega)) ?_))))
  (simp only [xe, simprocAttr]; refine ⟨_, rfl, rfl, Imp.eq ?_⟩)
  show AV.bool _ = AV.bool _
  simp only [Bool.cond_false_right, dec_len]
  rfl
theorem l10Asks_d {m s : List (List Int)} {g : GmT} (hg : GmFull m s g) (b : Bool) (asks : List Int) : Does Try.prog 85 [gA g b, .sl (.ints asks)] (.imm (.bool (asksB s g asks))) := by
  have hle := hg.le
  have hcl := hg.clen
  have hpos := hg.pos
  have h0 := hg.c.len 0 (by omega)
  have hpl := prob_len hg.prob
  have hl4 : (ch4 g.ch).length = g.ch.length := by simp [ch4]
  have h4 := ch4_at (ch := g.ch) (i := 0) (by omega)
  have h4l : ((ch4 g.ch).getD 0 []).length = s.length := by rw [h4, List.length_map, h0]
  refine spec_imm Try.func85 rfl Try.ntmps85 cfOK (fun _ _ => by kernel_rfl) rfl (Nat.le_of_ble_eq_true rfl) ?_
  intro M0 w0
  rw [Try.results85]
  (refine awp_fits 1 rfl fun hf => ?_; simp only [xp, simprocAttr] at hf; simp only [xf, simprocAttr] at hf)
  (repeat (first | refine awp_seq ?_ | refine awp_block ?_ | ((first | refine awp_skip ?_ | refine awp_exit ?_); try simp only [xq, simprocAttr]) | (refine awp_ret ?_; try simp only [xq, simprocAttr]) | ((first | refine awp_reg ?_ | refine awp_anyR (by rfl) (by kernel_rfl) (by kernel_rfl) ?_); simp only [xr, simprocAttr]; repeat (guard_target =~ _ ∧ _; refine And.intro (by first | trivial | (unfold I64; omega) | omega | (refine ⟨?_, ?_⟩ <;> omega) | (simp; done) | (simp; omega) | (intros; omega)) ?_))))
  refine awp_rounds (α := Nat) (fun k => [(5, true, .int k)]) [1, 2] (fun _ => [.box [.b (.sl (.k 2 g.list)), .b (.sl (.kii 4 (ch4 g.ch))), .b (.val (.bool b))]]) (fun k => k ≤ asks.length ∧ allIn 0 ((s.length : Int) - 1) (asks.take k) = true) (fun k => asks.length - k) 0 (by ((try simp only [xk]); (repeat (refine leK_cons ?_ ?_; first | (focus (first | rfl | (simp only [xr, simprocAttr]; done) | (simp only [xr, simprocAttr]; refine int_eq1 ?_; first | trivial | (unfold I64; omega) | omega | (refine ⟨?_, ?_⟩ <;> omega) | (simp; done) | (simp; omega) | (intros; omega)))) | rotate_left)); (try exact leK_nil rfl); (all_goals (try (simp only [xr, simprocAttr]; try refine int_eq1 ?_))))) ⟨Nat.zero_le _, rfl⟩ fun k hk => ?_
  obtain ⟨hk, hal⟩ := hk
  simp only [xr, simprocAttr]
  (repeat (first | refine awp_seq ?_ | refine awp_block ?_ | ((first | refine awp_skip ?_ | refine awp_exit ?_); try simp only [xq, simprocAttr]) | (refine awp_ret ?_; try simp only [xq, simprocAttr]) | ((first | refine awp_reg ?_ | refine awp_anyR (by rfl) (by kernel_rfl) (by kernel_rfl) ?_); simp only [xr, simprocAttr]; repeat (guard_target =~ _ ∧ _; refine And.intro (by first | trivial | (unfold I64; omega) | omega | (refine ⟨?_, ?_⟩ <;> omega) | (simp; done) | (simp; omega) | (intros; omega)) ?_))))
  refine awp_cond (by first | rfl | (simp only [xr, simprocAttr]; rfl)) (fun hc => ?_) (fun hc => ?_)
  · have hc := of_decide_eq_true hc
    have hk' : k < asks.length := by omega
    (repeat (first | refine awp_seq ?_ | refine awp_block ?_ | ((first | refine awp_skip ?_ | refine awp_exit ?_); try simp only [xq, simprocAttr]) | (refine awp_ret ?_; try simp only [xq, simprocAttr]) | ((first | refine awp_reg ?_ | refine awp_anyR (by rfl) (by kernel_rfl) (by kernel_rfl) ?_); simp only [xr, simprocAttr]; repeat (guard_target =~ _ ∧ _; refine And.intro (by first | trivial | (unfold I64; omega) | omega | (refine ⟨?_, ?_⟩ <;> omega) | (simp; done) | (simp; omega) | (intros; omega)) ?_))))
    rw [h4l]
    ((first | refine .inl ⟨_, (l1In_d _ _ _), .inl rfl, ?_⟩ | refine ⟨_, (l1In_d _ _ _), .inl rfl, ?_⟩); (try simp only [xr, simprocAttr]); repeat (guard_target =~ _ ∧ _; refine And.intro (by first | trivial | (unfold I64; omega) | omega | (refine ⟨?_, ?_⟩ <;> omega) | (simp; done) | (simp; omega) | (intros; omega)) ?_))
    (repeat (first | refine awp_seq ?_ | refine awp_block ?_ | ((first | refine awp_skip ?_ | refine awp_exit ?_); try simp only [xq, simprocAttr]) | (refine awp_ret ?_; try simp only [xq, simprocAttr]) | ((first | refine awp_reg ?_ | refine awp_anyR (by rfl) (by kernel_rfl) (by kernel_rfl) ?_); simp only [xr, simprocAttr]; repeat (guard_target =~ _ ∧ _; refine And.intro (by first | trivial | (unfold I64; omega) | omega | (refine ⟨?_, ?_⟩ <;> omega) | (simp; done) | (simp; omega) | (intros; omega)) ?_))))
    cases hx : rng (asks.getD k 0) 0 ((s.length : Int) - 1)
    · refine awp_cond (by first | rfl | (simp only [xr, simprocAttr]; rfl)) (fun hd => ?_) (fun hd => ?_)
      · (repeat (first | refine awp_seq ?_ | refine awp_block ?_ | ((first | refine awp_skip ?_ | refine awp_exit ?_); try simp only [xq, simprocAttr]) | (refine awp_ret ?_; try simp only [xq, simprocAttr]) | ((first | refine awp_reg ?_ | refine awp_anyR (by rfl) (by kernel_rfl) (by kernel_rfl) ?_); simp only [xr, simprocAttr]; repeat (guard_target =~ _ ∧ _; refine And.intro (by first | trivial | (unfold I64; omega) | omega | (refine ⟨?_, ?_⟩ <;> omega) | (simp; done) | (simp; omega) | (intros; omega)) ?_))))
        (simp only [xe, simprocAttr]; refine ⟨_, rfl, rfl, Imp.eq ?_⟩)
        have h1 : allIn 0 ((s.length : Int) - 1) asks = false := all_no hk' 0 hx
        unfold asksB
        rw [h1, Bool.and_false]
      · cases hd
    · refine awp_cond (by first | rfl | (simp only [xr, simprocAttr]; rfl)) (fun hd => ?_) (fun hd => ?_)
      · cases hd
      · (repeat (first | refine awp_seq ?_ | refine awp_block ?_ | ((first | refine awp_skip ?_ | refine awp_exit ?_); try simp only [xq, simprocAttr]) | (refine awp_ret ?_; try simp only [xq, simprocAttr]) | ((first | refine awp_reg ?_ | refine awp_anyR (by rfl) (by kernel_rfl) (by kernel_rfl) ?_); simp only [xr, simprocAttr]; repeat (guard_target =~ _ ∧ _; refine And.intro (by first | trivial | (unfold I64; omega) | omega | (refine ⟨?_, ?_⟩ <;> omega) | (simp; done) | (simp; omega) | (intros; omega)) ?_))))
        refine ⟨k + 1, by omega, ?_, by omega, .inl ?_⟩
        · unfold allIn at hal ⊢
          rw [take_getD hk' 0, List.all_append, hal]
          simp only [List.all_cons, List.all_nil, hx]
          rfl
        · ((try simp only [xk]); (repeat (refine leK_cons ?_ ?_; first | (focus (first | rfl | (simp only [xr, simprocAttr]; done) | (simp only [xr, simprocAttr]; refine int_eq1 ?_; first | trivial | (unfold I64; omega) | omega | (refine ⟨?_, ?_⟩ <;> omega) | (simp; done) | (simp; omega) | (intros; omega)))) | rotate_left)); (try exact leK_nil rfl); (all_goals (try (simp only [xr, simprocAttr]; try refine int_eq1 ?_))))
  · have hc := of_decide_eq_false hc
    have hk' : k = asks.length := by omega
    subst hk'
    rw [List.take_length] at hal
    (repeat (first | refine awp_seq ?_ | refine awp_block ?_ | ((first | refine awp_skip ?_ | refine awp_exit ?_); try simp only [xq, simprocAttr]) | (refine awp_ret ?_; try simp only [xq, simprocAttr]) | ((first | refine awp_reg ?_ | refine awp_anyR (by rfl) (by kernel_rfl) (by kernel_rfl) ?_); simp only [xr, simprocAttr]; repeat (guard_target =~ _ ∧ _; refine And.intro (by first | trivial | (unfold I64; omega) | omega | (refine ⟨?_, ?_⟩ <;> omega) | (simp; done) | (simp; omega) | (intros; omega)) ?_))))
    (simp only [xe, simprocAttr]; refine ⟨_, rfl, rfl, Imp.eq ?_⟩)
    show AV.bool _ = AV.bool _
    unfold asksB
    rw [hal, Bool.and_true, dec_len]
theorem asks_at {m s : List (List Int)} {g : GmT} (hg : GmFull m s g) {asks : List Int} (h : asksB s g asks = true) {i : Nat} (hi : i < asks.length) : ∃ r : Nat, asks.getD i 0 = r ∧ i < g.ch.length ∧ r < (g.ch.getD i []).length := by
  unfold asksB at h
  rw [Bool.and_eq_true, beq_iff_eq, allIn_iff] at h
  have h1 := h.2 (asks.getD i 0) (by rw [getD_in hi]; exact List.getElem_mem hi)
  have hcl := hg.clen
  have h2 := hg.c.len i (by omega)
  exact ⟨(asks.getD i 0).toNat, by omega, by omega, by omega⟩
end Go.Proofs.Ytlmhajdhpdpanaa
