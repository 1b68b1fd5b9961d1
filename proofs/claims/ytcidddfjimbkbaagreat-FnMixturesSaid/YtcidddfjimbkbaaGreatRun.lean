/- Runs of an algorithm, on the machine. Conditions: problems, algorithms and sequences that are right. -/
import Derived.Test.YtcidddfjimbkbaaGreatRU
import Derived.Test.YtcidddfjimbkbaaGreatGFR
set_option linter.all false
set_option linter.unusedSimpArgs false
set_option linter.unusedVariables false
namespace Go.Proofs.YtcidddfjimbkbaaGreat
open Go Go.RowKit Am

theorem run_at {m s next : List (List Int)} (ha : algB m s next = true) {x : Nat} (hx : x < m.length) {rs : List Int} (hq : reqsB s.length rs) {k : Nat} (hk : k < rs.length) :
    ∃ r : Nat, rs.getD k 0 = r ∧ r < s.length ∧ endS next x (rs.take k) < m.length ∧ endS next x (rs.take (k + 1)) < m.length ∧ next.length = m.length ∧ (next.getD (endS next x (rs.take k)) []).length = s.length ∧ 0 ≤ at2 s r (endS next x (rs.take (k + 1))) ∧
      (next.getD (endS next x (rs.take k)) []).getD (rs.getD k 0).toNat 0 = (endS next x (rs.take (k + 1)) : Int) ∧ (next.getD (endS next x (rs.take k)) []).getD r 0 = (endS next x (rs.take (k + 1)) : Int) := by
  obtain ⟨r, hr, hr'⟩ := hq.at hk
  have hlt := endS_lt ha (rs.take k) x hx (hq.take k)
  obtain ⟨a1, a2, a3, a4, a5⟩ := alg_at ha hlt hr'
  rw [← hr] at a1 a2 a3
  rw [← endS_take hk] at a1 a2 a3
  refine ⟨r, hr, hr', hlt, a1, a5, a4, a3, ?_, a2⟩
  rw [hr, Int.toNat_natCast]
  exact a2
theorem l8States_d (m s next : List (List Int)) (x : Nat) (rs : List Int) (ha : algB m s next = true) (hx : x < m.length) (hq : reqsB s.length rs) (hl : rs.length ≤ 1000) :
    Does Tryz.prog 116 [.sl (.ii next), .int x, .sl (.ints rs)] (.imm (.sl (.ints (statesS next x rs)))) := by
  refine spec_imm Tryz.func116 rfl Tryz.ntmps116 cfOK (fun _ _ => by kernel_rfl) rfl (Nat.le_of_ble_eq_true rfl) ?_
  intro M0 w0
  rw [Tryz.results116]
  (repeat (first | refine g1 ?_ | refine g2 ?_ | ((first | refine g3 ?_ | refine g4 ?_ | refine g5 ?_); try simp only [xq, simprocAttr]) | ((first | refine g6 ?_ | refine g7 ?_); simp only [xr, simprocAttr]; repeat (guard_target =~ _ ∧ _; refine ⟨by first | trivial | (unfold I64; omega) | omega | (simp <;> omega) | (intros; omega), ?_⟩))))
  refine awp_rounds (α := Nat) (fun k => [(9, true, .int k), (8, true, .int (endS next x (rs.take k)))]) [0, 2, 7] (fun k => [.row 3 (.ints (statesS next x (rs.take k)))]) (fun k => k ≤ rs.length) (fun k => rs.length - k) 0 (by ((try simp only [xk]); (repeat (refine leK_cons ?_ ?_; first | (focus (first | rfl | (simp only [xr, simprocAttr]; done) | (simp only [xr, simprocAttr]; refine int_eq1 ?_; first | trivial | (unfold I64; omega) | omega | (simp <;> omega) | (intros; omega)))) | rotate_left)); (try exact leK_nil rfl); (all_goals (try (simp only [xr, simprocAttr]; try refine int_eq1 ?_))))) (Nat.zero_le _) fun k hk => ?_
  have hsl := statesS_len (next := next) x (rs.take k)
  rw [List.length_take] at hsl
  simp only [xr, simprocAttr]
  (repeat (first | refine g1 ?_ | refine g2 ?_ | ((first | refine g3 ?_ | refine g4 ?_ | refine g5 ?_); try simp only [xq, simprocAttr]) | ((first | refine g6 ?_ | refine g7 ?_); simp only [xr, simprocAttr]; repeat (guard_target =~ _ ∧ _; refine ⟨by first | trivial | (unfold I64; omega) | omega | (simp <;> omega) | (intros; omega), ?_⟩))))
  refine awp_cond (by first | rfl | (simp only [xr, simprocAttr]; rfl)) (fun hc => ?_) (fun hc => ?_)
  · have hk' : k < rs.length := by have hc := of_decide_eq_true hc; omega
    obtain ⟨r, hr, hr', hlt, hlt2, h1, h2, h3, h4, h5⟩ := run_at ha hx hq hk'
    (repeat (first | refine g1 ?_ | refine g2 ?_ | ((first | refine g3 ?_ | refine g4 ?_ | refine g5 ?_); try simp only [xq, simprocAttr]) | ((first | refine g6 ?_ | refine g7 ?_); simp only [xr, simprocAttr]; repeat (guard_target =~ _ ∧ _; refine ⟨by first | trivial | (unfold I64; omega) | omega | (simp <;> omega) | (intros; omega), ?_⟩))))
    rw [h4]
    refine ⟨k + 1, by omega, by omega, .inl ?_⟩
    ((try simp only [xk]); (repeat (refine leK_cons ?_ ?_; first | (focus (first | rfl | (simp only [xr, simprocAttr]; done) | (simp only [xr, simprocAttr]; refine int_eq1 ?_; first | trivial | (unfold I64; omega) | omega | (simp <;> omega) | (intros; omega)))) | rotate_left)); (refine leK_nil ?_; exact (by rw [statesS_take hk'])); (all_goals (try (simp only [xr, simprocAttr]; try refine int_eq1 ?_))))
  · have hk' : k = rs.length := by have hc := of_decide_eq_false hc; omega
    subst hk'
    (repeat (first | refine g1 ?_ | refine g2 ?_ | ((first | refine g3 ?_ | refine g4 ?_); try simp only [xq, simprocAttr]) | ((first | refine g6 ?_ | refine g7 ?_); simp only [xr, simprocAttr]; repeat (guard_target =~ _ ∧ _; refine ⟨by first | trivial | (unfold I64; omega) | omega | (simp <;> omega) | (intros; omega), ?_⟩))))
    (refine awp_frz 0 rfl ?_; simp only [xz, simprocAttr])
    (repeat (first | refine g1 ?_ | refine g2 ?_ | ((first | refine g3 ?_ | refine g4 ?_ | refine g5 ?_); try simp only [xq, simprocAttr]) | ((first | refine g6 ?_ | refine g7 ?_); simp only [xr, simprocAttr]; repeat (guard_target =~ _ ∧ _; refine ⟨by first | trivial | (unfold I64; omega) | omega | (simp <;> omega) | (intros; omega), ?_⟩))))
    (simp only [xe, simprocAttr]; refine ⟨_, rfl, rfl, Imp.eq ?_⟩)
    rw [List.take_length]
theorem l8Sum_d (m s next : List (List Int)) (x : Nat) (rs : List Int) (hp : probB m s = true) (ha : algB m s next = true) (hx : x < m.length) (hq : reqsB s.length rs) (hl : rs.length ≤ 1000) :
    Does Tryz.prog 137 [prA m s, .int x, .sl (.ints rs), .sl (.ints (statesS next x rs))] (.imm (.int (costS m s next x rs))) := by
  refine spec_imm Tryz.func137 rfl Tryz.ntmps137 cfOK (fun _ _ => by kernel_rfl) rfl (Nat.le_of_ble_eq_true rfl) ?_
  intro M0 w0
  rw [Tryz.results137]
  have hsl := statesS_len (next := next) x rs
  (repeat (first | refine g1 ?_ | refine g2 ?_ | ((first | refine g3 ?_ | refine g4 ?_ | refine g5 ?_); try simp only [xq, simprocAttr]) | ((first | refine g6 ?_ | refine g7 ?_); simp only [xr, simprocAttr]; repeat (guard_target =~ _ ∧ _; refine ⟨by first | trivial | (unfold I64; omega) | omega | (simp <;> omega) | (intros; omega), ?_⟩))))
  refine awp_rounds (α := Nat) (fun k => [(11, true, .int k), (9, true, .int (costS m s next x (rs.take k))), (10, true, .int (endS next x (rs.take k)))]) [2, 3, 4] (fun _ => [.box [.b (.sl (.ii m)), .b (.sl (.ii s))]]) (fun k => k ≤ rs.length) (fun k => rs.length - k) 0 (by ((try simp only [xk]); (repeat (refine leK_cons ?_ ?_; first | (focus (first | rfl | (simp only [xr, simprocAttr]; done) | (simp only [xr, simprocAttr]; refine int_eq1 ?_; first | trivial | (unfold I64; omega) | omega | (simp <;> omega) | (intros; omega)))) | rotate_left)); (try exact leK_nil rfl); (all_goals (try (simp only [xr, simprocAttr]; try refine int_eq1 ?_))))) (Nat.zero_le _) fun k hk => ?_
  simp only [xr, simprocAttr]
  (repeat (first | refine g1 ?_ | refine g2 ?_ | ((first | refine g3 ?_ | refine g4 ?_ | refine g5 ?_); try simp only [xq, simprocAttr]) | ((first | refine g6 ?_ | refine g7 ?_); simp only [xr, simprocAttr]; repeat (guard_target =~ _ ∧ _; refine ⟨by first | trivial | (unfold I64; omega) | omega | (simp <;> omega) | (intros; omega), ?_⟩))))
  refine awp_cond (by first | rfl | (simp only [xr, simprocAttr]; rfl)) (fun hc => ?_) (fun hc => ?_)
  · have hk' : k < rs.length := by have hc := of_decide_eq_true hc; omega
    obtain ⟨r, hr, hr', hlt, hlt2, h1, h2, h3, h4, h5⟩ := run_at ha hx hq hk'
    have hst := statesS_getD (next := next) (x := x) hk'
    have hc1 := costS_bd hp ha (rs.take k) x hx (hq.take k)
    rw [List.length_take] at hc1
    have h6 := prob_m hp hlt
    have h7 := h6.1
    have h8 := h6.2 _ hlt2
    have h9 := prob_rows hp r hr'
    have h10 := prob_s hp hr' _ hlt2
    have hstep := costS_take (m := m) (s := s) (next := next) (x := x) hk'
    rw [hr, Int.toNat_natCast] at hstep
    unfold at2 at h8 h10 hstep
    (repeat (first | refine g1 ?_ | refine g2 ?_ | ((first | refine g3 ?_ | refine g4 ?_ | refine g5 ?_); try simp only [xq, simprocAttr]) | ((first | refine g6 ?_ | refine g7 ?_); simp only [xr, simprocAttr]; repeat (guard_target =~ _ ∧ _; refine ⟨by first | trivial | (unfold I64; omega) | omega | (simp <;> omega) | (intros; omega), ?_⟩))))
    rw [hst, hr]
    simp only [xr, simprocAttr]
    (repeat (guard_target =~ _ ∧ _; refine ⟨by first | trivial | (unfold I64; omega) | omega | (simp <;> omega) | (intros; omega), ?_⟩))
    (repeat (first | refine g1 ?_ | refine g2 ?_ | ((first | refine g3 ?_ | refine g4 ?_ | refine g5 ?_); try simp only [xq, simprocAttr]) | ((first | refine g6 ?_ | refine g7 ?_); simp only [xr, simprocAttr]; repeat (guard_target =~ _ ∧ _; refine ⟨by first | trivial | (unfold I64; omega) | omega | (simp <;> omega) | (intros; omega), ?_⟩))))
    rw [hst]
    refine ⟨k + 1, by omega, by omega, .inl ?_⟩
    ((try simp only [xk]); (repeat (refine leK_cons ?_ ?_; first | (focus (first | rfl | (simp only [xr, simprocAttr]; done) | (simp only [xr, simprocAttr]; refine int_eq1 ?_; first | trivial | (unfold I64; omega) | omega | (simp <;> omega) | (intros; omega)))) | rotate_left)); (try exact leK_nil rfl); (all_goals (try (simp only [xr, simprocAttr]; try refine int_eq1 ?_))))
  · have hk' : k = rs.length := by have hc := of_decide_eq_false hc; omega
    subst hk'
    (repeat (first | refine g1 ?_ | refine g2 ?_ | ((first | refine g3 ?_ | refine g4 ?_ | refine g5 ?_); try simp only [xq, simprocAttr]) | ((first | refine g6 ?_ | refine g7 ?_); simp only [xr, simprocAttr]; repeat (guard_target =~ _ ∧ _; refine ⟨by first | trivial | (unfold I64; omega) | omega | (simp <;> omega) | (intros; omega), ?_⟩))))
    (simp only [xe, simprocAttr]; refine ⟨_, rfl, rfl, Imp.eq ?_⟩)
    rw [List.take_length]
theorem l8Cost_d (m s next : List (List Int)) (x : Nat) (rs : List Int) (hp : probB m s = true) (ha : algB m s next = true) (hx : x < m.length) (hq : reqsB s.length rs) (hl : rs.length ≤ 1000) :
    Does Tryz.prog 88 [prA m s, .sl (.ii next), .int x, .sl (.ints rs)] (.imm (.int (costS m s next x rs))) := by
  refine spec_imm Tryz.func88 rfl Tryz.ntmps88 cfOK (fun _ _ => by kernel_rfl) rfl (Nat.le_of_ble_eq_true rfl) ?_
  intro M0 w0
  rw [Tryz.results88]
  (repeat (first | refine g1 ?_ | refine g2 ?_ | ((first | refine g3 ?_ | refine g4 ?_ | refine g5 ?_); try simp only [xq, simprocAttr]) | ((first | refine g6 ?_ | refine g7 ?_); simp only [xr, simprocAttr]; repeat (guard_target =~ _ ∧ _; refine ⟨by first | trivial | (unfold I64; omega) | omega | (simp <;> omega) | (intros; omega), ?_⟩))))
  ((try refine Or.inl ?_); refine ⟨_, (l8States_d m s next x rs ha hx hq hl), .inr (by and_intros <;> first | rfl | (simp; done)), ?_⟩; (try simp only [xr, simprocAttr]); repeat (guard_target =~ _ ∧ _; refine ⟨by first | trivial | (unfold I64; omega) | omega | (simp <;> omega) | (intros; omega), ?_⟩))
  ((try refine Or.inl ?_); refine ⟨_, (l8Sum_d m s next x rs hp ha hx hq hl), .inl rfl, ?_⟩; (try simp only [xr, simprocAttr]); repeat (guard_target =~ _ ∧ _; refine ⟨by first | trivial | (unfold I64; omega) | omega | (simp <;> omega) | (intros; omega), ?_⟩))
  (repeat (first | refine g1 ?_ | refine g2 ?_ | ((first | refine g3 ?_ | refine g4 ?_ | refine g5 ?_); try simp only [xq, simprocAttr]) | ((first | refine g6 ?_ | refine g7 ?_); simp only [xr, simprocAttr]; repeat (guard_target =~ _ ∧ _; refine ⟨by first | trivial | (unfold I64; omega) | omega | (simp <;> omega) | (intros; omega), ?_⟩))))
  (simp only [xe, simprocAttr]; refine ⟨_, rfl, rfl, Imp.eq ?_⟩)
  rfl
theorem ran_d (m s next : List (List Int)) (x : Nat) (rs : List Int) (hp : probB m s = true) (ha : algB m s next = true) (hx : x < m.length) (hq : reqsB s.length rs) (hl : rs.length ≤ 1000) :
    Does Tryz.prog 50 [prA m s, .sl (.ii next), .int x, .sl (.ints rs)] (.imm (.tup [.one (.b (.sl (.ints (statesS next x rs)))), .one (.b (.val (.int .i64 (costS m s next x rs))))])) := by
  refine spec_imm Tryz.func50 rfl Tryz.ntmps50 cfOK (fun _ _ => by kernel_rfl) rfl (Nat.le_of_ble_eq_true rfl) ?_
  intro M0 w0
  rw [Tryz.results50]
  (repeat (first | refine g1 ?_ | refine g2 ?_ | ((first | refine g3 ?_ | refine g4 ?_ | refine g5 ?_); try simp only [xq, simprocAttr]) | ((first | refine g6 ?_ | refine g7 ?_); simp only [xr, simprocAttr]; repeat (guard_target =~ _ ∧ _; refine ⟨by first | trivial | (unfold I64; omega) | omega | (simp <;> omega) | (intros; omega), ?_⟩))))
  refine awp_rounds (α := Nat) (fun k => [(18, true, .int k), (11, true, .int (costS m s next x (rs.take k))), (2, true, .int (endS next x (rs.take k)))]) [1, 4, 10, 16, 17] (fun k => [.box [.b (.sl (.ii m)), .b (.sl (.ii s))], .row 3 (.ints (statesS next x (rs.take k)))]) (fun k => k ≤ rs.length) (fun k => rs.length - k) 0 (by ((try simp only [xk]); (repeat (refine leK_cons ?_ ?_; first | (focus (first | rfl | (simp only [xr, simprocAttr]; done) | (simp only [xr, simprocAttr]; refine int_eq1 ?_; first | trivial | (unfold I64; omega) | omega | (simp <;> omega) | (intros; omega)))) | rotate_left)); (try exact leK_nil rfl); (all_goals (try (simp only [xr, simprocAttr]; try refine int_eq1 ?_))))) (Nat.zero_le _) fun k hk => ?_
  have hsl := statesS_len (next := next) x (rs.take k)
  rw [List.length_take] at hsl
  simp only [xr, simprocAttr]
  (repeat (first | refine g1 ?_ | refine g2 ?_ | ((first | refine g3 ?_ | refine g4 ?_ | refine g5 ?_); try simp only [xq, simprocAttr]) | ((first | refine g6 ?_ | refine g7 ?_); simp only [xr, simprocAttr]; repeat (guard_target =~ _ ∧ _; refine ⟨by first | trivial | (unfold I64; omega) | omega | (simp <;> omega) | (intros; omega), ?_⟩))))
  refine awp_cond (by first | rfl | (simp only [xr, simprocAttr]; rfl)) (fun hc => ?_) (fun hc => ?_)
  · have hk' : k < rs.length := by have hc := of_decide_eq_true hc; omega
    obtain ⟨r, hr, hr', hlt, hlt2, h1, h2, h3, h4, h5⟩ := run_at ha hx hq hk'
    have hc1 := costS_bd hp ha (rs.take k) x hx (hq.take k)
    rw [List.length_take] at hc1
    have h8 := (prob_m hp hlt).2 _ hlt2
    have h10 := prob_s hp hr' _ hlt2
    have hstep := costS_take (m := m) (s := s) (next := next) (x := x) hk'
    rw [hr, Int.toNat_natCast] at hstep
    (repeat (first | refine g1 ?_ | refine g2 ?_ | ((first | refine g3 ?_ | refine g4 ?_ | refine g5 ?_); try simp only [xq, simprocAttr]) | ((first | refine g6 ?_ | refine g7 ?_); simp only [xr, simprocAttr]; repeat (guard_target =~ _ ∧ _; refine ⟨by first | trivial | (unfold I64; omega) | omega | (simp <;> omega) | (intros; omega), ?_⟩))))
    ((try refine Or.inl ?_); refine ⟨_, (cost_i m s (endS next x (rs.take k)) (endS next x (rs.take (k + 1))) r _ _ _ rfl h4 hr hp hlt hlt2 hr'), .inl rfl, ?_⟩; (try simp only [xr, simprocAttr]); repeat (guard_target =~ _ ∧ _; refine ⟨by first | trivial | (unfold I64; omega) | omega | (simp <;> omega) | (intros; omega), ?_⟩))
    (repeat (first | refine g1 ?_ | refine g2 ?_ | ((first | refine g3 ?_ | refine g4 ?_ | refine g5 ?_); try simp only [xq, simprocAttr]) | ((first | refine g6 ?_ | refine g7 ?_); simp only [xr, simprocAttr]; repeat (guard_target =~ _ ∧ _; refine ⟨by first | trivial | (unfold I64; omega) | omega | (simp <;> omega) | (intros; omega), ?_⟩))))
    rw [h4]
    refine ⟨k + 1, by omega, by omega, .inl ?_⟩
    ((try simp only [xk]); (repeat (refine leK_cons ?_ ?_; first | (focus (first | rfl | (simp only [xr, simprocAttr]; done) | (simp only [xr, simprocAttr]; refine int_eq1 ?_; first | trivial | (unfold I64; omega) | omega | (simp <;> omega) | (intros; omega)))) | rotate_left)); (refine leK_nil ?_; exact (by rw [statesS_take hk'])); (all_goals (try (simp only [xr, simprocAttr]; try refine int_eq1 ?_))))
  · have hk' : k = rs.length := by have hc := of_decide_eq_false hc; omega
    subst hk'
    (repeat (first | refine g1 ?_ | refine g2 ?_ | ((first | refine g3 ?_ | refine g4 ?_); try simp only [xq, simprocAttr]) | ((first | refine g6 ?_ | refine g7 ?_); simp only [xr, simprocAttr]; repeat (guard_target =~ _ ∧ _; refine ⟨by first | trivial | (unfold I64; omega) | omega | (simp <;> omega) | (intros; omega), ?_⟩))))
    (refine awp_frz 1 rfl ?_; simp only [xz, simprocAttr])
    (repeat (first | refine g1 ?_ | refine g2 ?_ | ((first | refine g3 ?_ | refine g4 ?_ | refine g5 ?_); try simp only [xq, simprocAttr]) | ((first | refine g6 ?_ | refine g7 ?_); simp only [xr, simprocAttr]; repeat (guard_target =~ _ ∧ _; refine ⟨by first | trivial | (unfold I64; omega) | omega | (simp <;> omega) | (intros; omega), ?_⟩))))
    (simp only [xe, simprocAttr]; refine ⟨[_, _], ⟨rfl, rfl, trivial⟩, rfl, Imp.eq ?_⟩)
    rw [List.take_length]
end Go.Proofs.YtcidddfjimbkbaaGreat
