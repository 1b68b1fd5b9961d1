/- Work functions on the machine: the reference's. Conditions: problems that are right. -/
import Derived.Test.YtlhdeofkhajigaaWorkP
set_option linter.all false
set_option linter.unusedSimpArgs false
set_option linter.unusedVariables false
namespace Go.Proofs.Ytlhdeofkhajigaa
open Go Go.RowKit Am

theorem l1Least_d (a b : Int) : Does Try.prog 117 [.int a, .int b] (.imm (.int (min a b))) := by
  refine spec_imm Try.func117 rfl Try.ntmps117 cfOK (fun _ _ => by kernel_rfl) rfl (Nat.le_of_ble_eq_true rfl) ?_
  intro M0 w0
  rw [Try.results117]
  refine amGo ?_
  refine awp_cond amQ (fun hc => ?_) (fun hc => ?_)
  · have hc := of_decide_eq_true hc
    refine amGo ?_
    (simp only [xe, simprocAttr]; refine ⟨_, rfl, rfl, Imp.eq ?_⟩)
    rw [show min a b = a by omega]
  · have hc := of_decide_eq_false hc
    refine amGo ?_
    (simp only [xe, simprocAttr]; refine ⟨_, rfl, rfl, Imp.eq ?_⟩)
    rw [show min a b = b by omega]
theorem l8Least_d (w : List Int) (hw : w ≠ []) : Does Try.prog 110 [.sl (.ints w)] (.imm (.int (leastM w (w.length - 1)))) := by
  have hl : 0 < w.length := List.length_pos_iff.2 hw
  refine spec_imm Try.func110 rfl Try.ntmps110 cfOK (fun _ _ => by kernel_rfl) rfl (Nat.le_of_ble_eq_true rfl) ?_
  intro M0 w0
  rw [Try.results110]
  (refine awp_fits 0 rfl fun hf => ?_; simp only [xp, simprocAttr] at hf; simp only [xf, simprocAttr] at hf)
  refine amGo ?_
  refine awp_rounds (α := Nat) (fun k => [(3, true, .int (leastM w k)), (4, true, .int ((k : Int) + 1))]) [0] (fun _ => []) (fun k => k ≤ w.length - 1) (fun k => w.length - 1 - k) 0 (by ((try simp only [xk]); (repeat (refine leK_cons ?_ ?_; first | (exact amE) | rotate_left)); (try exact leK_nil rfl); (all_goals (try (simp only [xr, simprocAttr]; try refine int_eq1 ?_))))) (Nat.zero_le _) fun k hk => ?_
  simp only [xr, simprocAttr]
  refine amGo ?_
  refine awp_cond amQ (fun hc => ?_) (fun hc => ?_)
  · have hc := of_decide_eq_true hc
    have hk' : k + 1 < w.length := by omega
    refine amGo ?_
    ((try refine Or.inl ?_); refine ⟨_, (l1Least_d _ _), .inl rfl, ?_⟩; refine amC ?_)
    refine amGo ?_
    refine ⟨k + 1, by omega, by omega, .inl ?_⟩
    ((try simp only [xk]); (repeat (refine leK_cons ?_ ?_; first | (exact amE) | rotate_left)); (try exact leK_nil rfl); (all_goals (try (simp only [xr, simprocAttr]; try refine int_eq1 ?_))))
  · have hc := of_decide_eq_false hc
    have hk' : k = w.length - 1 := by omega
    subst hk'
    refine amGo ?_
    (simp only [xe, simprocAttr]; refine ⟨_, rfl, rfl, Imp.eq ?_⟩)
    rfl
theorem sliceMin_d (w : List Int) (hw : w ≠ []) : Does Try.prog 84 [.sl (.ints w)] (.imm (.int (leastM w (w.length - 1)))) := by
  have hl : 0 < w.length := List.length_pos_iff.2 hw
  refine spec_imm Try.func84 rfl Try.ntmps84 cfOK (fun _ _ => by kernel_rfl) rfl (Nat.le_of_ble_eq_true rfl) ?_
  intro M0 w0
  rw [Try.results84]
  (refine awp_fits 0 rfl fun hf => ?_; simp only [xp, simprocAttr] at hf; simp only [xf, simprocAttr] at hf)
  refine amGo ?_
  refine awp_cond amQ (fun hq => ?_) (fun hq => ?_)
  · have hq := of_decide_eq_true hq
    omega
  refine amGo ?_
  refine awp_rounds (α := Nat) (fun k => [(3, true, .int (leastM w k)), (4, true, .int ((k : Int) + 1))]) [0] (fun _ => []) (fun k => k ≤ w.length - 1) (fun k => w.length - 1 - k) 0 (by ((try simp only [xk]); (repeat (refine leK_cons ?_ ?_; first | (exact amE) | rotate_left)); (try exact leK_nil rfl); (all_goals (try (simp only [xr, simprocAttr]; try refine int_eq1 ?_))))) (Nat.zero_le _) fun k hk => ?_
  simp only [xr, simprocAttr]
  refine amGo ?_
  refine awp_cond amQ (fun hc => ?_) (fun hc => ?_)
  · have hc := of_decide_eq_true hc
    have hk' : k + 1 < w.length := by omega
    refine amGo ?_
    refine ⟨k + 1, by omega, by omega, .inl ?_⟩
    ((try simp only [xk]); (repeat (refine leK_cons ?_ ?_; first | (exact amE) | rotate_left)); (try exact leK_nil rfl); (all_goals (try (simp only [xr, simprocAttr]; try refine int_eq1 ?_))))
  · have hc := of_decide_eq_false hc
    have hk' : k = w.length - 1 := by omega
    subst hk'
    refine amGo ?_
    (simp only [xe, simprocAttr]; refine ⟨_, rfl, rfl, Imp.eq ?_⟩)
    rfl
theorem l8Next_d (m s : List (List Int)) (w : List Int) (B : Int) (r : Nat) (hp : probB m s = true) (hw : WkOK m w B) (hB : B ≤ 1000000) (hr : r < s.length) : Does Try.prog 96 [prA m s, .sl (.ints w), .int r] (.imm (.sl (.ints (nextM m s w r)))) := by
  have hl := prob_len hp
  have hrow := prob_rows hp r hr
  have hwl := hw.len
  refine spec_imm Try.func96 rfl Try.ntmps96 cfOK (fun _ _ => by kernel_rfl) rfl (Nat.le_of_ble_eq_true rfl) ?_
  intro M0 w0
  rw [Try.results96]
  refine amGo ?_
  refine awp_rounds (α := Nat) (fun t => [(8, true, .int t)]) [1, 2, 3, 7] (fun t => [.box [.b (.sl (.ii m)), .b (.sl (.ii s))], .row 3 (.ints ((List.range t).map fun x => wAt m s w r x))]) (fun t => t ≤ m.length) (fun t => m.length - t) 0 (by ((try simp only [xk]); (repeat (refine leK_cons ?_ ?_; first | (exact amE) | rotate_left)); (try exact leK_nil rfl); (all_goals (try (simp only [xr, simprocAttr]; try refine int_eq1 ?_))))) (Nat.zero_le _) fun t ht => ?_
  have hlt : ((List.range t).map fun x => wAt m s w r x).length = t := by simp
  simp only [xr, simprocAttr]
  refine amGo ?_
  refine awp_cond amQ (fun hc => ?_) (fun hc => ?_)
  · have hc := of_decide_eq_true hc
    have ht' : t < m.length := by omega
    refine amGo ?_
    refine awp_rounds (α := Nat) (fun y => [(9, true, .int (minS (fun y => decide (0 ≤ at2 s r y)) (wOff m s w r t) y)), (10, true, .int y)]) [1, 2, 3, 7, 8] (fun _ => [.box [.b (.sl (.ii m)), .b (.sl (.ii s))], .row 3 (.ints ((List.range t).map fun x => wAt m s w r x))]) (fun y => y ≤ m.length) (fun y => m.length - y) 0 (by ((try simp only [xk]); (repeat (refine leK_cons ?_ ?_; first | (exact amE) | rotate_left)); (try exact leK_nil rfl); (all_goals (try (simp only [xr, simprocAttr]; try refine int_eq1 ?_))))) (Nat.zero_le _) fun y hy => ?_
    simp only [xr, simprocAttr]
    refine amGo ?_
    refine awp_cond amQ (fun he => ?_) (fun he => ?_)
    · have he := of_decide_eq_true he
      have hy' : y < m.length := by omega
      refine amGo ?_
      refine awp_cond amQ (fun hg => ?_) (fun hg => ?_)
      · have hg : ¬ 0 ≤ at2 s r y := by have hg := of_decide_eq_true hg; unfold at2; omega
        refine amGo ?_
        refine ⟨y + 1, by omega, by omega, .inl ?_⟩
        ((try simp only [xk]); (repeat (refine leK_cons ?_ ?_; first | (exact amE) | rotate_left)); (try exact leK_nil rfl); (all_goals (try (simp only [xr, simprocAttr]; try refine int_eq1 ?_))))
        rw [minS, if_neg (by simpa using hg)]
      · have hg : 0 ≤ at2 s r y := by have hg := of_decide_eq_false hg; unfold at2; omega
        have h1 := hw.at_ y hy'
        have h2 := prob_s hp hr y hy'
        have h3 := (prob_m hp hy').2 t ht'
        have h4 := (prob_m hp hy').1
        have hof : wOff m s w r t y = w.getD y 0 + at2 s r y + at2 m y t := rfl
        unfold at2 at h2 h3 hof
        refine amGo ?_
        refine awp_cond amQ (fun hq => ?_) (fun hq => ?_)
        · have hq : (minS (fun y => decide (0 ≤ at2 s r y)) (wOff m s w r t) y < 0 ∨ wOff m s w r t y < minS (fun y => decide (0 ≤ at2 s r y)) (wOff m s w r t) y) := bif_or.1 hq
          refine amGo ?_
          refine ⟨y + 1, by omega, by omega, .inl ?_⟩
          ((try simp only [xk]); (repeat (refine leK_cons ?_ ?_; first | (exact amE) | rotate_left)); (try exact leK_nil rfl); (all_goals (try (simp only [xr, simprocAttr]; try refine int_eq1 ?_))))
          rw [minS, if_pos (decide_eq_true hg), if_pos hq]
          rfl
        · have hq : ¬ (minS (fun y => decide (0 ≤ at2 s r y)) (wOff m s w r t) y < 0 ∨ wOff m s w r t y < minS (fun y => decide (0 ≤ at2 s r y)) (wOff m s w r t) y) := bif_or_not.1 hq
          refine amGo ?_
          refine ⟨y + 1, by omega, by omega, .inl ?_⟩
          ((try simp only [xk]); (repeat (refine leK_cons ?_ ?_; first | (exact amE) | rotate_left)); (try exact leK_nil rfl); (all_goals (try (simp only [xr, simprocAttr]; try refine int_eq1 ?_))))
          rw [minS, if_pos (decide_eq_true hg), if_neg hq]
    · have he := of_decide_eq_false he
      have hy' : y = m.length := by omega
      subst hy'
      rw [(wAt_ok hp hw hB hr ht').1]
      refine amGo ?_
      refine ⟨t + 1, by omega, by omega, .inl ?_⟩
      ((try simp only [xk]); (repeat (refine leK_cons ?_ ?_; first | (exact amE) | rotate_left)); (refine leK_nil ?_; exact (by rw [List.range_succ, List.map_append]; rfl)); (all_goals (try (simp only [xr, simprocAttr]; try refine int_eq1 ?_))))
  · have hc := of_decide_eq_false hc
    have ht' : t = m.length := by omega
    subst ht'
    refine amGoR ?_
    (refine awp_frz 1 rfl ?_; simp only [xz, simprocAttr])
    refine amGo ?_
    (simp only [xe, simprocAttr]; refine ⟨_, rfl, rfl, Imp.eq ?_⟩)
    rfl
end Go.Proofs.Ytlhdeofkhajigaa
