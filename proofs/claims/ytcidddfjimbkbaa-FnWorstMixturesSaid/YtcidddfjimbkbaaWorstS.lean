/- All sequences with the closure of WorstOfMixture, on the machine. Conditions: a problem, a mixture and a state that are right. -/
import Derived.Test.YtcidddfjimbkbaaMixed
import Derived.Test.YtcidddfjimbkbaaCloneA
import Derived.Test.YtcidddfjimbkbaaWorstP
set_option linter.all false
set_option linter.unusedSimpArgs false
set_option linter.unusedVariables false
namespace Go.Proofs.Ytcidddfjimbkbaa
open Go Go.RowKit Am

structure WoOK (m s : List (List Int)) (ws : List Int) (ns : List (List (List Int))) (x : Nat) : Prop where
  mix : MixOK m s ws ns
  prob : probB m s = true
  lt : x < m.length
def coW (m s : List (List Int)) (ws : List Int) (ns : List (List (List Int))) (x : Nat) (rs : List Int) : Int := mixedS m s ws ns x rs ns.length
section
variable {m s : List (List Int)} {ws : List Int} {ns : List (List (List Int))} {x : Nat}
theorem WoOK.bd (h : WoOK m s ws ns x) {rs : List Int} (hq : reqsB s.length rs) (hl : rs.length ≤ 4) : 0 ≤ coW m s ws ns x rs ∧ coW m s ws ns x rs ≤ 1000000 := by
  have h1 := mixedS_bd h.mix h.prob h.lt hq (by omega) ns.length (Nat.le_refl _)
  have h2 := h.mix.hi
  unfold coW
  omega
end
abbrev bxI (c : Int) : Ob := .box [.b (.val (.int .i64 c))]
set_option maxHeartbeats 2000000 in
theorem worst1_n {m s : List (List Int)} {ws : List Int} {ns : List (List (List Int))} {x : Nat} (h : WoOK m s ws ns x) {rs : List Int} (hq : reqsB s.length rs) (hl : rs.length ≤ 4) {w : List Int} (hw : w = rs) : DoesH Try.prog 32 [.lf (.own 0), .lf (.ip [.sl (.ii m), .sl (.ii s)] 0), .lf (.ip [.sl (.ints ws), .sl (.iii ns)] 0), .lf (.ip [.val (.int .i64 x)] 0), .lf (.ptr 1 0), .lf (.ptr 2 0)] [true, true, true] [.row 3 (.ints rs), bxI (-1), bxN] (.tup []) [.row 3 (.ints rs), bxI (coW m s ws ns x rs), .box [.own 3], .row 3 (.ints w)] := by
  subst hw
  have hb := h.bd hq hl
  refine spec_hB Try.func32 rfl Try.ntmps32 cfOK (fun _ _ => by kernel_rfl) rfl rfl rfl ?_
  intro M0 w0 S φ0
  rw [Try.results32]
  (refine awp_fits 0 rfl fun hf => ?_; simp only [xp, simprocAttr] at hf; simp only [xf, simprocAttr] at hf)
  (repeat (first | refine g1 ?_ | refine g2 ?_ | ((first | refine g3 ?_ | refine g4 ?_ | refine g5 ?_); try simp only [xq, simprocAttr]) | ((first | refine g6 ?_ | refine g7 ?_); simp only [xr, simprocAttr]; repeat (guard_target =~ _ ∧ _; refine ⟨by first | trivial | (unfold I64; omega) | omega | (simp <;> omega) | (intros; omega), ?_⟩))))
  ((try refine Or.inl ?_); refine ⟨_, (mixed_d m s ws ns x w h.mix h.prob h.lt hq (by omega)), .inl rfl, ?_⟩; (try simp only [xr, simprocAttr]); repeat (guard_target =~ _ ∧ _; refine ⟨by first | trivial | (unfold I64; omega) | omega | (simp <;> omega) | (intros; omega), ?_⟩))
  (repeat (first | refine g1 ?_ | refine g2 ?_ | ((first | refine g3 ?_ | refine g4 ?_ | refine g5 ?_); try simp only [xq, simprocAttr]) | ((first | refine g6 ?_ | refine g7 ?_); simp only [xr, simprocAttr]; repeat (guard_target =~ _ ∧ _; refine ⟨by first | trivial | (unfold I64; omega) | omega | (simp <;> omega) | (intros; omega), ?_⟩))))
  refine awp_cond (by first | rfl | (simp only [xr, simprocAttr]; rfl)) (fun hc => ?_) (fun hc => ?_)
  · (repeat (first | refine g1 ?_ | refine g2 ?_ | ((first | refine g3 ?_ | refine g4 ?_ | refine g5 ?_); try simp only [xq, simprocAttr]) | ((first | refine g6 ?_ | refine g7 ?_); simp only [xr, simprocAttr]; repeat (guard_target =~ _ ∧ _; refine ⟨by first | trivial | (unfold I64; omega) | omega | (simp <;> omega) | (intros; omega), ?_⟩))))
    (refine .inr (.inl (callW_b (clone_a w (by omega)) rfl rfl rfl rfl rfl rfl rfl ?_)); (try simp only [xr, simprocAttr]); repeat (guard_target =~ _ ∧ _; refine ⟨by first | trivial | (unfold I64; omega) | omega | (simp <;> omega) | (intros; omega), ?_⟩))
    (repeat (first | refine g1 ?_ | refine g2 ?_ | ((first | refine g3 ?_ | refine g4 ?_ | refine g5 ?_); try simp only [xq, simprocAttr]) | ((first | refine g6 ?_ | refine g7 ?_); simp only [xr, simprocAttr]; repeat (guard_target =~ _ ∧ _; refine ⟨by first | trivial | (unfold I64; omega) | omega | (simp <;> omega) | (intros; omega), ?_⟩))))
    (simp only [ends_normal, ends_ret]; exact retH_0 [0, 1, 2, 3] rfl ⟨rfl, rfl, rfl, rfl, trivial⟩ rfl rfl rfl)
  · exfalso
    have hc := of_decide_eq_false hc
    unfold coW at hb
    omega
set_option maxHeartbeats 2000000 in
theorem worst1_y {m s : List (List Int)} {ws : List Int} {ns : List (List (List Int))} {x : Nat} (h : WoOK m s ws ns x) {rs : List Int} (hq : reqsB s.length rs) (hl : rs.length ≤ 4) {w v : List Int} {c : Int} (hc1 : c < coW m s ws ns x rs) (hw : w = rs) : DoesH Try.prog 32 [.lf (.own 0), .lf (.ip [.sl (.ii m), .sl (.ii s)] 0), .lf (.ip [.sl (.ints ws), .sl (.iii ns)] 0), .lf (.ip [.val (.int .i64 x)] 0), .lf (.ptr 1 0), .lf (.ptr 2 0)] [true, true, true] [.row 3 (.ints rs), bxI c, .box [.own 3], .row 3 (.ints v)] (.tup []) [.row 3 (.ints rs), bxI (coW m s ws ns x rs), .box [.own 3], .row 3 (.ints w)] := by
  subst hw
  refine spec_hB Try.func32 rfl Try.ntmps32 cfOK (fun _ _ => by kernel_rfl) rfl rfl rfl ?_
  intro M0 w0 S φ0
  rw [Try.results32]
  (refine awp_fits 0 rfl fun hf => ?_; simp only [xp, simprocAttr] at hf; simp only [xf, simprocAttr] at hf)
  (repeat (first | refine g1 ?_ | refine g2 ?_ | ((first | refine g3 ?_ | refine g4 ?_ | refine g5 ?_); try simp only [xq, simprocAttr]) | ((first | refine g6 ?_ | refine g7 ?_); simp only [xr, simprocAttr]; repeat (guard_target =~ _ ∧ _; refine ⟨by first | trivial | (unfold I64; omega) | omega | (simp <;> omega) | (intros; omega), ?_⟩))))
  ((try refine Or.inl ?_); refine ⟨_, (mixed_d m s ws ns x w h.mix h.prob h.lt hq (by omega)), .inl rfl, ?_⟩; (try simp only [xr, simprocAttr]); repeat (guard_target =~ _ ∧ _; refine ⟨by first | trivial | (unfold I64; omega) | omega | (simp <;> omega) | (intros; omega), ?_⟩))
  (repeat (first | refine g1 ?_ | refine g2 ?_ | ((first | refine g3 ?_ | refine g4 ?_ | refine g5 ?_); try simp only [xq, simprocAttr]) | ((first | refine g6 ?_ | refine g7 ?_); simp only [xr, simprocAttr]; repeat (guard_target =~ _ ∧ _; refine ⟨by first | trivial | (unfold I64; omega) | omega | (simp <;> omega) | (intros; omega), ?_⟩))))
  refine awp_cond (by first | rfl | (simp only [xr, simprocAttr]; rfl)) (fun hc => ?_) (fun hc => ?_)
  · (repeat (first | refine g1 ?_ | refine g2 ?_ | ((first | refine g3 ?_ | refine g4 ?_ | refine g5 ?_); try simp only [xq, simprocAttr]) | ((first | refine g6 ?_ | refine g7 ?_); simp only [xr, simprocAttr]; repeat (guard_target =~ _ ∧ _; refine ⟨by first | trivial | (unfold I64; omega) | omega | (simp <;> omega) | (intros; omega), ?_⟩))))
    (refine .inr (.inl (callW_b (clone_a w (by omega)) rfl rfl rfl rfl rfl rfl rfl ?_)); (try simp only [xr, simprocAttr]); repeat (guard_target =~ _ ∧ _; refine ⟨by first | trivial | (unfold I64; omega) | omega | (simp <;> omega) | (intros; omega), ?_⟩))
    (repeat (first | refine g1 ?_ | refine g2 ?_ | ((first | refine g3 ?_ | refine g4 ?_ | refine g5 ?_); try simp only [xq, simprocAttr]) | ((first | refine g6 ?_ | refine g7 ?_); simp only [xr, simprocAttr]; repeat (guard_target =~ _ ∧ _; refine ⟨by first | trivial | (unfold I64; omega) | omega | (simp <;> omega) | (intros; omega), ?_⟩))))
    (simp only [ends_normal, ends_ret]; exact retH_0 [0, 1, 2, 4] rfl ⟨rfl, rfl, rfl, rfl, trivial⟩ rfl rfl rfl)
  · exfalso
    have hc := of_decide_eq_false hc
    unfold coW at hc1
    omega
set_option maxHeartbeats 2000000 in
theorem worst1_f {m s : List (List Int)} {ws : List Int} {ns : List (List (List Int))} {x : Nat} (h : WoOK m s ws ns x) {rs : List Int} (hq : reqsB s.length rs) (hl : rs.length ≤ 4) {v : List Int} {c : Int} (hc1 : ¬ c < coW m s ws ns x rs) : DoesH Try.prog 32 [.lf (.own 0), .lf (.ip [.sl (.ii m), .sl (.ii s)] 0), .lf (.ip [.sl (.ints ws), .sl (.iii ns)] 0), .lf (.ip [.val (.int .i64 x)] 0), .lf (.ptr 1 0), .lf (.ptr 2 0)] [true, true, true] [.row 3 (.ints rs), bxI c, .box [.own 3], .row 3 (.ints v)] (.tup []) [.row 3 (.ints rs), bxI c, .box [.own 3], .row 3 (.ints v)] := by
  refine spec_hB Try.func32 rfl Try.ntmps32 cfOK (fun _ _ => by kernel_rfl) rfl rfl rfl ?_
  intro M0 w0 S φ0
  rw [Try.results32]
  (refine awp_fits 0 rfl fun hf => ?_; simp only [xp, simprocAttr] at hf; simp only [xf, simprocAttr] at hf)
  (repeat (first | refine g1 ?_ | refine g2 ?_ | ((first | refine g3 ?_ | refine g4 ?_ | refine g5 ?_); try simp only [xq, simprocAttr]) | ((first | refine g6 ?_ | refine g7 ?_); simp only [xr, simprocAttr]; repeat (guard_target =~ _ ∧ _; refine ⟨by first | trivial | (unfold I64; omega) | omega | (simp <;> omega) | (intros; omega), ?_⟩))))
  ((try refine Or.inl ?_); refine ⟨_, (mixed_d m s ws ns x rs h.mix h.prob h.lt hq (by omega)), .inl rfl, ?_⟩; (try simp only [xr, simprocAttr]); repeat (guard_target =~ _ ∧ _; refine ⟨by first | trivial | (unfold I64; omega) | omega | (simp <;> omega) | (intros; omega), ?_⟩))
  (repeat (first | refine g1 ?_ | refine g2 ?_ | ((first | refine g3 ?_ | refine g4 ?_ | refine g5 ?_); try simp only [xq, simprocAttr]) | ((first | refine g6 ?_ | refine g7 ?_); simp only [xr, simprocAttr]; repeat (guard_target =~ _ ∧ _; refine ⟨by first | trivial | (unfold I64; omega) | omega | (simp <;> omega) | (intros; omega), ?_⟩))))
  refine awp_cond (by first | rfl | (simp only [xr, simprocAttr]; rfl)) (fun hc => ?_) (fun hc => ?_)
  · exfalso
    have hc := of_decide_eq_true hc
    unfold coW at hc1
    omega
  · (repeat (first | refine g1 ?_ | refine g2 ?_ | ((first | refine g3 ?_ | refine g4 ?_ | refine g5 ?_); try simp only [xq, simprocAttr]) | ((first | refine g6 ?_ | refine g7 ?_); simp only [xr, simprocAttr]; repeat (guard_target =~ _ ∧ _; refine ⟨by first | trivial | (unfold I64; omega) | omega | (simp <;> omega) | (intros; omega), ?_⟩))))
    (simp only [ends_normal, ends_ret]; exact retH_0 [0, 1, 2, 3] rfl ⟨rfl, rfl, rfl, rfl, trivial⟩ rfl rfl rfl)
abbrev stW (c : List Int → Int) (b n : Nat) : Nat → List Ob
  | 0 => [bxI (-1), bxN, .row 3 (.ints (sq b n 0))]
  | k + 1 => [bxI (wkS c b n (k + 1)).2, .box [.own 3], .row 3 (.ints (sq b n (k + 1))), .row 3 (.ints (wkS c b n (k + 1)).1)]
set_option maxHeartbeats 4000000 in
theorem sequencesW_h {m s : List (List Int)} {ws : List Int} {ns : List (List (List Int))} {x : Nat} (h : WoOK m s ws ns x) {n : Nat} (hn : n ≤ 4) : DoesH Try.prog 31 [.int s.length, .int n, .clo 32 [.ip [.sl (.ii m), .sl (.ii s)] 0, .ip [.sl (.ints ws), .sl (.iii ns)] 0, .ip [.val (.int .i64 x)] 0, .ptr 0 0, .ptr 1 0]] [true, true] [bxI (-1), bxN] (.tup []) [bxI (wkS (coW m s ws ns x) s.length n (s.length ^ n)).2, .box [.own 2], .row 3 (.ints (wkS (coW m s ws ns x) s.length n (s.length ^ n)).1)] := by
  have hpl := prob_len h.prob
  obtain ⟨K, hK⟩ : ∃ K, K = s.length := ⟨_, rfl⟩
  have hK1 : 1 ≤ K := by omega
  have hpos : 0 < K ^ n := Nat.pow_pos (by omega)
  have hcq : ∀ k, reqsB s.length (sq K n k) := fun k => by rw [← hK]; exact sq_reqs hK1
  have hcb : ∀ k, 0 ≤ coW m s ws ns x (sq K n k) := fun k => (h.bd (hcq k) (by rw [sq_len]; exact hn)).1
  rw [← hK]
  refine spec_hB Try.func31 rfl Try.ntmps31 cfOK (fun _ _ => by kernel_rfl) rfl rfl rfl ?_
  intro M0 w0 S φ0
  rw [Try.results31]
  (repeat (first | refine g1 ?_ | refine g2 ?_ | ((first | refine g3 ?_ | refine g4 ?_ | refine g5 ?_); try simp only [xq, simprocAttr]) | ((first | refine g6 ?_ | refine g7 ?_); simp only [xr, simprocAttr]; repeat (guard_target =~ _ ∧ _; refine ⟨by first | trivial | (unfold I64; omega) | omega | (simp <;> omega) | (intros; omega), ?_⟩))))
  rw [← sq_0 K n]
  refine awp_rounds (α := Nat) (fun _ => []) [0, 1, 2, 6] (fun k => stW (coW m s ws ns x) K n k) (fun k => k < K ^ n) (fun k => K ^ n - k) 0 (by ((try simp only [xk]); (repeat (refine leK_cons ?_ ?_; first | (focus (first | rfl | (simp only [xr, simprocAttr]; done) | (simp only [xr, simprocAttr]; refine int_eq1 ?_; first | trivial | (unfold I64; omega) | omega | (simp <;> omega) | (intros; omega)))) | rotate_left)); (refine leK_nil ?_; exact (by rfl)); (all_goals (try (simp only [xr, simprocAttr]; try refine int_eq1 ?_))))) hpos fun k hk => ?_
  have hl := sq_len K n k
  cases k with
  | zero =>
    have hpre : wkS (coW m s ws ns x) K n (0 + 1) = (sq K n 0, coW m s ws ns x (sq K n 0)) := if_pos (show (-1 : Int) < coW m s ws ns x (sq K n 0) from by have := hcb 0; omega)
    dsimp only [stW]
    simp only [xr, simprocAttr]
    (repeat (first | refine g1 ?_ | refine g2 ?_ | ((first | refine g3 ?_ | refine g4 ?_ | refine g5 ?_); try simp only [xq, simprocAttr]) | ((first | refine g6 ?_ | refine g7 ?_); simp only [xr, simprocAttr]; repeat (guard_target =~ _ ∧ _; refine ⟨by first | trivial | (unfold I64; omega) | omega | (simp <;> omega) | (intros; omega), ?_⟩))))
    (refine .inr (.inl (callW_a [2, 0, 1] (worst1_n h (hcq 0) (by omega) rfl) rfl rfl rfl rfl ⟨rfl, rfl, rfl, trivial⟩ rfl rfl rfl rfl ?_)); (try simp only [xr, simprocAttr]); repeat (guard_target =~ _ ∧ _; refine ⟨by first | trivial | (unfold I64; omega) | omega | (simp <;> omega) | (intros; omega), ?_⟩))
    (repeat (first | refine g1 ?_ | refine g2 ?_ | ((first | refine g3 ?_ | refine g4 ?_ | refine g5 ?_); try simp only [xq, simprocAttr]) | ((first | refine g6 ?_ | refine g7 ?_); simp only [xr, simprocAttr]; repeat (guard_target =~ _ ∧ _; refine ⟨by first | trivial | (unfold I64; omega) | omega | (simp <;> omega) | (intros; omega), ?_⟩))))
    rw [← sqT_0 K n 0]
    refine awp_rounds (α := Nat) (fun t => [(7, true, .int ((n : Int) - 1 - (t : Int)))]) [0, 1, 2, 6] (fun t => [bxI (wkS (coW m s ws ns x) K n (0 + 1)).2, .box [.own 3], .row 3 (.ints (sqT K n 0 t)), .row 3 (.ints (wkS (coW m s ws ns x) K n (0 + 1)).1)]) (fun t => t ≤ n ∧ nines K 0 t) (fun t => n - t) 0 (by ((try simp only [xk]); (repeat (refine leK_cons ?_ ?_; first | (focus (first | rfl | (simp only [xr, simprocAttr]; done) | (simp only [xr, simprocAttr]; refine int_eq1 ?_; first | trivial | (unfold I64; omega) | omega | (simp <;> omega) | (intros; omega)))) | rotate_left)); (refine leK_nil ?_; exact (by rw [sqT_0, hpre])); (all_goals (try (simp only [xr, simprocAttr]; try refine int_eq1 ?_))))) ⟨Nat.zero_le _, nines_0 _ _⟩ fun t ht => ?_
    obtain ⟨ht, h9⟩ := ht
    have hq1 := sqT_len K n 0 t
    by_cases htn : t < n
    · have e : (n : Int) - 1 - (t : Int) = ((n - 1 - t : Nat) : Int) := by omega
      have hat := sqT_at (b := K) (k := 0) htn
      have hdl := digS_le hK1 0 t
      rw [e]
      simp only [xr, simprocAttr]
      (repeat (first | refine g1 ?_ | refine g2 ?_ | ((first | refine g3 ?_ | refine g4 ?_ | refine g5 ?_); try simp only [xq, simprocAttr]) | ((first | refine g6 ?_ | refine g7 ?_); simp only [xr, simprocAttr]; repeat (guard_target =~ _ ∧ _; refine ⟨by first | trivial | (unfold I64; omega) | omega | (simp <;> omega) | (intros; omega), ?_⟩))))
      rw [hat]
      refine awp_cond (by first | rfl | (simp only [xr, simprocAttr]; rfl)) (fun hc => ?_) (fun hc => ?_)
      · have hd : digS K 0 t + 1 = K := by simp at hc; omega
        (repeat (first | refine g1 ?_ | refine g2 ?_ | ((first | refine g3 ?_ | refine g4 ?_ | refine g5 ?_); try simp only [xq, simprocAttr]) | ((first | refine g6 ?_ | refine g7 ?_); simp only [xr, simprocAttr]; repeat (guard_target =~ _ ∧ _; refine ⟨by first | trivial | (unfold I64; omega) | omega | (simp <;> omega) | (intros; omega), ?_⟩))))
        rw [sqT_next htn]
        rw [show ((n - 1 - t : Nat) : Int) - 1 = (n : Int) - 1 - ((t + 1 : Nat) : Int) by omega]
        refine ⟨t + 1, by omega, nines_next hK1 h9 hd, by omega, .inl ?_⟩
        ((try simp only [xk]); (repeat (refine leK_cons ?_ ?_; first | (focus (first | rfl | (simp only [xr, simprocAttr]; done) | (simp only [xr, simprocAttr]; refine int_eq1 ?_; first | trivial | (unfold I64; omega) | omega | (simp <;> omega) | (intros; omega)))) | rotate_left)); (try exact leK_nil rfl); (all_goals (try (simp only [xr, simprocAttr]; try refine int_eq1 ?_))))
      · have hd : digS K 0 t + 1 ≠ K := by simp at hc; omega
        (repeat (first | refine g1 ?_ | refine g2 ?_ | ((first | refine g3 ?_ | refine g4 ?_ | refine g5 ?_); try simp only [xq, simprocAttr]) | ((first | refine g6 ?_ | refine g7 ?_); simp only [xr, simprocAttr]; repeat (guard_target =~ _ ∧ _; refine ⟨by first | trivial | (unfold I64; omega) | omega | (simp <;> omega) | (intros; omega), ?_⟩))))
        refine awp_cond (by first | rfl | (simp only [xr, simprocAttr]; rfl)) (fun hz => ?_) (fun hz => ?_)
        · exfalso
          simp at hz
          omega
        (repeat (first | refine g1 ?_ | refine g2 ?_ | ((first | refine g3 ?_ | refine g4 ?_ | refine g5 ?_); try simp only [xq, simprocAttr]) | ((first | refine g6 ?_ | refine g7 ?_); simp only [xr, simprocAttr]; repeat (guard_target =~ _ ∧ _; refine ⟨by first | trivial | (unfold I64; omega) | omega | (simp <;> omega) | (intros; omega), ?_⟩))))
        rw [hat, sqT_inc hK1 htn h9 hd]
        refine ⟨0 + 1, nines_lt hK1 hk htn h9 hd, by (show K ^ n - (0 + 1) < K ^ n - 0); omega, .inl ?_⟩
        dsimp only [stW]
        ((try simp only [xk]); (repeat (refine leK_cons ?_ ?_; first | (focus (first | rfl | (simp only [xr, simprocAttr]; done) | (simp only [xr, simprocAttr]; refine int_eq1 ?_; first | trivial | (unfold I64; omega) | omega | (simp <;> omega) | (intros; omega)))) | rotate_left)); (try exact leK_nil rfl); (all_goals (try (simp only [xr, simprocAttr]; try refine int_eq1 ?_))))
    · obtain rfl : t = n := by omega
      have e : (t : Int) - 1 - (t : Int) = -1 := by omega
      have hfin : 0 + 1 = K ^ t := nines_all hK1 hk h9
      rw [e, ← hfin]
      simp only [xr, simprocAttr]
      (repeat (first | refine g1 ?_ | refine g2 ?_ | ((first | refine g3 ?_ | refine g4 ?_ | refine g5 ?_); try simp only [xq, simprocAttr]) | ((first | refine g6 ?_ | refine g7 ?_); simp only [xr, simprocAttr]; repeat (guard_target =~ _ ∧ _; refine ⟨by first | trivial | (unfold I64; omega) | omega | (simp <;> omega) | (intros; omega), ?_⟩))))
      refine awp_cond (by first | rfl | (simp only [xr, simprocAttr]; rfl)) (fun hc => ?_) (fun hc => ?_)
      · simp at hc
      (repeat (first | refine g1 ?_ | refine g2 ?_ | ((first | refine g3 ?_ | refine g4 ?_ | refine g5 ?_); try simp only [xq, simprocAttr]) | ((first | refine g6 ?_ | refine g7 ?_); simp only [xr, simprocAttr]; repeat (guard_target =~ _ ∧ _; refine ⟨by first | trivial | (unfold I64; omega) | omega | (simp <;> omega) | (intros; omega), ?_⟩))))
      refine awp_cond (by first | rfl | (simp only [xr, simprocAttr]; rfl)) (fun hd => ?_) (fun hd => ?_)
      · (repeat (first | refine g1 ?_ | refine g2 ?_ | ((first | refine g3 ?_ | refine g4 ?_ | refine g5 ?_); try simp only [xq, simprocAttr]) | ((first | refine g6 ?_ | refine g7 ?_); simp only [xr, simprocAttr]; repeat (guard_target =~ _ ∧ _; refine ⟨by first | trivial | (unfold I64; omega) | omega | (simp <;> omega) | (intros; omega), ?_⟩))))
        (simp only [ends_normal, ends_ret]; exact retH_0 [0, 1, 3] rfl ⟨rfl, rfl, rfl, trivial⟩ rfl rfl rfl)
      · simp at hd
  | succ j =>
    have hwl := wkS_len (fun k _ => hcb k) j (by omega)
    dsimp only [stW]
    simp only [xr, simprocAttr]
    (repeat (first | refine g1 ?_ | refine g2 ?_ | ((first | refine g3 ?_ | refine g4 ?_ | refine g5 ?_); try simp only [xq, simprocAttr]) | ((first | refine g6 ?_ | refine g7 ?_); simp only [xr, simprocAttr]; repeat (guard_target =~ _ ∧ _; refine ⟨by first | trivial | (unfold I64; omega) | omega | (simp <;> omega) | (intros; omega), ?_⟩))))
    by_cases hb : (wkS (coW m s ws ns x) K n (j + 1)).2 < coW m s ws ns x (sq K n (j + 1))
    · have hpre : wkS (coW m s ws ns x) K n (j + 1 + 1) = (sq K n (j + 1), coW m s ws ns x (sq K n (j + 1))) := if_pos hb
      (refine .inr (.inl (callW_a [2, 0, 1, 3] (worst1_y h (hcq (j + 1)) (by omega) hb rfl) rfl rfl rfl rfl ⟨rfl, rfl, rfl, rfl, trivial⟩ rfl rfl rfl rfl ?_)); (try simp only [xr, simprocAttr]); repeat (guard_target =~ _ ∧ _; refine ⟨by first | trivial | (unfold I64; omega) | omega | (simp <;> omega) | (intros; omega), ?_⟩))
      (repeat (first | refine g1 ?_ | refine g2 ?_ | ((first | refine g3 ?_ | refine g4 ?_ | refine g5 ?_); try simp only [xq, simprocAttr]) | ((first | refine g6 ?_ | refine g7 ?_); simp only [xr, simprocAttr]; repeat (guard_target =~ _ ∧ _; refine ⟨by first | trivial | (unfold I64; omega) | omega | (simp <;> omega) | (intros; omega), ?_⟩))))
      rw [← sqT_0 K n (j + 1)]
      refine awp_rounds (α := Nat) (fun t => [(7, true, .int ((n : Int) - 1 - (t : Int)))]) [0, 1, 2, 6] (fun t => [bxI (wkS (coW m s ws ns x) K n ((j + 1) + 1)).2, .box [.own 3], .row 3 (.ints (sqT K n (j + 1) t)), .row 3 (.ints (wkS (coW m s ws ns x) K n ((j + 1) + 1)).1)]) (fun t => t ≤ n ∧ nines K (j + 1) t) (fun t => n - t) 0 (by ((try simp only [xk]); (repeat (refine leK_cons ?_ ?_; first | (focus (first | rfl | (simp only [xr, simprocAttr]; done) | (simp only [xr, simprocAttr]; refine int_eq1 ?_; first | trivial | (unfold I64; omega) | omega | (simp <;> omega) | (intros; omega)))) | rotate_left)); (refine leK_nil ?_; exact (by rw [sqT_0, hpre])); (all_goals (try (simp only [xr, simprocAttr]; try refine int_eq1 ?_))))) ⟨Nat.zero_le _, nines_0 _ _⟩ fun t ht => ?_
      obtain ⟨ht, h9⟩ := ht
      have hq1 := sqT_len K n (j + 1) t
      by_cases htn : t < n
      · have e : (n : Int) - 1 - (t : Int) = ((n - 1 - t : Nat) : Int) := by omega
        have hat := sqT_at (b := K) (k := (j + 1)) htn
        have hdl := digS_le hK1 (j + 1) t
        rw [e]
        simp only [xr, simprocAttr]
        (repeat (first | refine g1 ?_ | refine g2 ?_ | ((first | refine g3 ?_ | refine g4 ?_ | refine g5 ?_); try simp only [xq, simprocAttr]) | ((first | refine g6 ?_ | refine g7 ?_); simp only [xr, simprocAttr]; repeat (guard_target =~ _ ∧ _; refine ⟨by first | trivial | (unfold I64; omega) | omega | (simp <;> omega) | (intros; omega), ?_⟩))))
        rw [hat]
        refine awp_cond (by first | rfl | (simp only [xr, simprocAttr]; rfl)) (fun hc => ?_) (fun hc => ?_)
        · have hd : digS K (j + 1) t + 1 = K := by simp at hc; omega
          (repeat (first | refine g1 ?_ | refine g2 ?_ | ((first | refine g3 ?_ | refine g4 ?_ | refine g5 ?_); try simp only [xq, simprocAttr]) | ((first | refine g6 ?_ | refine g7 ?_); simp only [xr, simprocAttr]; repeat (guard_target =~ _ ∧ _; refine ⟨by first | trivial | (unfold I64; omega) | omega | (simp <;> omega) | (intros; omega), ?_⟩))))
          rw [sqT_next htn]
          rw [show ((n - 1 - t : Nat) : Int) - 1 = (n : Int) - 1 - ((t + 1 : Nat) : Int) by omega]
          refine ⟨t + 1, by omega, nines_next hK1 h9 hd, by omega, .inl ?_⟩
          ((try simp only [xk]); (repeat (refine leK_cons ?_ ?_; first | (focus (first | rfl | (simp only [xr, simprocAttr]; done) | (simp only [xr, simprocAttr]; refine int_eq1 ?_; first | trivial | (unfold I64; omega) | omega | (simp <;> omega) | (intros; omega)))) | rotate_left)); (try exact leK_nil rfl); (all_goals (try (simp only [xr, simprocAttr]; try refine int_eq1 ?_))))
        · have hd : digS K (j + 1) t + 1 ≠ K := by simp at hc; omega
          (repeat (first | refine g1 ?_ | refine g2 ?_ | ((first | refine g3 ?_ | refine g4 ?_ | refine g5 ?_); try simp only [xq, simprocAttr]) | ((first | refine g6 ?_ | refine g7 ?_); simp only [xr, simprocAttr]; repeat (guard_target =~ _ ∧ _; refine ⟨by first | trivial | (unfold I64; omega) | omega | (simp <;> omega) | (intros; omega), ?_⟩))))
          refine awp_cond (by first | rfl | (simp only [xr, simprocAttr]; rfl)) (fun hz => ?_) (fun hz => ?_)
          · exfalso
            simp at hz
            omega
          (repeat (first | refine g1 ?_ | refine g2 ?_ | ((first | refine g3 ?_ | refine g4 ?_ | refine g5 ?_); try simp only [xq, simprocAttr]) | ((first | refine g6 ?_ | refine g7 ?_); simp only [xr, simprocAttr]; repeat (guard_target =~ _ ∧ _; refine ⟨by first | trivial | (unfold I64; omega) | omega | (simp <;> omega) | (intros; omega), ?_⟩))))
          rw [hat, sqT_inc hK1 htn h9 hd]
          refine ⟨(j + 1) + 1, nines_lt hK1 hk htn h9 hd, by (show K ^ n - ((j + 1) + 1) < K ^ n - (j + 1)); omega, .inl ?_⟩
          dsimp only [stW]
          ((try simp only [xk]); (repeat (refine leK_cons ?_ ?_; first | (focus (first | rfl | (simp only [xr, simprocAttr]; done) | (simp only [xr, simprocAttr]; refine int_eq1 ?_; first | trivial | (unfold I64; omega) | omega | (simp <;> omega) | (intros; omega)))) | rotate_left)); (try exact leK_nil rfl); (all_goals (try (simp only [xr, simprocAttr]; try refine int_eq1 ?_))))
      · obtain rfl : t = n := by omega
        have e : (t : Int) - 1 - (t : Int) = -1 := by omega
        have hfin : (j + 1) + 1 = K ^ t := nines_all hK1 hk h9
        rw [e, ← hfin]
        simp only [xr, simprocAttr]
        (repeat (first | refine g1 ?_ | refine g2 ?_ | ((first | refine g3 ?_ | refine g4 ?_ | refine g5 ?_); try simp only [xq, simprocAttr]) | ((first | refine g6 ?_ | refine g7 ?_); simp only [xr, simprocAttr]; repeat (guard_target =~ _ ∧ _; refine ⟨by first | trivial | (unfold I64; omega) | omega | (simp <;> omega) | (intros; omega), ?_⟩))))
        refine awp_cond (by first | rfl | (simp only [xr, simprocAttr]; rfl)) (fun hc => ?_) (fun hc => ?_)
        · simp at hc
        (repeat (first | refine g1 ?_ | refine g2 ?_ | ((first | refine g3 ?_ | refine g4 ?_ | refine g5 ?_); try simp only [xq, simprocAttr]) | ((first | refine g6 ?_ | refine g7 ?_); simp only [xr, simprocAttr]; repeat (guard_target =~ _ ∧ _; refine ⟨by first | trivial | (unfold I64; omega) | omega | (simp <;> omega) | (intros; omega), ?_⟩))))
        refine awp_cond (by first | rfl | (simp only [xr, simprocAttr]; rfl)) (fun hd => ?_) (fun hd => ?_)
        · (repeat (first | refine g1 ?_ | refine g2 ?_ | ((first | refine g3 ?_ | refine g4 ?_ | refine g5 ?_); try simp only [xq, simprocAttr]) | ((first | refine g6 ?_ | refine g7 ?_); simp only [xr, simprocAttr]; repeat (guard_target =~ _ ∧ _; refine ⟨by first | trivial | (unfold I64; omega) | omega | (simp <;> omega) | (intros; omega), ?_⟩))))
          (simp only [ends_normal, ends_ret]; exact retH_0 [0, 1, 3] rfl ⟨rfl, rfl, rfl, trivial⟩ rfl rfl rfl)
        · simp at hd
    · have hpre : wkS (coW m s ws ns x) K n (j + 1 + 1) = wkS (coW m s ws ns x) K n (j + 1) := if_neg hb
      (refine .inr (.inl (callW_a [2, 0, 1, 3] (worst1_f h (hcq (j + 1)) (by omega) hb) rfl rfl rfl rfl ⟨rfl, rfl, rfl, rfl, trivial⟩ rfl rfl rfl rfl ?_)); (try simp only [xr, simprocAttr]); repeat (guard_target =~ _ ∧ _; refine ⟨by first | trivial | (unfold I64; omega) | omega | (simp <;> omega) | (intros; omega), ?_⟩))
      (repeat (first | refine g1 ?_ | refine g2 ?_ | ((first | refine g3 ?_ | refine g4 ?_ | refine g5 ?_); try simp only [xq, simprocAttr]) | ((first | refine g6 ?_ | refine g7 ?_); simp only [xr, simprocAttr]; repeat (guard_target =~ _ ∧ _; refine ⟨by first | trivial | (unfold I64; omega) | omega | (simp <;> omega) | (intros; omega), ?_⟩))))
      rw [← sqT_0 K n (j + 1)]
      refine awp_rounds (α := Nat) (fun t => [(7, true, .int ((n : Int) - 1 - (t : Int)))]) [0, 1, 2, 6] (fun t => [bxI (wkS (coW m s ws ns x) K n ((j + 1) + 1)).2, .box [.own 3], .row 3 (.ints (sqT K n (j + 1) t)), .row 3 (.ints (wkS (coW m s ws ns x) K n ((j + 1) + 1)).1)]) (fun t => t ≤ n ∧ nines K (j + 1) t) (fun t => n - t) 0 (by ((try simp only [xk]); (repeat (refine leK_cons ?_ ?_; first | (focus (first | rfl | (simp only [xr, simprocAttr]; done) | (simp only [xr, simprocAttr]; refine int_eq1 ?_; first | trivial | (unfold I64; omega) | omega | (simp <;> omega) | (intros; omega)))) | rotate_left)); (refine leK_nil ?_; exact (by rw [sqT_0, hpre])); (all_goals (try (simp only [xr, simprocAttr]; try refine int_eq1 ?_))))) ⟨Nat.zero_le _, nines_0 _ _⟩ fun t ht => ?_
      obtain ⟨ht, h9⟩ := ht
      have hq1 := sqT_len K n (j + 1) t
      by_cases htn : t < n
      · have e : (n : Int) - 1 - (t : Int) = ((n - 1 - t : Nat) : Int) := by omega
        have hat := sqT_at (b := K) (k := (j + 1)) htn
        have hdl := digS_le hK1 (j + 1) t
        rw [e]
        simp only [xr, simprocAttr]
        (repeat (first | refine g1 ?_ | refine g2 ?_ | ((first | refine g3 ?_ | refine g4 ?_ | refine g5 ?_); try simp only [xq, simprocAttr]) | ((first | refine g6 ?_ | refine g7 ?_); simp only [xr, simprocAttr]; repeat (guard_target =~ _ ∧ _; refine ⟨by first | trivial | (unfold I64; omega) | omega | (simp <;> omega) | (intros; omega), ?_⟩))))
        rw [hat]
        refine awp_cond (by first | rfl | (simp only [xr, simprocAttr]; rfl)) (fun hc => ?_) (fun hc => ?_)
        · have hd : digS K (j + 1) t + 1 = K := by simp at hc; omega
          (repeat (first | refine g1 ?_ | refine g2 ?_ | ((first | refine g3 ?_ | refine g4 ?_ | refine g5 ?_); try simp only [xq, simprocAttr]) | ((first | refine g6 ?_ | refine g7 ?_); simp only [xr, simprocAttr]; repeat (guard_target =~ _ ∧ _; refine ⟨by first | trivial | (unfold I64; omega) | omega | (simp <;> omega) | (intros; omega), ?_⟩))))
          rw [sqT_next htn]
          rw [show ((n - 1 - t : Nat) : Int) - 1 = (n : Int) - 1 - ((t + 1 : Nat) : Int) by omega]
          refine ⟨t + 1, by omega, nines_next hK1 h9 hd, by omega, .inl ?_⟩
          ((try simp only [xk]); (repeat (refine leK_cons ?_ ?_; first | (focus (first | rfl | (simp only [xr, simprocAttr]; done) | (simp only [xr, simprocAttr]; refine int_eq1 ?_; first | trivial | (unfold I64; omega) | omega | (simp <;> omega) | (intros; omega)))) | rotate_left)); (try exact leK_nil rfl); (all_goals (try (simp only [xr, simprocAttr]; try refine int_eq1 ?_))))
        · have hd : digS K (j + 1) t + 1 ≠ K := by simp at hc; omega
          (repeat (first | refine g1 ?_ | refine g2 ?_ | ((first | refine g3 ?_ | refine g4 ?_ | refine g5 ?_); try simp only [xq, simprocAttr]) | ((first | refine g6 ?_ | refine g7 ?_); simp only [xr, simprocAttr]; repeat (guard_target =~ _ ∧ _; refine ⟨by first | trivial | (unfold I64; omega) | omega | (simp <;> omega) | (intros; omega), ?_⟩))))
          refine awp_cond (by first | rfl | (simp only [xr, simprocAttr]; rfl)) (fun hz => ?_) (fun hz => ?_)
          · exfalso
            simp at hz
            omega
          (repeat (first | refine g1 ?_ | refine g2 ?_ | ((first | refine g3 ?_ | refine g4 ?_ | refine g5 ?_); try simp only [xq, simprocAttr]) | ((first | refine g6 ?_ | refine g7 ?_); simp only [xr, simprocAttr]; repeat (guard_target =~ _ ∧ _; refine ⟨by first | trivial | (unfold I64; omega) | omega | (simp <;> omega) | (intros; omega), ?_⟩))))
          rw [hat, sqT_inc hK1 htn h9 hd]
          refine ⟨(j + 1) + 1, nines_lt hK1 hk htn h9 hd, by (show K ^ n - ((j + 1) + 1) < K ^ n - (j + 1)); omega, .inl ?_⟩
          dsimp only [stW]
          ((try simp only [xk]); (repeat (refine leK_cons ?_ ?_; first | (focus (first | rfl | (simp only [xr, simprocAttr]; done) | (simp only [xr, simprocAttr]; refine int_eq1 ?_; first | trivial | (unfold I64; omega) | omega | (simp <;> omega) | (intros; omega)))) | rotate_left)); (try exact leK_nil rfl); (all_goals (try (simp only [xr, simprocAttr]; try refine int_eq1 ?_))))
      · obtain rfl : t = n := by omega
        have e : (t : Int) - 1 - (t : Int) = -1 := by omega
        have hfin : (j + 1) + 1 = K ^ t := nines_all hK1 hk h9
        rw [e, ← hfin]
        simp only [xr, simprocAttr]
        (repeat (first | refine g1 ?_ | refine g2 ?_ | ((first | refine g3 ?_ | refine g4 ?_ | refine g5 ?_); try simp only [xq, simprocAttr]) | ((first | refine g6 ?_ | refine g7 ?_); simp only [xr, simprocAttr]; repeat (guard_target =~ _ ∧ _; refine ⟨by first | trivial | (unfold I64; omega) | omega | (simp <;> omega) | (intros; omega), ?_⟩))))
        refine awp_cond (by first | rfl | (simp only [xr, simprocAttr]; rfl)) (fun hc => ?_) (fun hc => ?_)
        · simp at hc
        (repeat (first | refine g1 ?_ | refine g2 ?_ | ((first | refine g3 ?_ | refine g4 ?_ | refine g5 ?_); try simp only [xq, simprocAttr]) | ((first | refine g6 ?_ | refine g7 ?_); simp only [xr, simprocAttr]; repeat (guard_target =~ _ ∧ _; refine ⟨by first | trivial | (unfold I64; omega) | omega | (simp <;> omega) | (intros; omega), ?_⟩))))
        refine awp_cond (by first | rfl | (simp only [xr, simprocAttr]; rfl)) (fun hd => ?_) (fun hd => ?_)
        · (repeat (first | refine g1 ?_ | refine g2 ?_ | ((first | refine g3 ?_ | refine g4 ?_ | refine g5 ?_); try simp only [xq, simprocAttr]) | ((first | refine g6 ?_ | refine g7 ?_); simp only [xr, simprocAttr]; repeat (guard_target =~ _ ∧ _; refine ⟨by first | trivial | (unfold I64; omega) | omega | (simp <;> omega) | (intros; omega), ?_⟩))))
          (simp only [ends_normal, ends_ret]; exact retH_0 [0, 1, 3] rfl ⟨rfl, rfl, rfl, trivial⟩ rfl rfl rfl)
        · simp at hd
end Go.Proofs.Ytcidddfjimbkbaa
