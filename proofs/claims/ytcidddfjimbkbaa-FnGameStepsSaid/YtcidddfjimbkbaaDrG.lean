/- The reference's drawn games, on the machine. Conditions: the place is small. -/
import Derived.Test.YtcidddfjimbkbaaGQU
import Derived.Test.YtcidddfjimbkbaaGAL
set_option linter.all false
set_option linter.unusedSimpArgs false
set_option linter.unusedVariables false
namespace Go.Proofs.Ytcidddfjimbkbaa
open Go Go.RowKit Am

abbrev csG : List Int := [0, 0, 1, 2, -1, 3]
abbrev nsG : List Int := [2, 2, 3, 1]
abbrev ksG : List Int := [1, 2, 2, 3]
/-- a request's costs -/
def rgV (n : Nat) (c : Cu) : List Int := if (!reqB n (amL csG n c)) = true then (amL csG n c).set (pkV n (amLC csG n c)).toNat 0 else amL csG n c
def rgC (n : Nat) (c : Cu) : Cu := if (!reqB n (amL csG n c)) = true then pkC n (amLC csG n c) else amLC csG n c
theorem rgC_ok {n : Nat} {m : Int} {c : Cu} (h : CuOK m c) : CuOK (m + (2 * n + 2)) (rgC n c) := by
  unfold rgC
  split
  · exact (pkC_ok (amLC_ok h n)).mono (by omega)
  · exact (amLC_ok h n).mono (by omega)
def rqC (n : Nat) : Nat → Cu → Cu
  | 0, c => c
  | k + 1, c => rgC n (rqC n k c)
def rqV (n : Nat) : Nat → Cu → List (List Int)
  | 0, _ => []
  | k + 1, c => rqV n k c ++ [rgV n (rqC n k c)]
theorem rqV_len (n : Nat) (c : Cu) : ∀ k, (rqV n k c).length = k
  | 0 => rfl
  | k + 1 => by simp [rqV, rqV_len n c k]
theorem rqC_ok {n : Nat} {m : Int} {c : Cu} (h : CuOK m c) : ∀ k : Nat, CuOK (m + (2 * n + 2) * k) (rqC n k c)
  | 0 => h.mono (by omega)
  | k + 1 => by
    have h1 := rgC_ok (n := n) (rqC_ok (n := n) h k)
    exact h1.mono (by rw [Int.natCast_add, Int.natCast_one, Int.mul_add, Int.mul_one]; omega)
abbrev gameRes (m s : List (List Int)) (x : Int) : AV := .tup [.agg [.b (.sl (.ii m)), .b (.sl (.ii s))], .one (.b (.val (.int .i64 x)))]
set_option maxHeartbeats 2000000 in
theorem game_a {c : Cu} (hc : CuOK 999999980000 c) (h8 : pkV 8 c = 0) : ∃ m s x c', m.length ≤ 5 ∧ s.length ≤ 16 ∧ (∀ m0, CuOK m0 c → CuOK (m0 + 90) c') ∧ DoesH Try.prog 77 [.lf (.ptr 0 0)] [true] [curO c] (gameRes m s x) [curO c'] := by
  have d1 := one_h (n := 8) (c := c) (hc.mono (by omega))
  rw [h8] at d1
  have hc1 := pkC_ok (n := 8) hc
  obtain ⟨m, s, c2, a1, a2, a3, b2, d2⟩ := problem_h (c := pkC 8 c) (hc1.mono (by omega))
  have hc2 := b2 _ hc1
  obtain ⟨x, c3, b3, d3⟩ := state8_h (m := m) (s := s) (c := c2) (hc2.mono (by omega))
  refine ⟨m, s, x, c3, a1, a2, fun m0 h => (b3 _ (b2 _ (pkC_ok h))).mono (by omega), ?_⟩
  refine spec_hB Try.func77 rfl Try.ntmps77 cfOK (fun _ _ => by kernel_rfl) rfl rfl rfl ?_
  intro M0 w0 S φ0
  rw [Try.results77]
  (repeat (first | refine g1 ?_ | refine g2 ?_ | ((first | refine g3 ?_ | refine g4 ?_ | refine g5 ?_); try simp only [xq, simprocAttr]) | ((first | refine g6 ?_ | refine g7 ?_); simp only [xr, simprocAttr]; repeat (guard_target =~ _ ∧ _; refine ⟨by first | trivial | (unfold I64; omega) | omega | (simp <;> omega) | (intros; omega), ?_⟩))))
  (refine .inr (.inl (callW_a [0] (d1) rfl rfl rfl rfl ⟨rfl, trivial⟩ rfl rfl rfl rfl ?_)); (try simp only [xr, simprocAttr]); repeat (guard_target =~ _ ∧ _; refine ⟨by first | trivial | (unfold I64; omega) | omega | (simp <;> omega) | (intros; omega), ?_⟩))
  (repeat (first | refine g1 ?_ | refine g2 ?_ | ((first | refine g3 ?_ | refine g4 ?_ | refine g5 ?_); try simp only [xq, simprocAttr]) | ((first | refine g6 ?_ | refine g7 ?_); simp only [xr, simprocAttr]; repeat (guard_target =~ _ ∧ _; refine ⟨by first | trivial | (unfold I64; omega) | omega | (simp <;> omega) | (intros; omega), ?_⟩))))
  refine awp_cond (by first | rfl | (simp only [xr, simprocAttr]; rfl)) (fun hb => ?_) (fun hb => ?_)
  · (repeat (first | refine g1 ?_ | refine g2 ?_ | ((first | refine g3 ?_ | refine g4 ?_ | refine g5 ?_); try simp only [xq, simprocAttr]) | ((first | refine g6 ?_ | refine g7 ?_); simp only [xr, simprocAttr]; repeat (guard_target =~ _ ∧ _; refine ⟨by first | trivial | (unfold I64; omega) | omega | (simp <;> omega) | (intros; omega), ?_⟩))))
    (refine .inr (.inl (callW_a [0] (d2) rfl rfl rfl rfl ⟨rfl, trivial⟩ rfl rfl rfl rfl ?_)); (try simp only [xr, simprocAttr]); repeat (guard_target =~ _ ∧ _; refine ⟨by first | trivial | (unfold I64; omega) | omega | (simp <;> omega) | (intros; omega), ?_⟩))
    (repeat (first | refine g1 ?_ | refine g2 ?_ | ((first | refine g3 ?_ | refine g4 ?_ | refine g5 ?_); try simp only [xq, simprocAttr]) | ((first | refine g6 ?_ | refine g7 ?_); simp only [xr, simprocAttr]; repeat (guard_target =~ _ ∧ _; refine ⟨by first | trivial | (unfold I64; omega) | omega | (simp <;> omega) | (intros; omega), ?_⟩))))
    ((repeat (first | refine g1 ?_ | refine g2 ?_ | ((first | refine g3 ?_ | refine g4 ?_); try simp only [xq, simprocAttr]))); refine awp_anyG 0 [(3, [0]), (4, [1])] [0, 1] [(1, [1]), (3, [1]), (4, [0])] ?_; simp (maxSteps := 3000000) only [xg, xr, simprocAttr]; repeat (guard_target =~ _ ∧ _; refine ⟨by first | (guard_target =~ _ = _; rfl) | (guard_target =~ (_ : Int) ≤ _; omega) | (first | trivial | (unfold I64; omega) | omega | (simp <;> omega) | (intros; omega)), ?_⟩))
    ((first | refine .inr (.inr ⟨0, _, _, callG_h (d3) rfl rfl rfl rfl rfl rfl rfl, ?_⟩) | refine .inr ⟨0, _, _, callG_h (d3) rfl rfl rfl rfl rfl rfl rfl, ?_⟩ | refine ⟨0, _, _, callG_h (d3) rfl rfl rfl rfl rfl rfl rfl, ?_⟩); (try simp (maxSteps := 3000000) only [xg, xr, simprocAttr]); repeat (guard_target =~ _ ∧ _; refine ⟨by first | (guard_target =~ _ = _; rfl) | (guard_target =~ (_ : Int) ≤ _; omega) | (first | trivial | (unfold I64; omega) | omega | (simp <;> omega) | (intros; omega)), ?_⟩))
    (repeat (first | refine g1 ?_ | refine g2 ?_ | ((first | refine g3 ?_ | refine g4 ?_ | refine g5 ?_); try simp only [xq, simprocAttr]) | ((first | refine g6 ?_ | refine g7 ?_); simp only [xr, simprocAttr]; repeat (guard_target =~ _ ∧ _; refine ⟨by first | trivial | (unfold I64; omega) | omega | (simp <;> omega) | (intros; omega), ?_⟩))))
    (simp only [ends_normal, ends_ret]; refine retH_2 (vs := [_, _]) [0] rfl ⟨rfl, trivial⟩ rfl rfl rfl rfl ⟨⟨by simp only [xr, simprocAttr] <;> (and_intros <;> first | trivial | (unfold I64; omega) | omega | (simp <;> omega) | (intros; omega)), rfl⟩, rfl, trivial⟩ ?_; try rfl)
  · simp at hb
/-- the steps' price in a uniform metric -/
def dG (n : Nat) (d : Int) : Int := if n = 3 then 1 else 1 + d
set_option maxHeartbeats 2000000 in
theorem game_b {c : Cu} (hc : CuOK 999999980000 c) (h8 : ¬ pkV 8 c = 0) : ∃ m s x c', m.length ≤ 5 ∧ s.length ≤ 16 ∧ (∀ m0, CuOK m0 c → CuOK (m0 + 90) c') ∧ DoesH Try.prog 77 [.lf (.ptr 0 0)] [true] [curO c] (gameRes m s x) [curO c'] := by
  have d0 := one_h (n := 8) (c := c) (hc.mono (by omega))
  rw [decide_eq_false h8] at d0
  have hc0 := pkC_ok (n := 8) hc
  have b0 : ∀ m0, CuOK m0 c → CuOK (m0 + 2) (pkC 8 c) := fun _ h => pkC_ok h
  generalize pkC 8 c = cc at hc0 b0 d0
  have hn := amV_mem (xs := nsG) hc0 (by simp)
  obtain ⟨n, hnn, hn1, hn2⟩ : ∃ n : Nat, amV nsG cc = n ∧ 1 ≤ n ∧ n ≤ 3 := by
    simp only [List.mem_cons, List.not_mem_nil, or_false] at hn
    rcases hn with h | h | h | h
    · exact ⟨2, h, by omega, by omega⟩
    · exact ⟨2, h, by omega, by omega⟩
    · exact ⟨3, h, by omega, by omega⟩
    · exact ⟨1, h, by omega, by omega⟩
  have hc1 := amC_ok (xs := nsG) hc0
  have d1 := among_h (xs := nsG) (c := cc) (hc0.mono (by omega)) (by simp)
  rw [hnn] at d1
  have b1 : ∀ m0, CuOK m0 c → CuOK (m0 + 4) (amC nsG cc) := fun m0 h => (amC_ok (b0 m0 h)).mono (by omega)
  generalize amC nsG cc = c1 at hc1 d1 b1
  have hd := pkV_rng 3 hc1
  have hd2 := hd.2 (by omega)
  have hc2 := pkC_ok (n := 3) hc1
  have d2 := pick_h (n := 3) (c := c1) (hc1.mono (by omega))
  have b2 : ∀ m0, CuOK m0 c → CuOK (m0 + 6) (pkC 3 c1) := fun m0 h => (pkC_ok (b1 m0 h)).mono (by omega)
  generalize pkC 3 c1 = c2 at hc2 d2 b2
  generalize pkV 3 c1 = dd at hd hd2 d2
  have hdg : dG n dd = if n = 3 then 1 else 1 + dd := rfl
  have hr := amV_mem (xs := ksG) hc2 (by simp)
  obtain ⟨R, hR, hR1, hR2⟩ : ∃ R : Nat, amV ksG c2 = R ∧ 1 ≤ R ∧ R ≤ 3 := by
    simp only [List.mem_cons, List.not_mem_nil, or_false] at hr
    rcases hr with h | h | h | h
    · exact ⟨1, h, by omega, by omega⟩
    · exact ⟨2, h, by omega, by omega⟩
    · exact ⟨2, h, by omega, by omega⟩
    · exact ⟨3, h, by omega, by omega⟩
  have d4 := among_h (xs := ksG) (c := c2) (hc2.mono (by omega)) (by simp)
  rw [hR] at d4
  have hc4 := amC_ok (xs := ksG) hc2
  have b4 : ∀ m0, CuOK m0 c → CuOK (m0 + 8) (amC ksG c2) := fun m0 h => (amC_ok (b2 m0 h)).mono (by omega)
  generalize amC ksG c2 = c4 at hc4 b4 d4
  have hkb0 : (2 * (n : Int) + 2) * (R : Int) ≤ 24 := by
    have h1 : (2 * n + 2) * R ≤ 8 * 3 := Nat.mul_le_mul (by omega) (by omega)
    have h2 : (((2 * n + 2) * R : Nat) : Int) ≤ 24 := by omega
    simpa using h2
  have hk0 : CuOK 999999981000 (rqC n R c4) := (rqC_ok (n := n) hc4 R).mono (by omega)
  obtain ⟨x, c5, b5, d5⟩ := state8_h (m := unif n (dG n dd) n) (s := rqV n R c4) (c := rqC n R c4) (hk0.mono (by omega))
  refine ⟨unif n (dG n dd) n, rqV n R c4, x, c5, by rw [unif_len]; omega, by rw [rqV_len]; omega, fun m0 h => (b5 _ (rqC_ok (n := n) (b4 m0 h) R)).mono (by omega), ?_⟩
  refine spec_hB Try.func77 rfl Try.ntmps77 cfOK (fun _ _ => by kernel_rfl) rfl rfl rfl ?_
  intro M0 w0 S φ0
  rw [Try.results77]
  (repeat (first | refine g1 ?_ | refine g2 ?_ | ((first | refine g3 ?_ | refine g4 ?_ | refine g5 ?_); try simp only [xq, simprocAttr]) | ((first | refine g6 ?_ | refine g7 ?_); simp only [xr, simprocAttr]; repeat (guard_target =~ _ ∧ _; refine ⟨by first | trivial | (unfold I64; omega) | omega | (simp <;> omega) | (intros; omega), ?_⟩))))
  (refine .inr (.inl (callW_a [0] (d0) rfl rfl rfl rfl ⟨rfl, trivial⟩ rfl rfl rfl rfl ?_)); (try simp only [xr, simprocAttr]); repeat (guard_target =~ _ ∧ _; refine ⟨by first | trivial | (unfold I64; omega) | omega | (simp <;> omega) | (intros; omega), ?_⟩))
  (repeat (first | refine g1 ?_ | refine g2 ?_ | ((first | refine g3 ?_ | refine g4 ?_ | refine g5 ?_); try simp only [xq, simprocAttr]) | ((first | refine g6 ?_ | refine g7 ?_); simp only [xr, simprocAttr]; repeat (guard_target =~ _ ∧ _; refine ⟨by first | trivial | (unfold I64; omega) | omega | (simp <;> omega) | (intros; omega), ?_⟩))))
  refine awp_cond (by first | rfl | (simp only [xr, simprocAttr]; rfl)) (fun hb => ?_) (fun hb => ?_)
  · simp at hb
  (repeat (first | refine g1 ?_ | refine g2 ?_ | ((first | refine g3 ?_ | refine g4 ?_ | refine g5 ?_); try simp only [xq, simprocAttr]) | ((first | refine g6 ?_ | refine g7 ?_); simp only [xr, simprocAttr]; repeat (guard_target =~ _ ∧ _; refine ⟨by first | trivial | (unfold I64; omega) | omega | (simp <;> omega) | (intros; omega), ?_⟩))))
  (refine .inr (.inl (callW_a [0] (d1) rfl rfl rfl rfl ⟨rfl, trivial⟩ rfl rfl rfl rfl ?_)); (try simp only [xr, simprocAttr]); repeat (guard_target =~ _ ∧ _; refine ⟨by first | trivial | (unfold I64; omega) | omega | (simp <;> omega) | (intros; omega), ?_⟩))
  (repeat (first | refine g1 ?_ | refine g2 ?_ | ((first | refine g3 ?_ | refine g4 ?_ | refine g5 ?_); try simp only [xq, simprocAttr]) | ((first | refine g6 ?_ | refine g7 ?_); simp only [xr, simprocAttr]; repeat (guard_target =~ _ ∧ _; refine ⟨by first | trivial | (unfold I64; omega) | omega | (simp <;> omega) | (intros; omega), ?_⟩))))
  (refine .inr (.inl (callW_a [0] (d2) rfl rfl rfl rfl ⟨rfl, trivial⟩ rfl rfl rfl rfl ?_)); (try simp only [xr, simprocAttr]); repeat (guard_target =~ _ ∧ _; refine ⟨by first | trivial | (unfold I64; omega) | omega | (simp <;> omega) | (intros; omega), ?_⟩))
  (repeat (first | refine g1 ?_ | refine g2 ?_ | ((first | refine g3 ?_ | refine g4 ?_ | refine g5 ?_); try simp only [xq, simprocAttr]) | ((first | refine g6 ?_ | refine g7 ?_); simp only [xr, simprocAttr]; repeat (guard_target =~ _ ∧ _; refine ⟨by first | trivial | (unfold I64; omega) | omega | (simp <;> omega) | (intros; omega), ?_⟩))))
  refine awp_mid [(6, true, .int (dG n dd))] [0, 2, 5] [curO c2, .box [.b (.val (.slice none 0 0)), .b (.val (.slice none 0 0))]] ?_ ?_
  · refine awp_cond (by first | rfl | (simp only [xr, simprocAttr]; rfl)) (fun h => ?_) (fun h => ?_)
    · have h := of_decide_eq_true h
      rw [show dG n dd = 1 by unfold dG; rw [if_pos (by omega)]]
      (repeat (first | refine g1 ?_ | refine g2 ?_ | ((first | refine g3 ?_ | refine g4 ?_ | refine g5 ?_); try simp only [xq, simprocAttr]) | ((first | refine g6 ?_ | refine g7 ?_); simp only [xr, simprocAttr]; repeat (guard_target =~ _ ∧ _; refine ⟨by first | trivial | (unfold I64; omega) | omega | (simp <;> omega) | (intros; omega), ?_⟩))))
      refine .inl ?_
      ((try simp only [xk]); (repeat (refine leK_cons ?_ ?_; first | (focus (first | rfl | (simp only [xr, simprocAttr]; done) | (simp only [xr, simprocAttr]; refine int_eq1 ?_; first | trivial | (unfold I64; omega) | omega | (simp <;> omega) | (intros; omega)))) | rotate_left)); (try exact leK_nil rfl); (all_goals (try (simp only [xr, simprocAttr]; try refine int_eq1 ?_))))
    · have h := of_decide_eq_false h
      rw [show dG n dd = 1 + dd by unfold dG; rw [if_neg (by omega)]]
      (repeat (first | refine g1 ?_ | refine g2 ?_ | ((first | refine g3 ?_ | refine g4 ?_ | refine g5 ?_); try simp only [xq, simprocAttr]) | ((first | refine g6 ?_ | refine g7 ?_); simp only [xr, simprocAttr]; repeat (guard_target =~ _ ∧ _; refine ⟨by first | trivial | (unfold I64; omega) | omega | (simp <;> omega) | (intros; omega), ?_⟩))))
      refine .inl ?_
      ((try simp only [xk]); (repeat (refine leK_cons ?_ ?_; first | (focus (first | rfl | (simp only [xr, simprocAttr]; done) | (simp only [xr, simprocAttr]; refine int_eq1 ?_; first | trivial | (unfold I64; omega) | omega | (simp <;> omega) | (intros; omega)))) | rotate_left)); (try exact leK_nil rfl); (all_goals (try (simp only [xr, simprocAttr]; try refine int_eq1 ?_))))
  generalize dG n dd = dv at hdg d5
  simp only [xr, simprocAttr]
  (repeat (first | refine g1 ?_ | refine g2 ?_ | ((first | refine g3 ?_ | refine g4 ?_ | refine g5 ?_); try simp only [xq, simprocAttr]) | ((first | refine g6 ?_ | refine g7 ?_); simp only [xr, simprocAttr]; repeat (guard_target =~ _ ∧ _; refine ⟨by first | trivial | (unfold I64; omega) | omega | (simp <;> omega) | (intros; omega), ?_⟩))))
  (refine .inr (.inl (callW_a [] (l6Uniform_h n dv (by omega)) rfl rfl rfl rfl trivial rfl rfl rfl rfl ?_)); (try simp only [xr, simprocAttr]); repeat (guard_target =~ _ ∧ _; refine ⟨by first | trivial | (unfold I64; omega) | omega | (simp <;> omega) | (intros; omega), ?_⟩))
  (repeat (first | refine g1 ?_ | refine g2 ?_ | ((first | refine g3 ?_ | refine g4 ?_ | refine g5 ?_); try simp only [xq, simprocAttr]) | ((first | refine g6 ?_ | refine g7 ?_); simp only [xr, simprocAttr]; repeat (guard_target =~ _ ∧ _; refine ⟨by first | trivial | (unfold I64; omega) | omega | (simp <;> omega) | (intros; omega), ?_⟩))))
  (refine .inr (.inl (callW_a [0] (d4) rfl rfl rfl rfl ⟨rfl, trivial⟩ rfl rfl rfl rfl ?_)); (try simp only [xr, simprocAttr]); repeat (guard_target =~ _ ∧ _; refine ⟨by first | trivial | (unfold I64; omega) | omega | (simp <;> omega) | (intros; omega), ?_⟩))
  (repeat (first | refine g1 ?_ | refine g2 ?_ | ((first | refine g3 ?_ | refine g4 ?_ | refine g5 ?_); try simp only [xq, simprocAttr]) | ((first | refine g6 ?_ | refine g7 ?_); simp only [xr, simprocAttr]; repeat (guard_target =~ _ ∧ _; refine ⟨by first | trivial | (unfold I64; omega) | omega | (simp <;> omega) | (intros; omega), ?_⟩))))
  (refine awp_nil 3 1 27 (.ii []) rfl rfl rfl (by first | trivial | (intro _ h; cases h)) ?_; simp only [xr, simprocAttr])
  (refine awp_toT 4 3 [] rfl rfl rfl ?_; simp only [xu, simprocAttr])
  refine awp_rounds (α := Nat) (fun k => [(8, true, .int ((R : Int) - (k : Int)))]) [0, 2, 5, 7] (fun k => [curO (rqC n k c4), .box [.b (.val (.slice none 0 0)), .b (.val (.slice none 0 0))], .tree [27, 3] (.ii (unif n dv n)), .box [.own 2, .own 4], .tree [27, 3] (.ii (rqV n k c4))]) (fun k => k ≤ R) (fun k => R - k) 0 (by ((try simp only [xk]); (repeat (refine leK_cons ?_ ?_; first | (focus (first | rfl | (simp only [xr, simprocAttr]; done) | (simp only [xr, simprocAttr]; refine int_eq1 ?_; first | trivial | (unfold I64; omega) | omega | (simp <;> omega) | (intros; omega)))) | rotate_left)); (try exact leK_nil rfl); (all_goals (try (simp only [xr, simprocAttr]; try refine int_eq1 ?_))))) (Nat.zero_le _) fun k hk => ?_
  have hkl := rqV_len n c4 k
  have hkc := rqC_ok (n := n) hc4 k
  have hkb : (2 * (n : Int) + 2) * (k : Int) ≤ 24 := by
    have h1 : (2 * n + 2) * k ≤ 8 * 3 := Nat.mul_le_mul (by omega) (by omega)
    have h2 : (((2 * n + 2) * k : Nat) : Int) ≤ 24 := by omega
    simpa using h2
  simp only [xr, simprocAttr]
  (repeat (first | refine g1 ?_ | refine g2 ?_ | ((first | refine g3 ?_ | refine g4 ?_ | refine g5 ?_); try simp only [xq, simprocAttr]) | ((first | refine g6 ?_ | refine g7 ?_); simp only [xr, simprocAttr]; repeat (guard_target =~ _ ∧ _; refine ⟨by first | trivial | (unfold I64; omega) | omega | (simp <;> omega) | (intros; omega), ?_⟩))))
  refine awp_cond (by first | rfl | (simp only [xr, simprocAttr]; rfl)) (fun hc7 => ?_) (fun hc7 => ?_)
  · have hc7 := of_decide_eq_true hc7
    have hk' : k < R := by omega
    generalize hr0 : rqC n k c4 = r at hkc
    have hrc : CuOK 999999981000 r := hkc.mono (by omega)
    (repeat (first | refine g1 ?_ | refine g2 ?_ | ((first | refine g3 ?_ | refine g4 ?_ | refine g5 ?_); try simp only [xq, simprocAttr]) | ((first | refine g6 ?_ | refine g7 ?_); simp only [xr, simprocAttr]; repeat (guard_target =~ _ ∧ _; refine ⟨by first | trivial | (unfold I64; omega) | omega | (simp <;> omega) | (intros; omega), ?_⟩))))
    refine awp_rounds (α := Nat) (fun j => [(10, true, .int j)]) [0, 2, 5, 7, 8, 9] (fun j => [curO (amLC csG j r), .box [.b (.val (.slice none 0 0)), .b (.val (.slice none 0 0))], .tree [27, 3] (.ii (unif n dv n)), .box [.own 2, .own 4], .tree [27, 3] (.ii (rqV n k c4)), .row 3 (.ints (amL csG j r))]) (fun j => j ≤ n) (fun j => n - j) 0 (by ((try simp only [xk]); (repeat (refine leK_cons ?_ ?_; first | (focus (first | rfl | (simp only [xr, simprocAttr]; done) | (simp only [xr, simprocAttr]; refine int_eq1 ?_; first | trivial | (unfold I64; omega) | omega | (simp <;> omega) | (intros; omega)))) | rotate_left)); (try exact leK_nil rfl); (all_goals (try (simp only [xr, simprocAttr]; try refine int_eq1 ?_))))) (Nat.zero_le _) fun j hj => ?_
    have hjl := amL_len csG r j
    have hjc := amLC_ok (xs := csG) hrc j
    simp only [xr, simprocAttr]
    (repeat (first | refine g1 ?_ | refine g2 ?_ | ((first | refine g3 ?_ | refine g4 ?_ | refine g5 ?_); try simp only [xq, simprocAttr]) | ((first | refine g6 ?_ | refine g7 ?_); simp only [xr, simprocAttr]; repeat (guard_target =~ _ ∧ _; refine ⟨by first | trivial | (unfold I64; omega) | omega | (simp <;> omega) | (intros; omega), ?_⟩))))
    refine awp_cond (by first | rfl | (simp only [xr, simprocAttr]; rfl)) (fun hc8 => ?_) (fun hc8 => ?_)
    · have hc8 := of_decide_eq_true hc8
      (repeat (first | refine g1 ?_ | refine g2 ?_ | ((first | refine g3 ?_ | refine g4 ?_ | refine g5 ?_); try simp only [xq, simprocAttr]) | ((first | refine g6 ?_ | refine g7 ?_); simp only [xr, simprocAttr]; repeat (guard_target =~ _ ∧ _; refine ⟨by first | trivial | (unfold I64; omega) | omega | (simp <;> omega) | (intros; omega), ?_⟩))))
      (refine .inr (.inl (callW_a [0] (among_h (xs := csG) (hjc.mono (by omega)) (by simp)) rfl rfl rfl rfl ⟨rfl, trivial⟩ rfl rfl rfl rfl ?_)); (try simp only [xr, simprocAttr]); repeat (guard_target =~ _ ∧ _; refine ⟨by first | trivial | (unfold I64; omega) | omega | (simp <;> omega) | (intros; omega), ?_⟩))
      (repeat (first | refine g1 ?_ | refine g2 ?_ | ((first | refine g3 ?_ | refine g4 ?_ | refine g5 ?_); try simp only [xq, simprocAttr]) | ((first | refine g6 ?_ | refine g7 ?_); simp only [xr, simprocAttr]; repeat (guard_target =~ _ ∧ _; refine ⟨by first | trivial | (unfold I64; omega) | omega | (simp <;> omega) | (intros; omega), ?_⟩))))
      refine ⟨j + 1, by omega, by omega, .inr ⟨6, Nat.le_of_ble_eq_true rfl, leT_of ?_ rfl rfl rfl⟩⟩
      ((try simp only [xk]); (repeat (refine leK_cons ?_ ?_; first | (focus (first | rfl | (simp only [xr, simprocAttr]; done) | (simp only [xr, simprocAttr]; refine int_eq1 ?_; first | trivial | (unfold I64; omega) | omega | (simp <;> omega) | (intros; omega)))) | rotate_left)); (refine leK_nil ?_; exact (rfl)); (all_goals (try (simp only [xr, simprocAttr]; try refine int_eq1 ?_))))
    · have hc8 := of_decide_eq_false hc8
      obtain rfl : j = n := by omega
      (repeat (first | refine g1 ?_ | refine g2 ?_ | ((first | refine g3 ?_ | refine g4 ?_ | refine g5 ?_); try simp only [xq, simprocAttr]) | ((first | refine g6 ?_ | refine g7 ?_); simp only [xr, simprocAttr]; repeat (guard_target =~ _ ∧ _; refine ⟨by first | trivial | (unfold I64; omega) | omega | (simp <;> omega) | (intros; omega), ?_⟩))))
      ((try refine Or.inl ?_); refine ⟨_, (l8Request_e j _ (by omega)), .inl rfl, ?_⟩; (try simp only [xr, simprocAttr]); repeat (guard_target =~ _ ∧ _; refine ⟨by first | trivial | (unfold I64; omega) | omega | (simp <;> omega) | (intros; omega), ?_⟩))
      have fin : ∀ v c', rgV j r = v → rgC j r = c' → rqV j (k + 1) c4 = rqV j k c4 ++ [v] ∧ rqC j (k + 1) c4 = c' := fun v c' h1 h2 => by subst h1 h2; simp [rqV, rqC, hr0]
      (repeat (first | refine g1 ?_ | refine g2 ?_ | ((first | refine g3 ?_ | refine g4 ?_ | refine g5 ?_); try simp only [xq, simprocAttr]) | ((first | refine g6 ?_ | refine g7 ?_); simp only [xr, simprocAttr]; repeat (guard_target =~ _ ∧ _; refine ⟨by first | trivial | (unfold I64; omega) | omega | (simp <;> omega) | (intros; omega), ?_⟩))))
      refine awp_cond (by first | rfl | (simp only [xr, simprocAttr]; rfl)) (fun hB => ?_) (fun hB => ?_)
      · obtain ⟨f1, f2⟩ := fin _ _ (if_pos hB) (if_pos hB)
        obtain ⟨q1, q2⟩ := pkV_rng j hjc
        have q2 := q2 (by omega)
        (repeat (first | refine g1 ?_ | refine g2 ?_ | ((first | refine g3 ?_ | refine g4 ?_ | refine g5 ?_); try simp only [xq, simprocAttr]) | ((first | refine g6 ?_ | refine g7 ?_); simp only [xr, simprocAttr]; repeat (guard_target =~ _ ∧ _; refine ⟨by first | trivial | (unfold I64; omega) | omega | (simp <;> omega) | (intros; omega), ?_⟩))))
        (refine .inr (.inl (callW_a [0] (pick_h (n := j) (hjc.mono (by omega))) rfl rfl rfl rfl ⟨rfl, trivial⟩ rfl rfl rfl rfl ?_)); (try simp only [xr, simprocAttr]); repeat (guard_target =~ _ ∧ _; refine ⟨by first | trivial | (unfold I64; omega) | omega | (simp <;> omega) | (intros; omega), ?_⟩))
        (repeat (first | refine g1 ?_ | refine g2 ?_ | ((first | refine g3 ?_ | refine g4 ?_ | refine g5 ?_); try simp only [xq, simprocAttr]) | ((first | refine g6 ?_ | refine g7 ?_); simp only [xr, simprocAttr]; repeat (guard_target =~ _ ∧ _; refine ⟨by first | trivial | (unfold I64; omega) | omega | (simp <;> omega) | (intros; omega), ?_⟩))))
        refine ⟨k + 1, by omega, by omega, .inr ⟨5, Nat.le_of_ble_eq_true rfl, leT_of ?_ rfl rfl rfl⟩⟩
        ((try simp only [xk]); (repeat (refine leK_cons ?_ ?_; first | (focus (first | rfl | (simp only [xr, simprocAttr]; done) | (simp only [xr, simprocAttr]; refine int_eq1 ?_; first | trivial | (unfold I64; omega) | omega | (simp <;> omega) | (intros; omega)))) | rotate_left)); (refine leK_nil ?_; exact (by rw [f1, f2]; rfl)); (all_goals (try (simp only [xr, simprocAttr]; try refine int_eq1 ?_))))
      · obtain ⟨f1, f2⟩ := fin _ _ (if_neg (by rw [hB]; simp)) (if_neg (by rw [hB]; simp))
        (repeat (first | refine g1 ?_ | refine g2 ?_ | ((first | refine g3 ?_ | refine g4 ?_ | refine g5 ?_); try simp only [xq, simprocAttr]) | ((first | refine g6 ?_ | refine g7 ?_); simp only [xr, simprocAttr]; repeat (guard_target =~ _ ∧ _; refine ⟨by first | trivial | (unfold I64; omega) | omega | (simp <;> omega) | (intros; omega), ?_⟩))))
        refine ⟨k + 1, by omega, by omega, .inr ⟨5, Nat.le_of_ble_eq_true rfl, leT_of ?_ rfl rfl rfl⟩⟩
        ((try simp only [xk]); (repeat (refine leK_cons ?_ ?_; first | (focus (first | rfl | (simp only [xr, simprocAttr]; done) | (simp only [xr, simprocAttr]; refine int_eq1 ?_; first | trivial | (unfold I64; omega) | omega | (simp <;> omega) | (intros; omega)))) | rotate_left)); (refine leK_nil ?_; exact (by rw [f1, f2]; rfl)); (all_goals (try (simp only [xr, simprocAttr]; try refine int_eq1 ?_))))
  · have hc7 := of_decide_eq_false hc7
    obtain rfl : k = R := by omega
    (refine awp_frzT 2 rfl ?_; simp only [xz, simprocAttr])
    (refine awp_frzT 4 rfl ?_; simp only [xz, simprocAttr])
    (repeat (first | refine g1 ?_ | refine g2 ?_ | ((first | refine g3 ?_ | refine g4 ?_ | refine g5 ?_); try simp only [xq, simprocAttr]) | ((first | refine g6 ?_ | refine g7 ?_); simp only [xr, simprocAttr]; repeat (guard_target =~ _ ∧ _; refine ⟨by first | trivial | (unfold I64; omega) | omega | (simp <;> omega) | (intros; omega), ?_⟩))))
    ((repeat (first | refine g1 ?_ | refine g2 ?_ | ((first | refine g3 ?_ | refine g4 ?_); try simp only [xq, simprocAttr]))); refine awp_anyG 0 [(3, [0]), (4, [1])] [0, 1] [(1, [1]), (3, [1]), (4, [0])] ?_; simp (maxSteps := 3000000) only [xg, xr, simprocAttr]; repeat (guard_target =~ _ ∧ _; refine ⟨by first | (guard_target =~ _ = _; rfl) | (guard_target =~ (_ : Int) ≤ _; omega) | (first | trivial | (unfold I64; omega) | omega | (simp <;> omega) | (intros; omega)), ?_⟩))
    ((first | refine .inr (.inr ⟨0, _, _, callG_h (d5) rfl rfl rfl rfl rfl rfl rfl, ?_⟩) | refine .inr ⟨0, _, _, callG_h (d5) rfl rfl rfl rfl rfl rfl rfl, ?_⟩ | refine ⟨0, _, _, callG_h (d5) rfl rfl rfl rfl rfl rfl rfl, ?_⟩); (try simp (maxSteps := 3000000) only [xg, xr, simprocAttr]); repeat (guard_target =~ _ ∧ _; refine ⟨by first | (guard_target =~ _ = _; rfl) | (guard_target =~ (_ : Int) ≤ _; omega) | (first | trivial | (unfold I64; omega) | omega | (simp <;> omega) | (intros; omega)), ?_⟩))
    (repeat (first | refine g1 ?_ | refine g2 ?_ | ((first | refine g3 ?_ | refine g4 ?_ | refine g5 ?_); try simp only [xq, simprocAttr]) | ((first | refine g6 ?_ | refine g7 ?_); simp only [xr, simprocAttr]; repeat (guard_target =~ _ ∧ _; refine ⟨by first | trivial | (unfold I64; omega) | omega | (simp <;> omega) | (intros; omega), ?_⟩))))
    (simp only [ends_normal, ends_ret]; refine retH_2 (vs := [_, _]) [0] rfl ⟨rfl, trivial⟩ rfl rfl rfl rfl ⟨⟨by simp only [xr, simprocAttr] <;> (and_intros <;> first | trivial | (unfold I64; omega) | omega | (simp <;> omega) | (intros; omega)), rfl⟩, rfl, trivial⟩ ?_; try rfl)
theorem game_h {c : Cu} (hc : CuOK 999999980000 c) : ∃ m s x c', m.length ≤ 5 ∧ s.length ≤ 16 ∧ (∀ m0, CuOK m0 c → CuOK (m0 + 90) c') ∧ DoesH Try.prog 77 [.lf (.ptr 0 0)] [true] [curO c] (gameRes m s x) [curO c'] := by
  by_cases h : pkV 8 c = 0
  · exact game_a hc h
  · exact game_b hc h
end Go.Proofs.Ytcidddfjimbkbaa
