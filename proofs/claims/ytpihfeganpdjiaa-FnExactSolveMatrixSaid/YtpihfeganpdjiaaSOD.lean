/- Solved matrices by the program, on the machine. Conditions: none. -/
import Derived.Test.YtpihfeganpdjiaaSOC
import Derived.Test.YtpihfeganpdjiaaMatrix
set_option linter.all false
set_option linter.unusedSimpArgs false
set_option linter.unusedVariables false
namespace Go.Proofs.Ytpihfeganpdjiaa
open Go Go.RowKit Am

theorem isMatrix_d (m : List (List Int)) : Does Try.prog 25 [.sl (.ii m)] (.imm (.bool (matB m))) :=
  does_val (fun _ _ => by kernel_rfl) fun M w us hm ha => by
    obtain ⟨u, us', rfl, h1, h2⟩ := args_inv ha
    obtain rfl := args_inv0 h2
    exact isMatrix_any w _ m (sl_of_sii hm h1)
theorem subs_none : ∀ n, n < 4 → ∀ k, k < 4 → n < k → subs n k 0 = [] := by decide
theorem manyQ_at : ∀ q, q < 3 → manyQ.getD q 0 = q := by decide
theorem many_none {m : List (List Int)} {c k : Nat} (hm : m.length < 4) (hc : c < 4) (hk : k < 4) (h : min m.length c < k) : solMany m c k = none := by
  unfold solMany
  rcases Nat.lt_or_ge m.length k with h1 | h1
  · rw [chs_eq _ hm _ hk, subs_none _ hm _ hk h1]
    rfl
  · have h2 : c < k := by omega
    refine List.findSome?_eq_none_iff.2 fun r _ => ?_
    unfold solRow
    rw [chs_eq _ hc _ hk, subs_none _ hc _ hk h2]
    rfl
theorem many_end {m : List (List Int)} {c q : Nat} (hm : m.length < 4) (hc : c < 4) (hq : min m.length c = q) (h : (manyQ.take q).findSome? (fun q => solMany m c (q + 1)) = none) : ∀ t, q ≤ t → t ≤ 3 → (manyQ.take t).findSome? (fun q => solMany m c (q + 1)) = none
  | 0, h1, _ => by obtain rfl : q = 0 := by omega
                   exact h
  | t + 1, h1, h2 => by
    rcases Nat.lt_or_ge t q with h3 | h3
    · obtain rfl : q = t + 1 := by omega
      exact h
    · exact fsq_next (d := 0) (many_end hm hc hq h t h3 (by omega)) (by rw [manyQ_len]; omega) (by rw [manyQ_at t (by omega)]; exact many_none hm hc (by omega) (by omega))
theorem chs_ch {m : List (List Int)} {c k : Nat} {rs cs : List Int} (h : MatQ m c) (hk0 : 1 ≤ k) (hk : k < 4) (h1 : rs ∈ chs m.length k) (h2 : cs ∈ chs c k) : ChQ m c k rs cs := by
  have := h.l3
  have := h.c3
  exact ⟨h, chs_pl (by omega) hk h1, chs_pl (by omega) hk h2, chs_nd _ (by omega) _ hk _ h1, chs_nd _ (by omega) _ hk _ h2, hk0, by omega⟩
set_option maxRecDepth 8000 in
set_option maxHeartbeats 8000000 in
theorem impl_SolveMatrix_h (m : List (List Int)) : DoesH Try.prog 7 [.sl (.ii m)] [] [] (solT (smR m)) (solO (smR m)) := by
  refine spec_hB Try.func7 rfl Try.ntmps7 cfOK (fun _ _ => by kernel_rfl) rfl rfl rfl ?_
  intro M0 w0 S φ0
  rw [Try.results7]
  (repeat (first | refine g1 ?_ | refine g2 ?_ | ((first | refine g3 ?_ | refine g4 ?_ | refine g5 ?_); try simp only [xq, simprocAttr]) | ((first | refine g6 ?_ | refine g7 ?_); simp only [xr, simprocAttr]; repeat (guard_target =~ _ ∧ _; refine ⟨by first | trivial | (unfold I64; omega) | omega | (simp <;> omega) | (intros; omega), ?_⟩))))
  ((try refine Or.inl ?_); refine ⟨_, (isMatrix_d m), .inl rfl, ?_⟩; (try simp only [xr, simprocAttr]); repeat (guard_target =~ _ ∧ _; refine ⟨by first | trivial | (unfold I64; omega) | omega | (simp <;> omega) | (intros; omega), ?_⟩))
  (repeat (first | refine g1 ?_ | refine g2 ?_ | ((first | refine g3 ?_ | refine g4 ?_ | refine g5 ?_); try simp only [xq, simprocAttr]) | ((first | refine g6 ?_ | refine g7 ?_); simp only [xr, simprocAttr]; repeat (guard_target =~ _ ∧ _; refine ⟨by first | trivial | (unfold I64; omega) | omega | (simp <;> omega) | (intros; omega), ?_⟩))))
  refine awp_cond (by first | rfl | (simp only [xr, simprocAttr]; rfl)) (fun hc => ?_) (fun hc => ?_)
  · have hc : matB m = false := by simpa using hc
    have hr : smR m = none := by unfold smR; rw [hc]; rfl
    rw [hr]
    (repeat (first | refine g1 ?_ | refine g2 ?_ | ((first | refine g3 ?_ | refine g4 ?_ | refine g5 ?_); try simp only [xq, simprocAttr]) | ((first | refine g6 ?_ | refine g7 ?_); simp only [xr, simprocAttr]; repeat (guard_target =~ _ ∧ _; refine ⟨by first | trivial | (unfold I64; omega) | omega | (simp <;> omega) | (intros; omega), ?_⟩))))
    (simp only [ends_normal, ends_ret]; refine retH_2 (vs := [_, _, _, _]) [] rfl trivial rfl rfl rfl rfl ⟨rfl, rfl, ⟨by simp only [xr, simprocAttr] <;> (and_intros <;> first | trivial | (unfold I64; omega) | omega | (simp <;> omega) | (intros; omega)), rfl⟩, rfl, trivial⟩ ?_; try rfl)
    all_goals rfl
  have hc : matB m = true := by simpa using hc
  have hq := matB_q hc
  have hr : smR m = solAll m (headLen m) := by unfold smR; rw [if_pos hc]
  rw [hr]
  obtain ⟨c, hce⟩ : ∃ c, headLen m = c := ⟨_, rfl⟩
  rw [hce] at hq ⊢
  have hl0 := hq.l0
  have hl3 := hq.l3
  have hc0 := hq.c0
  have hc3 := hq.c3
  have h0r := hq.len hl0
  (repeat (first | refine g1 ?_ | refine g2 ?_ | ((first | refine g3 ?_ | refine g4 ?_ | refine g5 ?_); try simp only [xq, simprocAttr]) | ((first | refine g6 ?_ | refine g7 ?_); simp only [xr, simprocAttr]; repeat (guard_target =~ _ ∧ _; refine ⟨by first | trivial | (unfold I64; omega) | omega | (simp <;> omega) | (intros; omega), ?_⟩))))
  refine awp_rounds (α := Nat) (fun q => [(6, true, .int ((q : Int) + 1))]) [0, 4] (fun q => [.box [.b (.val (.int .i64 0)), .b (.val (.int .i64 0))]]) (fun q => q ≤ min m.length c ∧ (manyQ.take q).findSome? (fun q => solMany m c (q + 1)) = none) (fun q => 3 - q) 0 (by ((try simp only [xk]); (repeat (refine leK_cons ?_ ?_; first | (focus (first | rfl | (simp only [xr, simprocAttr]; done) | (simp only [xr, simprocAttr]; refine int_eq1 ?_; first | trivial | (unfold I64; omega) | omega | (simp <;> omega) | (intros; omega)))) | rotate_left)); (refine leK_nil ?_; exact (by rfl)); (all_goals (try (simp only [xr, simprocAttr]; try refine int_eq1 ?_))))) ⟨Nat.zero_le _, rfl⟩ fun q ⟨hqm, hqn⟩ => ?_
  simp only [xr, simprocAttr]
  (repeat (first | refine g1 ?_ | refine g2 ?_ | ((first | refine g3 ?_ | refine g4 ?_ | refine g5 ?_); try simp only [xq, simprocAttr]) | ((first | refine g6 ?_ | refine g7 ?_); simp only [xr, simprocAttr]; repeat (guard_target =~ _ ∧ _; refine ⟨by first | trivial | (unfold I64; omega) | omega | (simp <;> omega) | (intros; omega), ?_⟩))))
  rw [h0r]
  refine awp_cond (by first | rfl | (simp only [xr, simprocAttr]; rfl)) (fun hd => ?_) (fun hd => ?_)
  · have hd := of_decide_eq_true hd
    have hq' : q < min m.length c := by omega
    obtain ⟨k, hk⟩ : ∃ k, q + 1 = k := ⟨_, rfl⟩
    have hk4 : k < 4 := by omega
    rw [show ((q : Int) + 1) = (k : Int) by omega]
    have hL1 := chs_len m.length (by omega) k hk4
    have hL2 := chs_len c (by omega) k hk4
    have hs1 := subsets_d m.length (by omega) k hk4 0 (by omega)
    have hs2 := subsets_d c (by omega) k hk4 0 (by omega)
    rw [← chs_eq _ (by omega) _ hk4] at hs1 hs2
    (repeat (first | refine g1 ?_ | refine g2 ?_ | ((first | refine g3 ?_ | refine g4 ?_ | refine g5 ?_); try simp only [xq, simprocAttr]) | ((first | refine g6 ?_ | refine g7 ?_); simp only [xr, simprocAttr]; repeat (guard_target =~ _ ∧ _; refine ⟨by first | trivial | (unfold I64; omega) | omega | (simp <;> omega) | (intros; omega), ?_⟩))))
    ((try refine Or.inl ?_); refine ⟨_, (hs1), .inr (by and_intros <;> first | rfl | (simp; done)), ?_⟩; (try simp only [xr, simprocAttr]); repeat (guard_target =~ _ ∧ _; refine ⟨by first | trivial | (unfold I64; omega) | omega | (simp <;> omega) | (intros; omega), ?_⟩))
    (repeat (first | refine g1 ?_ | refine g2 ?_ | ((first | refine g3 ?_ | refine g4 ?_ | refine g5 ?_); try simp only [xq, simprocAttr]) | ((first | refine g6 ?_ | refine g7 ?_); simp only [xr, simprocAttr]; repeat (guard_target =~ _ ∧ _; refine ⟨by first | trivial | (unfold I64; omega) | omega | (simp <;> omega) | (intros; omega), ?_⟩))))
    refine awp_rounds (α := Nat) (fun i => [(35, true, .int i)]) [0, 4, 6, 33, 34] (fun i => [.box [.b (.val (.int .i64 0)), .b (.val (.int .i64 0))]]) (fun i => i ≤ (chs m.length k).length ∧ ((chs m.length k).take i).findSome? (solRow m c k) = none) (fun i => (chs m.length k).length - i) 0 (by ((try simp only [xk]); (repeat (refine leK_cons ?_ ?_; first | (focus (first | rfl | (simp only [xr, simprocAttr]; done) | (simp only [xr, simprocAttr]; refine int_eq1 ?_; first | trivial | (unfold I64; omega) | omega | (simp <;> omega) | (intros; omega)))) | rotate_left)); (refine leK_nil ?_; exact (by rfl)); (all_goals (try (simp only [xr, simprocAttr]; try refine int_eq1 ?_))))) ⟨Nat.zero_le _, rfl⟩ fun i ⟨hi, hin⟩ => ?_
    simp only [xr, simprocAttr]
    (repeat (first | refine g1 ?_ | refine g2 ?_ | ((first | refine g3 ?_ | refine g4 ?_ | refine g5 ?_); try simp only [xq, simprocAttr]) | ((first | refine g6 ?_ | refine g7 ?_); simp only [xr, simprocAttr]; repeat (guard_target =~ _ ∧ _; refine ⟨by first | trivial | (unfold I64; omega) | omega | (simp <;> omega) | (intros; omega), ?_⟩))))
    refine awp_cond (by first | rfl | (simp only [xr, simprocAttr]; rfl)) (fun he => ?_) (fun he => ?_)
    · have he := of_decide_eq_true he
      have hi' : i < (chs m.length k).length := by omega
      obtain ⟨rs, hrs⟩ : ∃ rs, (chs m.length k).getD i [] = rs := ⟨_, rfl⟩
      have hrm : rs ∈ chs m.length k := by rw [← hrs, getD_inQ hi']; exact List.getElem_mem _
      (repeat (first | refine g1 ?_ | refine g2 ?_ | ((first | refine g3 ?_ | refine g4 ?_ | refine g5 ?_); try simp only [xq, simprocAttr]) | ((first | refine g6 ?_ | refine g7 ?_); simp only [xr, simprocAttr]; repeat (guard_target =~ _ ∧ _; refine ⟨by first | trivial | (unfold I64; omega) | omega | (simp <;> omega) | (intros; omega), ?_⟩))))
      rw [h0r]
      ((try refine Or.inl ?_); refine ⟨_, (hs2), .inr (by and_intros <;> first | rfl | (simp; done)), ?_⟩; (try simp only [xr, simprocAttr]); repeat (guard_target =~ _ ∧ _; refine ⟨by first | trivial | (unfold I64; omega) | omega | (simp <;> omega) | (intros; omega), ?_⟩))
      (repeat (first | refine g1 ?_ | refine g2 ?_ | ((first | refine g3 ?_ | refine g4 ?_ | refine g5 ?_); try simp only [xq, simprocAttr]) | ((first | refine g6 ?_ | refine g7 ?_); simp only [xr, simprocAttr]; repeat (guard_target =~ _ ∧ _; refine ⟨by first | trivial | (unfold I64; omega) | omega | (simp <;> omega) | (intros; omega), ?_⟩))))
      refine awp_rounds (α := Nat) (fun j => [(46, true, .int j)]) [0, 4, 6, 8, 33, 34, 35, 44, 45] (fun j => [.box [.b (.val (.int .i64 0)), .b (.val (.int .i64 0))]]) (fun j => j ≤ (chs c k).length ∧ ((chs c k).take j).findSome? (solHit m c k rs) = none) (fun j => (chs c k).length - j) 0 (by ((try simp only [xk]); (repeat (refine leK_cons ?_ ?_; first | (focus (first | rfl | (simp only [xr, simprocAttr]; done) | (simp only [xr, simprocAttr]; refine int_eq1 ?_; first | trivial | (unfold I64; omega) | omega | (simp <;> omega) | (intros; omega)))) | rotate_left)); (refine leK_nil ?_; exact (by rfl)); (all_goals (try (simp only [xr, simprocAttr]; try refine int_eq1 ?_))))) ⟨Nat.zero_le _, rfl⟩ fun j ⟨hj, hjn⟩ => ?_
      simp only [xr, simprocAttr]
      (repeat (first | refine g1 ?_ | refine g2 ?_ | ((first | refine g3 ?_ | refine g4 ?_ | refine g5 ?_); try simp only [xq, simprocAttr]) | ((first | refine g6 ?_ | refine g7 ?_); simp only [xr, simprocAttr]; repeat (guard_target =~ _ ∧ _; refine ⟨by first | trivial | (unfold I64; omega) | omega | (simp <;> omega) | (intros; omega), ?_⟩))))
      refine awp_cond (by first | rfl | (simp only [xr, simprocAttr]; rfl)) (fun hf => ?_) (fun hf => ?_)
      · have hf := of_decide_eq_true hf
        have hj' : j < (chs c k).length := by omega
        obtain ⟨cs, hcs⟩ : ∃ cs, (chs c k).getD j [] = cs := ⟨_, rfl⟩
        have hcm : cs ∈ chs c k := by rw [← hcs, getD_inQ hj']; exact List.getElem_mem _
        have hch := chs_ch hq (by omega) hk4 hrm hcm
        have hT := trial_h m c k rs cs hq hch.rq hch.cq hch.k0 hch.k3 hch.triF
        rw [hch.eq] at hT
        rcases hs : solHit m c k rs cs with _ | x
        · rw [hs] at hT
          have hn := fsq_next (d := []) hjn hj' (by rw [hcs]; exact hs)
          (repeat (first | refine g1 ?_ | refine g2 ?_ | ((first | refine g3 ?_ | refine g4 ?_ | refine g5 ?_); try simp only [xq, simprocAttr]) | ((first | refine g6 ?_ | refine g7 ?_); simp only [xr, simprocAttr]; repeat (guard_target =~ _ ∧ _; refine ⟨by first | trivial | (unfold I64; omega) | omega | (simp <;> omega) | (intros; omega), ?_⟩))))
          rw [hrs, hcs]
          (refine .inr (callW_a [] (hT) rfl rfl rfl rfl trivial rfl rfl rfl rfl ?_); (try simp only [xr, simprocAttr]); repeat (guard_target =~ _ ∧ _; refine ⟨by first | trivial | (unfold I64; omega) | omega | (simp <;> omega) | (intros; omega), ?_⟩))
          (repeat (first | refine g1 ?_ | refine g2 ?_ | ((first | refine g3 ?_ | refine g4 ?_ | refine g5 ?_); try simp only [xq, simprocAttr]) | ((first | refine g6 ?_ | refine g7 ?_); simp only [xr, simprocAttr]; repeat (guard_target =~ _ ∧ _; refine ⟨by first | trivial | (unfold I64; omega) | omega | (simp <;> omega) | (intros; omega), ?_⟩))))
          refine awp_cond (by first | rfl | (simp only [xr, simprocAttr]; rfl)) (fun hx => ?_) (fun hx => ?_)
          · cases hx
          (repeat (first | refine g1 ?_ | refine g2 ?_ | ((first | refine g3 ?_ | refine g4 ?_ | refine g5 ?_); try simp only [xq, simprocAttr]) | ((first | refine g6 ?_ | refine g7 ?_); simp only [xr, simprocAttr]; repeat (guard_target =~ _ ∧ _; refine ⟨by first | trivial | (unfold I64; omega) | omega | (simp <;> omega) | (intros; omega), ?_⟩))))
          refine ⟨j + 1, by omega, hn, by omega, .inr ⟨1, Nat.le_of_ble_eq_true rfl, leT_of ?_ rfl rfl rfl⟩⟩
          ((try simp only [xk]); (repeat (refine leK_cons ?_ ?_; first | (focus (first | rfl | (simp only [xr, simprocAttr]; done) | (simp only [xr, simprocAttr]; refine int_eq1 ?_; first | trivial | (unfold I64; omega) | omega | (simp <;> omega) | (intros; omega)))) | rotate_left)); (refine leK_nil ?_; exact (by rfl)); (all_goals (try (simp only [xr, simprocAttr]; try refine int_eq1 ?_))))
        · rw [hs] at hT
          have hr1 : solRow m c k rs = some x := fsq_hit (d := []) hjn hj' (by rw [hcs]; exact hs)
          have hr2 : solMany m c k = some x := fsq_hit (d := []) hin hi' (by rw [hrs]; exact hr1)
          have hr3 : solAll m c = some x := fsq_hit (d := 0) hqn (by rw [manyQ_len]; omega) (by rw [manyQ_at q (by omega), hk]; exact hr2)
          rw [hr3]
          (repeat (first | refine g1 ?_ | refine g2 ?_ | ((first | refine g3 ?_ | refine g4 ?_ | refine g5 ?_); try simp only [xq, simprocAttr]) | ((first | refine g6 ?_ | refine g7 ?_); simp only [xr, simprocAttr]; repeat (guard_target =~ _ ∧ _; refine ⟨by first | trivial | (unfold I64; omega) | omega | (simp <;> omega) | (intros; omega), ?_⟩))))
          rw [hrs, hcs]
          (refine .inr (callW_a [] (hT) rfl rfl rfl rfl trivial rfl rfl rfl rfl ?_); (try simp only [xr, simprocAttr]); repeat (guard_target =~ _ ∧ _; refine ⟨by first | trivial | (unfold I64; omega) | omega | (simp <;> omega) | (intros; omega), ?_⟩))
          (repeat (first | refine g1 ?_ | refine g2 ?_ | ((first | refine g3 ?_ | refine g4 ?_ | refine g5 ?_); try simp only [xq, simprocAttr]) | ((first | refine g6 ?_ | refine g7 ?_); simp only [xr, simprocAttr]; repeat (guard_target =~ _ ∧ _; refine ⟨by first | trivial | (unfold I64; omega) | omega | (simp <;> omega) | (intros; omega), ?_⟩))))
          refine awp_cond (by first | rfl | (simp only [xr, simprocAttr]; rfl)) (fun hx => ?_) (fun hx => ?_)
          · (repeat (first | refine g1 ?_ | refine g2 ?_ | ((first | refine g3 ?_ | refine g4 ?_ | refine g5 ?_); try simp only [xq, simprocAttr]) | ((first | refine g6 ?_ | refine g7 ?_); simp only [xr, simprocAttr]; repeat (guard_target =~ _ ∧ _; refine ⟨by first | trivial | (unfold I64; omega) | omega | (simp <;> omega) | (intros; omega), ?_⟩))))
            ((repeat (first | refine g1 ?_ | refine g2 ?_ | ((first | refine g3 ?_ | refine g4 ?_); try simp only [xq, simprocAttr]))); refine awp_anyM [0] 5 [] (by kernel_rfl) (by kernel_rfl) (by kernel_rfl) (by kernel_rfl) (by kernel_rfl) ?_; simp (maxSteps := 3000000) only [xr, simprocAttr]; repeat (guard_target =~ _ ∧ _; refine ⟨by first | trivial | (unfold I64; omega) | omega | (simp <;> omega) | (intros; omega), ?_⟩))
            (repeat (first | refine g1 ?_ | refine g2 ?_ | ((first | refine g3 ?_ | refine g4 ?_ | refine g5 ?_); try simp only [xq, simprocAttr]) | ((first | refine g6 ?_ | refine g7 ?_); simp only [xr, simprocAttr]; repeat (guard_target =~ _ ∧ _; refine ⟨by first | trivial | (unfold I64; omega) | omega | (simp <;> omega) | (intros; omega), ?_⟩))))
            (simp only [ends_normal, ends_ret]; refine retH_2 (vs := [_, _, _, _]) [1, 2] rfl ⟨rfl, rfl, trivial⟩ rfl rfl rfl rfl ⟨rfl, rfl, ⟨by simp only [xr, simprocAttr] <;> (and_intros <;> first | trivial | (unfold I64; omega) | omega | (simp <;> omega) | (intros; omega)), rfl⟩, rfl, trivial⟩ ?_; try rfl)
            all_goals rfl
          · cases hx
      · have hf := of_decide_eq_false hf
        obtain rfl : j = (chs c k).length := by omega
        have hn := fsq_next (d := []) hin hi' (by rw [hrs]; exact fsq_all hjn)
        (repeat (first | refine g1 ?_ | refine g2 ?_ | ((first | refine g3 ?_ | refine g4 ?_ | refine g5 ?_); try simp only [xq, simprocAttr]) | ((first | refine g6 ?_ | refine g7 ?_); simp only [xr, simprocAttr]; repeat (guard_target =~ _ ∧ _; refine ⟨by first | trivial | (unfold I64; omega) | omega | (simp <;> omega) | (intros; omega), ?_⟩))))
        refine ⟨i + 1, by omega, hn, by omega, .inl ?_⟩
        ((try simp only [xk]); (repeat (refine leK_cons ?_ ?_; first | (focus (first | rfl | (simp only [xr, simprocAttr]; done) | (simp only [xr, simprocAttr]; refine int_eq1 ?_; first | trivial | (unfold I64; omega) | omega | (simp <;> omega) | (intros; omega)))) | rotate_left)); (refine leK_nil ?_; exact (by rfl)); (all_goals (try (simp only [xr, simprocAttr]; try refine int_eq1 ?_))))
    · have he := of_decide_eq_false he
      obtain rfl : i = (chs m.length k).length := by omega
      have hn := fsq_next (d := 0) hqn (by rw [manyQ_len]; omega) (by rw [manyQ_at q (by omega), hk]; exact fsq_all hin)
      (repeat (first | refine g1 ?_ | refine g2 ?_ | ((first | refine g3 ?_ | refine g4 ?_ | refine g5 ?_); try simp only [xq, simprocAttr]) | ((first | refine g6 ?_ | refine g7 ?_); simp only [xr, simprocAttr]; repeat (guard_target =~ _ ∧ _; refine ⟨by first | trivial | (unfold I64; omega) | omega | (simp <;> omega) | (intros; omega), ?_⟩))))
      refine ⟨q + 1, by omega, hn, by omega, .inl ?_⟩
      ((try simp only [xk]); (repeat (refine leK_cons ?_ ?_; first | (focus (first | rfl | (simp only [xr, simprocAttr]; done) | (simp only [xr, simprocAttr]; refine int_eq1 ?_; first | trivial | (unfold I64; omega) | omega | (simp <;> omega) | (intros; omega)))) | rotate_left)); (refine leK_nil ?_; exact (by rfl)); (all_goals (try (simp only [xr, simprocAttr]; try refine int_eq1 ?_))))
  · have hd := of_decide_eq_false hd
    have hn : solAll m c = none := fsq_all (by
      rw [manyQ_len]
      exact many_end (by omega) (by omega) (q := q) (by omega) hqn 3 (by omega) (Nat.le_refl _))
    rw [hn]
    (repeat (first | refine g1 ?_ | refine g2 ?_ | ((first | refine g3 ?_ | refine g4 ?_ | refine g5 ?_); try simp only [xq, simprocAttr]) | ((first | refine g6 ?_ | refine g7 ?_); simp only [xr, simprocAttr]; repeat (guard_target =~ _ ∧ _; refine ⟨by first | trivial | (unfold I64; omega) | omega | (simp <;> omega) | (intros; omega), ?_⟩))))
    (simp only [ends_normal, ends_ret]; refine retH_2 (vs := [_, _, _, _]) [] rfl trivial rfl rfl rfl rfl ⟨rfl, rfl, ⟨by simp only [xr, simprocAttr] <;> (and_intros <;> first | trivial | (unfold I64; omega) | omega | (simp <;> omega) | (intros; omega)), rfl⟩, rfl, trivial⟩ ?_; try rfl)
    all_goals rfl
end Go.Proofs.Ytpihfeganpdjiaa
/- Solved matrices: the contracts that the law wants. Conditions: none. -/
set_option linter.all false
set_option linter.unusedSimpArgs false
set_option linter.unusedVariables false
namespace Go.Proofs.Ytpihfeganpdjiaa
open Go Go.RowKit Am

def smX (m : List (List Int)) : List (List Int) := sX (smR m)
def smY (m : List (List Int)) : List (List Int) := sY (smR m)
def smV (m : List (List Int)) : Int × Int := sV (smR m)
theorem smB_eq (m : List (List Int)) : smB m = (smR m).isSome := by
  unfold smB smR
  cases matB m <;> rfl
theorem smR_good {m : List (List Int)} (h : smB m = true) : smR m = some (smX m, smY m, smV m) := by
  rw [smB_eq] at h
  unfold smX smY smV
  cases hr : smR m with
  | none => rw [hr] at h; cases h
  | some x => rfl
theorem smR_bad {m : List (List Int)} (h : smB m = false) : smR m = none := by
  rw [smB_eq] at h
  cases hr : smR m with
  | none => rfl
  | some x => rw [hr] at h; cases h
theorem sm_of {m : List (List Int)} {x : SolR} (h : smR m = some x) : ∃ k rs cs, m.length ≤ 3 ∧ headLen m ≤ 3 ∧ x = solV m (headLen m) k rs cs := by
  unfold smR at h
  split at h
  · rename_i hm
    have hq := matB_q hm
    obtain ⟨q, _, h1⟩ := List.exists_of_findSome?_eq_some h
    obtain ⟨rs, _, h2⟩ := List.exists_of_findSome?_eq_some h1
    obtain ⟨cs, _, h3⟩ := List.exists_of_findSome?_eq_some h2
    unfold solHit at h3
    split at h3
    · exact ⟨q + 1, rs, cs, hq.l3, hq.c3, (Option.some.inj h3).symm⟩
    · cases h3
  · cases h
theorem smX_ok (m : List (List Int)) : (smX m).length ≤ 3 ∧ ∀ x ∈ smX m, x.length = 2 := by
  unfold smX
  cases hr : smR m with
  | none => exact ⟨Nat.zero_le _, fun x hx => by cases hx⟩
  | some y =>
    obtain ⟨k, rs, cs, h1, h2, rfl⟩ := sm_of hr
    refine ⟨?_, fun x hx => ?_⟩
    · show (List.map _ _).length ≤ 3
      rw [List.length_map, spL_len]
      exact h1
    · obtain ⟨w, _, rfl⟩ := List.mem_map.1 hx
      rfl
theorem smY_ok (m : List (List Int)) : (smY m).length ≤ 3 ∧ ∀ x ∈ smY m, x.length = 2 := by
  unfold smY
  cases hr : smR m with
  | none => exact ⟨Nat.zero_le _, fun x hx => by cases hx⟩
  | some y =>
    obtain ⟨k, rs, cs, h1, h2, rfl⟩ := sm_of hr
    refine ⟨?_, fun x hx => ?_⟩
    · show (List.map _ _).length ≤ 3
      rw [List.length_map, spL_len]
      exact h2
    · obtain ⟨w, _, rfl⟩ := List.mem_map.1 hx
      rfl
theorem spec_SolveMatrix_v (m : List (List Int)) : Does Try.prog 5 [.sl (.ii m)] (.imm (.tup [.one (.b (.sl (.k 2 (if smB m = true then smX m else [])))), .one (.b (.sl (.k 2 (if smB m = true then smY m else [])))), frT (if smB m = true then smV m else (0, 0)), blT (smB m)])) := by
  have h := spec_SolveMatrix_d m
  cases hb : smB m with
  | true => rw [smR_good hb] at h; exact h
  | false => rw [smR_bad hb] at h; exact h
theorem impl_SolveMatrix_g (m : List (List Int)) (hb : smB m = true) : DoesH Try.prog 7 [.sl (.ii m)] [] [] (.tup [.one (.own 0), .one (.own 1), frT (smV m), blT true]) [.row 26 (.k 2 (smX m)), .row 26 (.k 2 (smY m))] := by
  have h := impl_SolveMatrix_h m
  rw [smR_good hb] at h
  exact h
theorem impl_SolveMatrix_0 (m : List (List Int)) (hb : smB m = false) : Does Try.prog 7 [.sl (.ii m)] (.imm (.tup [.one (.b (.val (.slice none 0 0))), .one (.b (.val (.slice none 0 0))), frT (0, 0), blT false])) := by
  have h := impl_SolveMatrix_h m
  rw [smR_bad hb] at h
  exact imm_of h
end Go.Proofs.Ytpihfeganpdjiaa
