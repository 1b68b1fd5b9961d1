/- The marks with the greatest bound, on the machine: the reference's. Conditions: a cache and a sequence that are right. -/
import Derived.Test.YtobhlnaogbadjaaFindI
import Derived.Test.YtobhlnaogbadjaaUseB
import Derived.Test.YtobhlnaogbadjaaPhase
set_option linter.all false
set_option linter.unusedSimpArgs false
set_option linter.unusedVariables false
namespace Go.Proofs.Ytobhlnaogbadjaa
open Go Go.RowKit Am

theorem pow2_int (x : Nat) : (2 : Int) ^ x = ((2 ^ x : Nat) : Int) := by simp
theorem in_bit (s x : Nat) : decide ((((((s : Int) / 2 ^ x).toNat &&& 1 : Nat)) : Int) = 1) = s.testBit x := by
  rw [pow2_int, ← Int.natCast_ediv, Int.toNat_natCast, Nat.and_one_is_mod, Nat.testBit_eq_decide_div_mod_eq]
  by_cases h : s / 2 ^ x % 2 = 1
  · rw [h]; rfl
  · rw [decide_eq_false h, decide_eq_false (by omega)]
theorem pow_le8 {x : Nat} (h : x ≤ 8) : 1 ≤ 2 ^ x ∧ 2 ^ x ≤ 256 := by
  have h1 := Nat.pow_le_pow_right (n := 2) (by decide) h
  have h2 := Nat.two_pow_pos x
  omega
theorem l5In_d (s x : Nat) (hs : s < 256) (hx : x ≤ 62) : Does Try.prog 73 [.int s, .int x] (.imm (.bool (s.testBit x))) := by
  have hd : 0 ≤ (s : Int) / 2 ^ x ∧ (s : Int) / 2 ^ x ≤ 256 := by
    rw [pow2_int, ← Int.natCast_ediv]
    have := Nat.div_le_self s (2 ^ x)
    exact ⟨Int.natCast_nonneg _, by omega⟩
  refine spec_imm Try.func73 rfl Try.ntmps73 cfOK (fun _ _ => by kernel_rfl) rfl (Nat.le_of_ble_eq_true rfl) ?_
  intro M0 w0
  rw [Try.results73]
  (repeat (first | refine g1 ?_ | refine g2 ?_ | ((first | refine g3 ?_ | refine g4 ?_ | refine g5 ?_); try simp only [xq, simprocAttr]) | ((first | refine g6 ?_ | refine g7 ?_); simp only [xr, simprocAttr]; repeat (guard_target =~ _ ∧ _; refine ⟨by first | trivial | (unfold I64; omega) | omega | (simp <;> omega) | (intros; omega), ?_⟩))))
  (simp only [xe, simprocAttr]; refine ⟨_, rfl, rfl, Imp.eq ?_⟩)
  show AV.bool _ = AV.bool _
  congr 1
  exact in_bit s x
theorem l5Begin_d (s x : Nat) (hs : s < 256) (hx : x ≤ 8) : Does Try.prog 45 [.int s, .int x] (.imm (.int (begS s x : Nat))) := by
  have hp := pow_le8 hx
  have hp2 := pow2_int x
  refine spec_imm Try.func45 rfl Try.ntmps45 cfOK (fun _ _ => by kernel_rfl) rfl (Nat.le_of_ble_eq_true rfl) ?_
  intro M0 w0
  rw [Try.results45]
  (repeat (first | refine g1 ?_ | refine g2 ?_ | ((first | refine g3 ?_ | refine g4 ?_ | refine g5 ?_); try simp only [xq, simprocAttr]) | ((first | refine g6 ?_ | refine g7 ?_); simp only [xr, simprocAttr]; repeat (guard_target =~ _ ∧ _; refine ⟨by first | trivial | (unfold I64; omega) | omega | (simp <;> omega) | (intros; omega), ?_⟩))))
  ((try refine Or.inl ?_); refine ⟨_, (l5In_d s x hs (by omega)), .inl rfl, ?_⟩; (try simp only [xr, simprocAttr]); repeat (guard_target =~ _ ∧ _; refine ⟨by first | trivial | (unfold I64; omega) | omega | (simp <;> omega) | (intros; omega), ?_⟩))
  (repeat (first | refine g1 ?_ | refine g2 ?_ | ((first | refine g3 ?_ | refine g4 ?_ | refine g5 ?_); try simp only [xq, simprocAttr]) | ((first | refine g6 ?_ | refine g7 ?_); simp only [xr, simprocAttr]; repeat (guard_target =~ _ ∧ _; refine ⟨by first | trivial | (unfold I64; omega) | omega | (simp <;> omega) | (intros; omega), ?_⟩))))
  refine awp_cond (by first | rfl | (simp only [xr, simprocAttr]; rfl)) (fun hc => ?_) (fun hc => ?_)
  · have hge : 2 ^ x ≤ s := Nat.ge_two_pow_of_testBit hc
    have e : begS s x = s - 2 ^ x := if_pos hc
    (repeat (first | refine g1 ?_ | refine g2 ?_ | ((first | refine g3 ?_ | refine g4 ?_ | refine g5 ?_); try simp only [xq, simprocAttr]) | ((first | refine g6 ?_ | refine g7 ?_); simp only [xr, simprocAttr]; repeat (guard_target =~ _ ∧ _; refine ⟨by first | trivial | (unfold I64; omega) | omega | (simp <;> omega) | (intros; omega), ?_⟩))))
    (simp only [xe, simprocAttr]; refine ⟨_, rfl, rfl, Imp.eq ?_⟩)
    rw [e]
    show AV.int _ = AV.int _
    congr 1
    simp only [pow2_int]
    omega
  · have e : begS s x = s := if_neg (by rw [hc]; decide)
    (repeat (first | refine g1 ?_ | refine g2 ?_ | ((first | refine g3 ?_ | refine g4 ?_ | refine g5 ?_); try simp only [xq, simprocAttr]) | ((first | refine g6 ?_ | refine g7 ?_); simp only [xr, simprocAttr]; repeat (guard_target =~ _ ∧ _; refine ⟨by first | trivial | (unfold I64; omega) | omega | (simp <;> omega) | (intros; omega), ?_⟩))))
    (simp only [xe, simprocAttr]; refine ⟨_, rfl, rfl, Imp.eq ?_⟩)
    rw [e]
set_option maxHeartbeats 2000000 in
theorem l5Mark_d (k : Int) (n : Nat) (xs : List Int) (i m : Nat) (hk0 : 0 ≤ k) (hk6 : k ≤ 6) (hn8 : n ≤ 8) (hn : xs.length ≤ 60) (hi : i < xs.length) (hm : m < 2 ^ n) : Does Try.prog 46 [.int k, .int n, .sl (.ints xs), .int i, .int m] (.imm (.tup [.one (.b (.val (.int .i64 (mkT k xs i m n).1))), .one (.b (.val (.int .i64 (mkT k xs i m n).2)))])) := by
  have hb := gn0_bd hk0 hk6 hn i
  have htl : (xs.take (i + 1)).length ≤ 60 := by rw [List.length_take]; omega
  have hr := rs_short (k := i + 1) hn
  have hpn := pow_le8 hn8
  refine spec_imm Try.func46 rfl Try.ntmps46 cfOK (fun _ _ => by kernel_rfl) rfl (Nat.le_of_ble_eq_true rfl) ?_
  intro M0 w0
  rw [Try.results46]
  (repeat (first | refine g1 ?_ | refine g2 ?_ | ((first | refine g3 ?_ | refine g4 ?_ | refine g5 ?_); try simp only [xq, simprocAttr]) | ((first | refine g6 ?_ | refine g7 ?_); simp only [xr, simprocAttr]; repeat (guard_target =~ _ ∧ _; refine ⟨by first | trivial | (unfold I64; omega) | omega | (simp <;> omega) | (intros; omega), ?_⟩))))
  rw [show ((i : Int) + 1).toNat = i + 1 by omega]
  ((try refine Or.inl ?_); refine ⟨_, (l3Different_d (xs.take (i + 1)) (by omega)), .inr (by and_intros <;> first | rfl | (simp; done)), ?_⟩; (try simp only [xr, simprocAttr]); repeat (guard_target =~ _ ∧ _; refine ⟨by first | trivial | (unfold I64; omega) | omega | (simp <;> omega) | (intros; omega), ?_⟩))
  (repeat (first | refine g1 ?_ | refine g2 ?_ | ((first | refine g3 ?_ | refine g4 ?_ | refine g5 ?_); try simp only [xq, simprocAttr]) | ((first | refine g6 ?_ | refine g7 ?_); simp only [xr, simprocAttr]; repeat (guard_target =~ _ ∧ _; refine ⟨by first | trivial | (unfold I64; omega) | omega | (simp <;> omega) | (intros; omega), ?_⟩))))
  rw [show (((rs (xs.take (i + 1))).length : Int) - k) = gn0 k xs i from rfl]
  refine awp_rounds (α := Nat) (fun t => [(13, true, .int t), (12, true, .int (mkT k xs i m t).1), (4, true, .int (mkT k xs i m t).2)]) [1, 2, 3] (fun _ => []) (fun t => t ≤ n) (fun t => n - t) 0 (by ((try simp only [xk]); (repeat (refine leK_cons ?_ ?_; first | (focus (first | rfl | (simp only [xr, simprocAttr]; done) | (simp only [xr, simprocAttr]; refine int_eq1 ?_; first | trivial | (unfold I64; omega) | omega | (simp <;> omega) | (intros; omega)))) | rotate_left)); (try exact leK_nil rfl); (all_goals (try (simp only [xr, simprocAttr]; try refine int_eq1 ?_))))) (Nat.zero_le _) fun t ht => ?_
  simp only [xr, simprocAttr]
  (repeat (first | refine g1 ?_ | refine g2 ?_ | ((first | refine g3 ?_ | refine g4 ?_ | refine g5 ?_); try simp only [xq, simprocAttr]) | ((first | refine g6 ?_ | refine g7 ?_); simp only [xr, simprocAttr]; repeat (guard_target =~ _ ∧ _; refine ⟨by first | trivial | (unfold I64; omega) | omega | (simp <;> omega) | (intros; omega), ?_⟩))))
  refine awp_cond (by first | rfl | (simp only [xr, simprocAttr]; rfl)) (fun hc => ?_) (fun hc => ?_)
  · have hc := of_decide_eq_true hc
    have ht' : t < n := by omega
    have hml := mkT_lt (k := k) (xs := xs) (i := i) hm (t := t) (by omega)
    have hpt := pow_le8 (x := t) (by omega)
    have hpt2 := pow2_int t
    have hsum : (mkT k xs i m t).1 = gn0 k xs i - sumN (hitX xs i m) t := mkT_gain k xs i m t
    have hsb := sumN_bd (f := hitX xs i m) (lo := 0) (hi := 1) (n := t) fun x _ => by unfold hitX; split <;> omega
    have hud := use_drop (p := (t : Int)) hi
    have hul := use_le (t : Int) hi
    (repeat (first | refine g1 ?_ | refine g2 ?_ | ((first | refine g3 ?_ | refine g4 ?_ | refine g5 ?_); try simp only [xq, simprocAttr]) | ((first | refine g6 ?_ | refine g7 ?_); simp only [xr, simprocAttr]; repeat (guard_target =~ _ ∧ _; refine ⟨by first | trivial | (unfold I64; omega) | omega | (simp <;> omega) | (intros; omega), ?_⟩))))
    ((try refine Or.inl ?_); refine ⟨_, (fun _ => l1Has_d ((xs.take i).drop 0) t), .inl rfl, ?_⟩; (try simp only [xr, simprocAttr]); repeat (guard_target =~ _ ∧ _; refine ⟨by first | trivial | (unfold I64; omega) | omega | (simp <;> omega) | (intros; omega), ?_⟩))
    rw [List.drop_zero]
    (repeat (first | refine g1 ?_ | refine g2 ?_ | ((first | refine g3 ?_ | refine g4 ?_ | refine g5 ?_); try simp only [xq, simprocAttr]) | ((first | refine g6 ?_ | refine g7 ?_); simp only [xr, simprocAttr]; repeat (guard_target =~ _ ∧ _; refine ⟨by first | trivial | (unfold I64; omega) | omega | (simp <;> omega) | (intros; omega), ?_⟩))))
    refine awp_cond (by first | rfl | (simp only [xr, simprocAttr]; rfl)) (fun hd => ?_) (fun hd => ?_)
    · have hd2 : (t : Int) = xs.getD i 0 ∨ (t : Int) ∉ xs.take i := by simpa using hd
      have e : mkT k xs i m (t + 1) = mkT k xs i m t := if_pos hd2
      (repeat (first | refine g1 ?_ | refine g2 ?_ | ((first | refine g3 ?_ | refine g4 ?_ | refine g5 ?_); try simp only [xq, simprocAttr]) | ((first | refine g6 ?_ | refine g7 ?_); simp only [xr, simprocAttr]; repeat (guard_target =~ _ ∧ _; refine ⟨by first | trivial | (unfold I64; omega) | omega | (simp <;> omega) | (intros; omega), ?_⟩))))
      refine ⟨t + 1, by omega, by omega, .inl ?_⟩
      rw [e]
      ((try simp only [xk]); (repeat (refine leK_cons ?_ ?_; first | (focus (first | rfl | (simp only [xr, simprocAttr]; done) | (simp only [xr, simprocAttr]; refine int_eq1 ?_; first | trivial | (unfold I64; omega) | omega | (simp <;> omega) | (intros; omega)))) | rotate_left)); (try exact leK_nil rfl); (all_goals (try (simp only [xr, simprocAttr]; try refine int_eq1 ?_))))
    · have hd2 : ¬ ((t : Int) = xs.getD i 0 ∨ (t : Int) ∉ xs.take i) := by simpa using hd
      (repeat (first | refine g1 ?_ | refine g2 ?_ | ((first | refine g3 ?_ | refine g4 ?_ | refine g5 ?_); try simp only [xq, simprocAttr]) | ((first | refine g6 ?_ | refine g7 ?_); simp only [xr, simprocAttr]; repeat (guard_target =~ _ ∧ _; refine ⟨by first | trivial | (unfold I64; omega) | omega | (simp <;> omega) | (intros; omega), ?_⟩))))
      ((try refine Or.inl ?_); refine ⟨_, (l5Use_d xs i (t : Int) hi), .inl rfl, ?_⟩; (try simp only [xr, simprocAttr]); repeat (guard_target =~ _ ∧ _; refine ⟨by first | trivial | (unfold I64; omega) | omega | (simp <;> omega) | (intros; omega), ?_⟩))
      (repeat (first | refine g1 ?_ | refine g2 ?_ | ((first | refine g3 ?_ | refine g4 ?_ | refine g5 ?_); try simp only [xq, simprocAttr]) | ((first | refine g6 ?_ | refine g7 ?_); simp only [xr, simprocAttr]; repeat (guard_target =~ _ ∧ _; refine ⟨by first | trivial | (unfold I64; omega) | omega | (simp <;> omega) | (intros; omega), ?_⟩))))
      ((try refine Or.inl ?_); refine ⟨_, (fun _ => l5In_d (mkT k xs i m t).2 t (by omega) (by omega)), .inl rfl, ?_⟩; (try simp only [xr, simprocAttr]); repeat (guard_target =~ _ ∧ _; refine ⟨by first | trivial | (unfold I64; omega) | omega | (simp <;> omega) | (intros; omega), ?_⟩))
      (repeat (first | refine g1 ?_ | refine g2 ?_ | ((first | refine g3 ?_ | refine g4 ?_ | refine g5 ?_); try simp only [xq, simprocAttr]) | ((first | refine g6 ?_ | refine g7 ?_); simp only [xr, simprocAttr]; repeat (guard_target =~ _ ∧ _; refine ⟨by first | trivial | (unfold I64; omega) | omega | (simp <;> omega) | (intros; omega), ?_⟩))))
      refine awp_cond (by first | rfl | (simp only [xr, simprocAttr]; rfl)) (fun he => ?_) (fun he => ?_)
      · have he2 : (t : Int) ∉ xs.drop (i + 1) ∨ (mkT k xs i m t).2.testBit t = true := by
          rw [hud]
          by_cases h1 : useP xs i (t : Int) = xs.length
          · exact .inl (by omega)
          · refine .inr ?_
            rw [decide_eq_false (show ¬ ((useP xs i (t : Int) : Nat) : Int) = xs.length by omega)] at he
            simpa using he
        have e : mkT k xs i m (t + 1) = ((mkT k xs i m t).1 - 1, (mkT k xs i m t).2) := (if_neg hd2).trans (if_pos he2)
        (repeat (first | refine g1 ?_ | refine g2 ?_ | ((first | refine g3 ?_ | refine g4 ?_ | refine g5 ?_); try simp only [xq, simprocAttr]) | ((first | refine g6 ?_ | refine g7 ?_); simp only [xr, simprocAttr]; repeat (guard_target =~ _ ∧ _; refine ⟨by first | trivial | (unfold I64; omega) | omega | (simp <;> omega) | (intros; omega), ?_⟩))))
        refine ⟨t + 1, by omega, by omega, .inl ?_⟩
        rw [e]
        ((try simp only [xk]); (repeat (refine leK_cons ?_ ?_; first | (focus (first | rfl | (simp only [xr, simprocAttr]; done) | (simp only [xr, simprocAttr]; refine int_eq1 ?_; first | trivial | (unfold I64; omega) | omega | (simp <;> omega) | (intros; omega)))) | rotate_left)); (try exact leK_nil rfl); (all_goals (try (simp only [xr, simprocAttr]; try refine int_eq1 ?_))))
      · have he2 : ¬ ((t : Int) ∉ xs.drop (i + 1) ∨ (mkT k xs i m t).2.testBit t = true) := by
          rw [hud]
          by_cases h1 : useP xs i (t : Int) = xs.length
          · rw [decide_eq_true (show ((useP xs i (t : Int) : Nat) : Int) = xs.length by omega)] at he
            simp at he
          · rw [decide_eq_false (show ¬ ((useP xs i (t : Int) : Nat) : Int) = xs.length by omega)] at he
            have h2 : (mkT k xs i m t).2.testBit t = false := by simpa using he
            rw [h2]
            intro h3
            rcases h3 with h3 | h3
            · omega
            · cases h3
        have e : mkT k xs i m (t + 1) = ((mkT k xs i m t).1, (mkT k xs i m t).2 ||| 2 ^ t) := (if_neg hd2).trans (if_neg he2)
        (repeat (first | refine g1 ?_ | refine g2 ?_ | ((first | refine g3 ?_ | refine g4 ?_ | refine g5 ?_); try simp only [xq, simprocAttr]) | ((first | refine g6 ?_ | refine g7 ?_); simp only [xr, simprocAttr]; repeat (guard_target =~ _ ∧ _; refine ⟨by first | trivial | (unfold I64; omega) | omega | (simp <;> omega) | (intros; omega), ?_⟩))))
        refine ⟨t + 1, by omega, by omega, .inl ?_⟩
        rw [e]
        ((try simp only [xk]); (repeat (refine leK_cons ?_ ?_; first | (focus (first | rfl | (simp only [xr, simprocAttr]; done) | (simp only [xr, simprocAttr]; refine int_eq1 ?_; first | trivial | (unfold I64; omega) | omega | (simp <;> omega) | (intros; omega)))) | rotate_left)); (try exact leK_nil rfl); (all_goals (try (simp only [xr, simprocAttr]; try refine int_eq1 ?_))))
        all_goals (rw [Int.one_mul, hpt2, Int.toNat_natCast])
  · have hc := of_decide_eq_false hc
    obtain rfl : t = n := by omega
    (repeat (first | refine g1 ?_ | refine g2 ?_ | ((first | refine g3 ?_ | refine g4 ?_ | refine g5 ?_); try simp only [xq, simprocAttr]) | ((first | refine g6 ?_ | refine g7 ?_); simp only [xr, simprocAttr]; repeat (guard_target =~ _ ∧ _; refine ⟨by first | trivial | (unfold I64; omega) | omega | (simp <;> omega) | (intros; omega), ?_⟩))))
    (simp only [xe, simprocAttr]; refine ⟨[_, _], ⟨rfl, rfl, trivial⟩, rfl, Imp.eq ?_⟩)
    rfl
end Go.Proofs.Ytobhlnaogbadjaa
