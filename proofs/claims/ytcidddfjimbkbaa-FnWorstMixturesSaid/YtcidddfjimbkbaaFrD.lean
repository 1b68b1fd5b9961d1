/- Fractions and powers, on the machine. Conditions: numbers that are small. -/
import Derived.Test.YtcidddfjimbkbaaCost
import Derived.Test.YtcidddfjimbkbaaOB
set_option linter.all false
set_option linter.unusedSimpArgs false
set_option linter.unusedVariables false
namespace Go.Proofs.Ytcidddfjimbkbaa
open Go Go.RowKit Am

/-- a function known by its calls, whose value is r wherever -/
theorem does_imm {P : Program} {f : Nat} {args : List AV} {v : Value} {r : AV} (hent : ∀ (av : Array Value) (W : World), (callFunc f av).run P W = .ok (.enter f av) W) (hr : ∀ M : Am.Mem, r.rel noφ M v)
    (h : ∀ (M : Am.Mem) (w : World) (us : List Value), Mem.in_ M w → ArgsRel M args us → Calls P f us.toArray w fun e w' => e = .returned v ∧ Below w.heap.size w w') : Does P f args (.imm r) := by
  refine ⟨hent, fun M w us hm ha => (h M w us hm ha).mono fun e w' ⟨h1, h2⟩ => ⟨v, M, h1, Am.Mem.le_refl _, fun ad u hu => ⟨?_, .inl hu⟩, hr M, h2⟩⟩
  have h3 := hm ad u hu
  exact (h2.cell (block_lt h3)).trans h3
abbrev frT (a : Int × Int) : TV := .agg [.b (.val (.int .i64 a.1)), .b (.val (.int .i64 a.2))]
abbrev blT (b : Bool) : TV := .one (.b (.val (.bool b)))
theorem frb_rel {M : Am.Mem} (a : Int × Int) (b : Bool) : (AV.tup [frT a, blT b]).rel noφ M (.tuple #[frV a, .bool b]) :=
  ⟨[frV a, .bool b], rfl, rfl, fun j hj hj' => by
    match j with
    | 0 => exact two_ls (M := M) (φ := noφ) rfl rfl
    | 1 => exact rfl
    | j + 2 => exact absurd hj (by simp)⟩
theorem makeFrac_d (n d : Int) (hd : 1 ≤ d) (hd2 : d ≤ 9223372036854775807) (h1 : -9223372036854775807 ≤ n) (h2 : n ≤ 9223372036854775807) : Does Try.prog 35 [.int n, .int d] (.imm (.tup [frT (mkFr n d), blT (mkOk n d)])) :=
  does_imm (v := .tuple #[frV (mkFr n d), .bool (mkOk n d)]) (fun _ _ => by kernel_rfl) (fun M => frb_rel _ _) fun M w us hm ha => by
    obtain ⟨u, us', rfl, k1, k2⟩ := args_inv ha
    obtain ⟨u', us'', rfl, k3, k4⟩ := args_inv k2
    obtain rfl := args_inv0 k4
    obtain rfl : u = .int .i64 n := k1
    obtain rfl : u' = .int .i64 d := k3
    exact makeFrac_any w n d hd hd2 h1 h2
theorem l2Make_d (n d : Int) (hd : 1 ≤ d) (hd2 : d ≤ 9223372036854775807) (h1 : -9223372036854775807 ≤ n) (h2 : n ≤ 9223372036854775807) : Does Try.prog 43 [.int n, .int d] (.imm (.tup [frT (mkFr n d), blT (mkOk n d)])) :=
  does_imm (v := .tuple #[frV (mkFr n d), .bool (mkOk n d)]) (fun _ _ => by kernel_rfl) (fun M => frb_rel _ _) fun M w us hm ha => by
    obtain ⟨u, us', rfl, k1, k2⟩ := args_inv ha
    obtain ⟨u', us'', rfl, k3, k4⟩ := args_inv k2
    obtain rfl := args_inv0 k4
    obtain rfl : u = .int .i64 n := k1
    obtain rfl : u' = .int .i64 d := k3
    exact l2Make_any w n d hd hd2 h1 h2
theorem l11Power_d (b : Int) (n : Nat) (hb : 1 ≤ b) (hb2 : b ≤ 1000) (hn : n ≤ 3) : Does Try.prog 40 [.int b, .int n] (.imm (.int (b ^ n))) := by
  refine spec_imm Try.func40 rfl Try.ntmps40 cfOK (fun _ _ => by kernel_rfl) rfl (Nat.le_of_ble_eq_true rfl) ?_
  intro M0 w0
  rw [Try.results40]
  have hp : ∀ k, k ≤ 3 → 1 ≤ b ^ k ∧ b ^ k ≤ 1000000000 := fun k hk => by
    have h1 : ∀ k, 1 ≤ b ^ k ∧ b ^ k ≤ 1000 ^ k := fun k => by
      induction k with
      | zero => simp
      | succ k ih =>
        rw [Int.pow_succ, Int.pow_succ]
        refine ⟨?_, Int.mul_le_mul ih.2 hb2 (by omega) (Int.pow_nonneg (by omega))⟩
        have := Int.mul_le_mul ih.1 hb (by omega) (by omega)
        omega
    have := h1 k
    match k, hk with
    | 0, _ => omega
    | 1, _ => omega
    | 2, _ => omega
    | 3, _ => omega
  (repeat (first | refine g1 ?_ | refine g2 ?_ | ((first | refine g3 ?_ | refine g4 ?_ | refine g5 ?_); try simp only [xq, simprocAttr]) | ((first | refine g6 ?_ | refine g7 ?_); simp only [xr, simprocAttr]; repeat (guard_target =~ _ ∧ _; refine ⟨by first | trivial | (unfold I64; omega) | omega | (simp <;> omega) | (intros; omega), ?_⟩))))
  refine awp_rounds (α := Nat) (fun k => [(5, true, .int (b ^ k)), (6, true, .int k)]) [0, 1] (fun _ => []) (fun k => k ≤ n) (fun k => n - k) 0 (by ((try simp only [xk]); (repeat (refine leK_cons ?_ ?_; first | (focus (first | rfl | (simp only [xr, simprocAttr]; done) | (simp only [xr, simprocAttr]; refine int_eq1 ?_; first | trivial | (unfold I64; omega) | omega | (simp <;> omega) | (intros; omega)))) | rotate_left)); (try exact leK_nil rfl); (all_goals (try (simp only [xr, simprocAttr]; try refine int_eq1 ?_))))) (Nat.zero_le _) fun k hk => ?_
  simp only [xr, simprocAttr]
  (repeat (first | refine g1 ?_ | refine g2 ?_ | ((first | refine g3 ?_ | refine g4 ?_ | refine g5 ?_); try simp only [xq, simprocAttr]) | ((first | refine g6 ?_ | refine g7 ?_); simp only [xr, simprocAttr]; repeat (guard_target =~ _ ∧ _; refine ⟨by first | trivial | (unfold I64; omega) | omega | (simp <;> omega) | (intros; omega), ?_⟩))))
  refine awp_cond (by first | rfl | (simp only [xr, simprocAttr]; rfl)) (fun hc => ?_) (fun hc => ?_)
  · have hk' : k < n := by have hc := of_decide_eq_true hc; omega
    have h1 := hp (k + 1) (by omega)
    rw [Int.pow_succ] at h1
    (repeat (first | refine g1 ?_ | refine g2 ?_ | ((first | refine g3 ?_ | refine g4 ?_ | refine g5 ?_); try simp only [xq, simprocAttr]) | ((first | refine g6 ?_ | refine g7 ?_); simp only [xr, simprocAttr]; repeat (guard_target =~ _ ∧ _; refine ⟨by first | trivial | (unfold I64; omega) | omega | (simp <;> omega) | (intros; omega), ?_⟩))))
    refine ⟨k + 1, by omega, by omega, .inl ?_⟩
    ((try simp only [xk]); (repeat (refine leK_cons ?_ ?_; first | (focus (first | rfl | (simp only [xr, simprocAttr]; done) | (simp only [xr, simprocAttr]; refine int_eq1 ?_; first | trivial | (unfold I64; omega) | omega | (simp <;> omega) | (intros; omega)))) | rotate_left)); (try exact leK_nil rfl); (all_goals (try (simp only [xr, simprocAttr]; try refine int_eq1 ?_))))
    exact (Int.pow_succ ..).symm
  · have hk' : k = n := by have hc := of_decide_eq_false hc; omega
    subst hk'
    (repeat (first | refine g1 ?_ | refine g2 ?_ | ((first | refine g3 ?_ | refine g4 ?_ | refine g5 ?_); try simp only [xq, simprocAttr]) | ((first | refine g6 ?_ | refine g7 ?_); simp only [xr, simprocAttr]; repeat (guard_target =~ _ ∧ _; refine ⟨by first | trivial | (unfold I64; omega) | omega | (simp <;> omega) | (intros; omega), ?_⟩))))
    (simp only [xe, simprocAttr]; refine ⟨_, rfl, rfl, Imp.eq ?_⟩)
    rfl
end Go.Proofs.Ytcidddfjimbkbaa
