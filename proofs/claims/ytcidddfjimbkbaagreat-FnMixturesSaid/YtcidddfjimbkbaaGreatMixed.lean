/- The costs of mixtures, on the machine. Conditions: problems, mixtures and sequences that are right. -/
import Derived.Test.YtcidddfjimbkbaaGreatRun
import Derived.Test.YtcidddfjimbkbaaGreatMixS
set_option linter.all false
set_option linter.unusedSimpArgs false
set_option linter.unusedVariables false
namespace Go.Proofs.YtcidddfjimbkbaaGreat
open Go Go.RowKit Am

structure MixOK (m s : List (List Int)) (ws : List Int) (ns : List (List (List Int))) : Prop where
  lo : 1 ≤ ns.length
  hi : ns.length ≤ 4
  len : ws.length = ns.length
  w : ∀ i, i < ns.length → 1 ≤ ws.getD i 0 ∧ ws.getD i 0 ≤ 9
  ws : ∀ w ∈ ws, 1 ≤ w ∧ w ≤ 9
  alg : ∀ i, i < ns.length → algB m s (ns.getD i []) = true
theorem mix_ok {m s : List (List Int)} {ws : List Int} {ns : List (List (List Int))} (h : mixB m s ws ns 4 = true) : MixOK m s ws ns := by
  unfold mixB at h
  simp only [Bool.and_eq_true, beq_iff_eq, List.all_eq_true] at h
  obtain ⟨⟨⟨h1, h2⟩, h3⟩, h4⟩ := h
  have h1 := rng_iff.1 h1
  have h3 := allIn_iff.1 h3
  refine ⟨by omega, by omega, h2, fun i hi => ?_, h3, fun i hi => ?_⟩
  · have hi' : i < ws.length := by omega
    rw [getD_in hi']
    exact h3 _ (List.getElem_mem hi')
  · rw [getD_in hi]
    exact h4 _ (List.getElem_mem hi)
theorem MixOK.sum {m s : List (List Int)} {ws : List Int} {ns : List (List (List Int))} (h : MixOK m s ws ns) : 1 ≤ ws.sum ∧ ws.sum ≤ 36 := by
  have h1 := sum_bounds (xs := ws) (B := 9) fun w hw => by have := h.ws w hw; omega
  have h2 := h.hi
  have h3 := h.len
  refine ⟨?_, by omega⟩
  match ws, h.len, h.ws, h.lo with
  | [], e, _, lo => simp at e; omega
  | w :: ws, _, hw, _ =>
    have h4 := hw w (by simp)
    have h5 := sum_bounds (xs := ws) (B := 9) fun w hw' => by have := hw w (by simp [hw']); omega
    simp only [List.sum_cons]
    omega
theorem MixOK.fits {m s : List (List Int)} {ws : List Int} {ns : List (List (List Int))} (h : MixOK m s ws ns) : SumFits ws := sumFits_of (B := 9) (fun w hw => by have := h.ws w hw; omega) (by have := h.hi; have := h.len; omega) (by omega)
theorem mixedS_bd {m s : List (List Int)} {ws : List Int} {ns : List (List (List Int))} {x : Nat} {rs : List Int} (h : MixOK m s ws ns) (hp : probB m s = true) (hx : x < m.length) (hq : reqsB s.length rs) (hl : rs.length ≤ 60) : ∀ k, k ≤ ns.length → 0 ≤ mixedS m s ws ns x rs k ∧ mixedS m s ws ns x rs k ≤ 100000 * k
  | 0, _ => ⟨Int.le_refl _, Int.le_refl _⟩
  | k + 1, hk => by
    have ih := mixedS_bd h hp hx hq hl k (by omega)
    have h1 := h.w k (by omega)
    have h2 := costS_bd hp (h.alg k (by omega)) rs x hx hq
    have h3 : 0 ≤ ws.getD k 0 * costS m s (ns.getD k []) x rs := Int.mul_nonneg (by omega) h2.1
    have h4 : ws.getD k 0 * costS m s (ns.getD k []) x rs ≤ 9 * (119 * rs.length) := Int.mul_le_mul h1.2 h2.2 h2.1 (by omega)
    unfold mixedS at ih ⊢
    simp only [sumTo]
    omega
theorem mix_step {m s : List (List Int)} {ws : List Int} {ns : List (List (List Int))} {x : Nat} {rs : List Int} (h : MixOK m s ws ns) (hp : probB m s = true) (hx : x < m.length) (hq : reqsB s.length rs) (hl : rs.length ≤ 60) {k : Nat} (hk : k < ns.length) :
    mixedS m s ws ns x rs (k + 1) = mixedS m s ws ns x rs k + ws.getD k 0 * costS m s (ns.getD k []) x rs ∧ 0 ≤ ws.getD k 0 * costS m s (ns.getD k []) x rs ∧ ws.getD k 0 * costS m s (ns.getD k []) x rs ≤ 1000000 ∧ 0 ≤ mixedS m s ws ns x rs k ∧ mixedS m s ws ns x rs k ≤ 1000000 := by
  have h0 := h.hi
  have h1 := h.w k (by omega)
  have h2 := costS_bd hp (h.alg k (by omega)) rs x hx hq
  have h3 : 0 ≤ ws.getD k 0 * costS m s (ns.getD k []) x rs := Int.mul_nonneg (by omega) h2.1
  have h4 : ws.getD k 0 * costS m s (ns.getD k []) x rs ≤ 9 * (119 * rs.length) := Int.mul_le_mul h1.2 h2.2 h2.1 (by omega)
  have h5 := mixedS_bd h hp hx hq hl k (by omega)
  exact ⟨rfl, h3, by omega, h5.1, by omega⟩
theorem mixed_d (m s : List (List Int)) (ws : List Int) (ns : List (List (List Int))) (x : Nat) (rs : List Int) (h : MixOK m s ws ns) (hp : probB m s = true) (hx : x < m.length) (hq : reqsB s.length rs) (hl : rs.length ≤ 60) :
    Does Tryz.prog 45 [prA m s, mixA ws ns, .int x, .sl (.ints rs)] (.imm (.int (mixedS m s ws ns x rs ns.length))) := by
  refine spec_imm Tryz.func45 rfl Tryz.ntmps45 cfOK (fun _ _ => by kernel_rfl) rfl (Nat.le_of_ble_eq_true rfl) ?_
  intro M0 w0
  rw [Tryz.results45]
  have hlen := h.len
  have hhi := h.hi
  (repeat (first | refine g1 ?_ | refine g2 ?_ | ((first | refine g3 ?_ | refine g4 ?_ | refine g5 ?_); try simp only [xq, simprocAttr]) | ((first | refine g6 ?_ | refine g7 ?_); simp only [xr, simprocAttr]; repeat (guard_target =~ _ ∧ _; refine ⟨by first | trivial | (unfold I64; omega) | omega | (simp <;> omega) | (intros; omega), ?_⟩))))
  refine awp_rounds (α := Nat) (fun k => [(17, true, .int k), (9, true, .int (mixedS m s ws ns x rs k))]) [2, 3, 4, 5, 15, 16] (fun _ => [.box [.b (.sl (.ii m)), .b (.sl (.ii s))], .box [.b (.sl (.ints ws)), .b (.sl (.iii ns))]]) (fun k => k ≤ ns.length) (fun k => ns.length - k) 0 (by ((try simp only [xk]); (repeat (refine leK_cons ?_ ?_; first | (focus (first | rfl | (simp only [xr, simprocAttr]; done) | (simp only [xr, simprocAttr]; refine int_eq1 ?_; first | trivial | (unfold I64; omega) | omega | (simp <;> omega) | (intros; omega)))) | rotate_left)); (try exact leK_nil rfl); (all_goals (try (simp only [xr, simprocAttr]; try refine int_eq1 ?_))))) (Nat.zero_le _) fun k hk => ?_
  simp only [xr, simprocAttr]
  (repeat (first | refine g1 ?_ | refine g2 ?_ | ((first | refine g3 ?_ | refine g4 ?_ | refine g5 ?_); try simp only [xq, simprocAttr]) | ((first | refine g6 ?_ | refine g7 ?_); simp only [xr, simprocAttr]; repeat (guard_target =~ _ ∧ _; refine ⟨by first | trivial | (unfold I64; omega) | omega | (simp <;> omega) | (intros; omega), ?_⟩))))
  refine awp_cond (by first | rfl | (simp only [xr, simprocAttr]; rfl)) (fun hc => ?_) (fun hc => ?_)
  · have hk' : k < ns.length := by have hc := of_decide_eq_true hc; omega
    obtain ⟨e1, e2, e3, e4, e5⟩ := mix_step h hp hx hq hl hk'
    (repeat (first | refine g1 ?_ | refine g2 ?_ | ((first | refine g3 ?_ | refine g4 ?_ | refine g5 ?_); try simp only [xq, simprocAttr]) | ((first | refine g6 ?_ | refine g7 ?_); simp only [xr, simprocAttr]; repeat (guard_target =~ _ ∧ _; refine ⟨by first | trivial | (unfold I64; omega) | omega | (simp <;> omega) | (intros; omega), ?_⟩))))
    ((try refine Or.inl ?_); refine ⟨_, (ran_d m s _ x rs hp (h.alg k hk') hx hq (by omega)), .inr (by and_intros <;> first | rfl | (simp; done)), ?_⟩; (try simp only [xr, simprocAttr]); repeat (guard_target =~ _ ∧ _; refine ⟨by first | trivial | (unfold I64; omega) | omega | (simp <;> omega) | (intros; omega), ?_⟩))
    (repeat (first | refine g1 ?_ | refine g2 ?_ | ((first | refine g3 ?_ | refine g4 ?_ | refine g5 ?_); try simp only [xq, simprocAttr]) | ((first | refine g6 ?_ | refine g7 ?_); simp only [xr, simprocAttr]; repeat (guard_target =~ _ ∧ _; refine ⟨by first | trivial | (unfold I64; omega) | omega | (simp <;> omega) | (intros; omega), ?_⟩))))
    refine ⟨k + 1, by omega, by omega, .inl ?_⟩
    ((try simp only [xk]); (repeat (refine leK_cons ?_ ?_; first | (focus (first | rfl | (simp only [xr, simprocAttr]; done) | (simp only [xr, simprocAttr]; refine int_eq1 ?_; first | trivial | (unfold I64; omega) | omega | (simp <;> omega) | (intros; omega)))) | rotate_left)); (try exact leK_nil rfl); (all_goals (try (simp only [xr, simprocAttr]; try refine int_eq1 ?_))))
  · have hk' : k = ns.length := by have hc := of_decide_eq_false hc; omega
    subst hk'
    (repeat (first | refine g1 ?_ | refine g2 ?_ | ((first | refine g3 ?_ | refine g4 ?_ | refine g5 ?_); try simp only [xq, simprocAttr]) | ((first | refine g6 ?_ | refine g7 ?_); simp only [xr, simprocAttr]; repeat (guard_target =~ _ ∧ _; refine ⟨by first | trivial | (unfold I64; omega) | omega | (simp <;> omega) | (intros; omega), ?_⟩))))
    (simp only [xe, simprocAttr]; refine ⟨_, rfl, rfl, Imp.eq ?_⟩)
    rfl
theorem l11Mean_d (m s : List (List Int)) (ws : List Int) (ns : List (List (List Int))) (x : Nat) (rs : List Int) (h : MixOK m s ws ns) (hp : probB m s = true) (hx : x < m.length) (hq : reqsB s.length rs) (hl : rs.length ≤ 60) :
    Does Tryz.prog 48 [prA m s, mixA ws ns, .int x, .sl (.ints rs)] (.imm (.tup [.one (.b (.val (.int .i64 (mixedS m s ws ns x rs ns.length)))), .one (.b (.val (.int .i64 ws.sum)))])) := by
  refine spec_imm Tryz.func48 rfl Tryz.ntmps48 cfOK (fun _ _ => by kernel_rfl) rfl (Nat.le_of_ble_eq_true rfl) ?_
  intro M0 w0
  rw [Tryz.results48]
  have hlen := h.len
  have hhi := h.hi
  (repeat (first | refine g1 ?_ | refine g2 ?_ | ((first | refine g3 ?_ | refine g4 ?_ | refine g5 ?_); try simp only [xq, simprocAttr]) | ((first | refine g6 ?_ | refine g7 ?_); simp only [xr, simprocAttr]; repeat (guard_target =~ _ ∧ _; refine ⟨by first | trivial | (unfold I64; omega) | omega | (simp <;> omega) | (intros; omega), ?_⟩))))
  refine awp_rounds (α := Nat) (fun k => [(11, true, .int k), (10, true, .int (mixedS m s ws ns x rs k))]) [2, 3, 4, 5] (fun _ => [.box [.b (.sl (.ii m)), .b (.sl (.ii s))], .box [.b (.sl (.ints ws)), .b (.sl (.iii ns))]]) (fun k => k ≤ ns.length) (fun k => ns.length - k) 0 (by ((try simp only [xk]); (repeat (refine leK_cons ?_ ?_; first | (focus (first | rfl | (simp only [xr, simprocAttr]; done) | (simp only [xr, simprocAttr]; refine int_eq1 ?_; first | trivial | (unfold I64; omega) | omega | (simp <;> omega) | (intros; omega)))) | rotate_left)); (try exact leK_nil rfl); (all_goals (try (simp only [xr, simprocAttr]; try refine int_eq1 ?_))))) (Nat.zero_le _) fun k hk => ?_
  simp only [xr, simprocAttr]
  (repeat (first | refine g1 ?_ | refine g2 ?_ | ((first | refine g3 ?_ | refine g4 ?_ | refine g5 ?_); try simp only [xq, simprocAttr]) | ((first | refine g6 ?_ | refine g7 ?_); simp only [xr, simprocAttr]; repeat (guard_target =~ _ ∧ _; refine ⟨by first | trivial | (unfold I64; omega) | omega | (simp <;> omega) | (intros; omega), ?_⟩))))
  refine awp_cond (by first | rfl | (simp only [xr, simprocAttr]; rfl)) (fun hc => ?_) (fun hc => ?_)
  · have hk' : k < ns.length := by have hc := of_decide_eq_true hc; omega
    obtain ⟨e1, e2, e3, e4, e5⟩ := mix_step h hp hx hq hl hk'
    (repeat (first | refine g1 ?_ | refine g2 ?_ | ((first | refine g3 ?_ | refine g4 ?_ | refine g5 ?_); try simp only [xq, simprocAttr]) | ((first | refine g6 ?_ | refine g7 ?_); simp only [xr, simprocAttr]; repeat (guard_target =~ _ ∧ _; refine ⟨by first | trivial | (unfold I64; omega) | omega | (simp <;> omega) | (intros; omega), ?_⟩))))
    ((try refine Or.inl ?_); refine ⟨_, (l8Cost_d m s _ x rs hp (h.alg k hk') hx hq (by omega)), .inl rfl, ?_⟩; (try simp only [xr, simprocAttr]); repeat (guard_target =~ _ ∧ _; refine ⟨by first | trivial | (unfold I64; omega) | omega | (simp <;> omega) | (intros; omega), ?_⟩))
    (repeat (first | refine g1 ?_ | refine g2 ?_ | ((first | refine g3 ?_ | refine g4 ?_ | refine g5 ?_); try simp only [xq, simprocAttr]) | ((first | refine g6 ?_ | refine g7 ?_); simp only [xr, simprocAttr]; repeat (guard_target =~ _ ∧ _; refine ⟨by first | trivial | (unfold I64; omega) | omega | (simp <;> omega) | (intros; omega), ?_⟩))))
    refine ⟨k + 1, by omega, by omega, .inl ?_⟩
    ((try simp only [xk]); (repeat (refine leK_cons ?_ ?_; first | (focus (first | rfl | (simp only [xr, simprocAttr]; done) | (simp only [xr, simprocAttr]; refine int_eq1 ?_; first | trivial | (unfold I64; omega) | omega | (simp <;> omega) | (intros; omega)))) | rotate_left)); (try exact leK_nil rfl); (all_goals (try (simp only [xr, simprocAttr]; try refine int_eq1 ?_))))
  · have hk' : k = ns.length := by have hc := of_decide_eq_false hc; omega
    subst hk'
    (repeat (first | refine g1 ?_ | refine g2 ?_ | ((first | refine g3 ?_ | refine g4 ?_ | refine g5 ?_); try simp only [xq, simprocAttr]) | ((first | refine g6 ?_ | refine g7 ?_); simp only [xr, simprocAttr]; repeat (guard_target =~ _ ∧ _; refine ⟨by first | trivial | (unfold I64; omega) | omega | (simp <;> omega) | (intros; omega), ?_⟩))))
    ((try refine Or.inl ?_); refine ⟨_, (l11Sum_d ws h.fits), .inl rfl, ?_⟩; (try simp only [xr, simprocAttr]); repeat (guard_target =~ _ ∧ _; refine ⟨by first | trivial | (unfold I64; omega) | omega | (simp <;> omega) | (intros; omega), ?_⟩))
    (repeat (first | refine g1 ?_ | refine g2 ?_ | ((first | refine g3 ?_ | refine g4 ?_ | refine g5 ?_); try simp only [xq, simprocAttr]) | ((first | refine g6 ?_ | refine g7 ?_); simp only [xr, simprocAttr]; repeat (guard_target =~ _ ∧ _; refine ⟨by first | trivial | (unfold I64; omega) | omega | (simp <;> omega) | (intros; omega), ?_⟩))))
    (simp only [xe, simprocAttr]; refine ⟨[_, _], ⟨rfl, rfl, trivial⟩, rfl, Imp.eq ?_⟩)
    rfl
/-- a fraction and whether it is one, if c; else nothing -/
abbrev frIf (c : Bool) (n d : Int) : AV := .tup [frT (if c then mkFr n d else (0, 0)), blT (c && mkOk n d)]
def mixCostN (m s : List (List Int)) (ws : List Int) (ns : List (List (List Int))) (x : Int) (rs : List Int) : Int := mixedS m s ws ns x.toNat rs ns.length
theorem impl_MixtureCost_d (m s : List (List Int)) (ws : List Int) (ns : List (List (List Int))) (x : Int) (rs : List Int) :
    Does Tryz.prog 11 [prA m s, mixA ws ns, .int x, .sl (.ints rs)] (.imm (frIf (takesB m s x rs && mixB m s ws ns 4) (mixCostN m s ws ns x rs) ws.sum)) := by
  refine spec_imm Tryz.func11 rfl Tryz.ntmps11 cfOK (fun _ _ => by kernel_rfl) rfl (Nat.le_of_ble_eq_true rfl) ?_
  intro M0 w0
  rw [Tryz.results11]
  (repeat (first | refine g1 ?_ | refine g2 ?_ | ((first | refine g3 ?_ | refine g4 ?_ | refine g5 ?_); try simp only [xq, simprocAttr]) | ((first | refine g6 ?_ | refine g7 ?_); simp only [xr, simprocAttr]; repeat (guard_target =~ _ ∧ _; refine ⟨by first | trivial | (unfold I64; omega) | omega | (simp <;> omega) | (intros; omega), ?_⟩))))
  ((try refine Or.inl ?_); refine ⟨_, (isStarted_d _ _ _ _), .inl rfl, ?_⟩; (try simp only [xr, simprocAttr]); repeat (guard_target =~ _ ∧ _; refine ⟨by first | trivial | (unfold I64; omega) | omega | (simp <;> omega) | (intros; omega), ?_⟩))
  (repeat (first | refine g1 ?_ | refine g2 ?_ | ((first | refine g3 ?_ | refine g4 ?_ | refine g5 ?_); try simp only [xq, simprocAttr]) | ((first | refine g6 ?_ | refine g7 ?_); simp only [xr, simprocAttr]; repeat (guard_target =~ _ ∧ _; refine ⟨by first | trivial | (unfold I64; omega) | omega | (simp <;> omega) | (intros; omega), ?_⟩))))
  ((try refine Or.inl ?_); refine ⟨_, (fun hh => isMixture_d _ _ _ _ (prob_rows (takes_ok (by simpa using hh)).1)), .inl rfl, ?_⟩; (try simp only [xr, simprocAttr]); repeat (guard_target =~ _ ∧ _; refine ⟨by first | trivial | (unfold I64; omega) | omega | (simp <;> omega) | (intros; omega), ?_⟩))
  (repeat (first | refine g1 ?_ | refine g2 ?_ | ((first | refine g3 ?_ | refine g4 ?_ | refine g5 ?_); try simp only [xq, simprocAttr]) | ((first | refine g6 ?_ | refine g7 ?_); simp only [xr, simprocAttr]; repeat (guard_target =~ _ ∧ _; refine ⟨by first | trivial | (unfold I64; omega) | omega | (simp <;> omega) | (intros; omega), ?_⟩))))
  refine awp_cond (by first | rfl | (simp only [xr, simprocAttr]; rfl)) (fun hc => ?_) (fun hc => ?_)
  · have hc' : (takesB m s x rs && mixB m s ws ns 4) = false := by
      revert hc
      cases takesB m s x rs <;> cases mixB m s ws ns 4 <;> decide
    (repeat (first | refine g1 ?_ | refine g2 ?_ | ((first | refine g3 ?_ | refine g4 ?_ | refine g5 ?_); try simp only [xq, simprocAttr]) | ((first | refine g6 ?_ | refine g7 ?_); simp only [xr, simprocAttr]; repeat (guard_target =~ _ ∧ _; refine ⟨by first | trivial | (unfold I64; omega) | omega | (simp <;> omega) | (intros; omega), ?_⟩))))
    (simp only [xec, simprocAttr]; refine ⟨[_, _], ⟨⟨by simp only [xr, simprocAttr] <;> (and_intros <;> first | trivial | (unfold I64; omega) | omega | (simp <;> omega) | (intros; omega)), rfl⟩, rfl, trivial⟩, rfl, Imp.eq ?_⟩)
    rw [hc']
    rfl
  · have hc' : takesB m s x rs = true ∧ mixB m s ws ns 4 = true := by
      revert hc
      cases takesB m s x rs <;> cases mixB m s ws ns 4 <;> decide
    obtain ⟨h1, ⟨y, rfl, hy⟩, h3, h4⟩ := takes_ok hc'.1
    have hM := mix_ok hc'.2
    have hb := mixedS_bd hM h1 hy h3 h4 ns.length (Nat.le_refl _)
    have hs := hM.sum
    have hi := hM.hi
    ((repeat (first | refine g1 ?_ | refine g2 ?_ | ((first | refine g3 ?_ | refine g4 ?_); try simp only [xq, simprocAttr]))); refine awp_anyM [2] 0 [] (by kernel_rfl) (by kernel_rfl) (by kernel_rfl) (by kernel_rfl) (by kernel_rfl) ?_; simp (maxSteps := 3000000) only [xr, simprocAttr]; repeat (guard_target =~ _ ∧ _; refine ⟨by first | trivial | (unfold I64; omega) | omega | (simp <;> omega) | (intros; omega), ?_⟩))
    ((try refine Or.inl ?_); refine ⟨_, (mixed_d m s ws ns y rs hM h1 hy h3 h4), .inl rfl, ?_⟩; (try simp only [xr, simprocAttr]); repeat (guard_target =~ _ ∧ _; refine ⟨by first | trivial | (unfold I64; omega) | omega | (simp <;> omega) | (intros; omega), ?_⟩))
    ((try refine Or.inl ?_); refine ⟨_, (total_d ws hM.fits), .inl rfl, ?_⟩; (try simp only [xr, simprocAttr]); repeat (guard_target =~ _ ∧ _; refine ⟨by first | trivial | (unfold I64; omega) | omega | (simp <;> omega) | (intros; omega), ?_⟩))
    ((try refine Or.inl ?_); refine ⟨_, (makeFrac_d _ _ (by omega) (by omega) (by omega) (by omega)), .inl rfl, ?_⟩; (try simp only [xr, simprocAttr]); repeat (guard_target =~ _ ∧ _; refine ⟨by first | trivial | (unfold I64; omega) | omega | (simp <;> omega) | (intros; omega), ?_⟩))
    (repeat (first | refine g1 ?_ | refine g2 ?_ | ((first | refine g3 ?_ | refine g4 ?_ | refine g5 ?_); try simp only [xq, simprocAttr]) | ((first | refine g6 ?_ | refine g7 ?_); simp only [xr, simprocAttr]; repeat (guard_target =~ _ ∧ _; refine ⟨by first | trivial | (unfold I64; omega) | omega | (simp <;> omega) | (intros; omega), ?_⟩))))
    (simp only [xec, simprocAttr]; refine ⟨[_, _], ⟨⟨by simp only [xr, simprocAttr] <;> (and_intros <;> first | trivial | (unfold I64; omega) | omega | (simp <;> omega) | (intros; omega)), rfl⟩, rfl, trivial⟩, rfl, Imp.eq ?_⟩)
    rw [hc'.1, hc'.2]
    rfl
theorem spec_MixtureCost_d (m s : List (List Int)) (ws : List Int) (ns : List (List (List Int))) (x : Int) (rs : List Int) :
    Does Tryz.prog 12 [prA m s, mixA ws ns, .int x, .sl (.ints rs)] (.imm (frIf (takesB m s x rs && mixB m s ws ns 4) (mixCostN m s ws ns x rs) ws.sum)) := by
  refine spec_imm Tryz.func12 rfl Tryz.ntmps12 cfOK (fun _ _ => by kernel_rfl) rfl (Nat.le_of_ble_eq_true rfl) ?_
  intro M0 w0
  rw [Tryz.results12]
  (repeat (first | refine g1 ?_ | refine g2 ?_ | ((first | refine g3 ?_ | refine g4 ?_ | refine g5 ?_); try simp only [xq, simprocAttr]) | ((first | refine g6 ?_ | refine g7 ?_); simp only [xr, simprocAttr]; repeat (guard_target =~ _ ∧ _; refine ⟨by first | trivial | (unfold I64; omega) | omega | (simp <;> omega) | (intros; omega), ?_⟩))))
  ((try refine Or.inl ?_); refine ⟨_, (l11Mixture_d _ _ _ _), .inl rfl, ?_⟩; (try simp only [xr, simprocAttr]); repeat (guard_target =~ _ ∧ _; refine ⟨by first | trivial | (unfold I64; omega) | omega | (simp <;> omega) | (intros; omega), ?_⟩))
  (repeat (first | refine g1 ?_ | refine g2 ?_ | ((first | refine g3 ?_ | refine g4 ?_ | refine g5 ?_); try simp only [xq, simprocAttr]) | ((first | refine g6 ?_ | refine g7 ?_); simp only [xr, simprocAttr]; repeat (guard_target =~ _ ∧ _; refine ⟨by first | trivial | (unfold I64; omega) | omega | (simp <;> omega) | (intros; omega), ?_⟩))))
  ((try refine Or.inl ?_); refine ⟨_, (fun _ => l8Takes_d _ _ _ _), .inl rfl, ?_⟩; (try simp only [xr, simprocAttr]); repeat (guard_target =~ _ ∧ _; refine ⟨by first | trivial | (unfold I64; omega) | omega | (simp <;> omega) | (intros; omega), ?_⟩))
  (repeat (first | refine g1 ?_ | refine g2 ?_ | ((first | refine g3 ?_ | refine g4 ?_ | refine g5 ?_); try simp only [xq, simprocAttr]) | ((first | refine g6 ?_ | refine g7 ?_); simp only [xr, simprocAttr]; repeat (guard_target =~ _ ∧ _; refine ⟨by first | trivial | (unfold I64; omega) | omega | (simp <;> omega) | (intros; omega), ?_⟩))))
  refine awp_cond (by first | rfl | (simp only [xr, simprocAttr]; rfl)) (fun hc => ?_) (fun hc => ?_)
  · have hc' : (takesB m s x rs && mixB m s ws ns 4) = false := by
      have : takesB m s x rs = true → probB m s = true := fun h => (takes_ok h).1
      revert hc this
      cases takesB m s x rs <;> cases mixB m s ws ns 4 <;> cases probB m s <;> decide
    (repeat (first | refine g1 ?_ | refine g2 ?_ | ((first | refine g3 ?_ | refine g4 ?_ | refine g5 ?_); try simp only [xq, simprocAttr]) | ((first | refine g6 ?_ | refine g7 ?_); simp only [xr, simprocAttr]; repeat (guard_target =~ _ ∧ _; refine ⟨by first | trivial | (unfold I64; omega) | omega | (simp <;> omega) | (intros; omega), ?_⟩))))
    (simp only [xec, simprocAttr]; refine ⟨[_, _], ⟨⟨by simp only [xr, simprocAttr] <;> (and_intros <;> first | trivial | (unfold I64; omega) | omega | (simp <;> omega) | (intros; omega)), rfl⟩, rfl, trivial⟩, rfl, Imp.eq ?_⟩)
    rw [hc']
    rfl
  · have hc' : takesB m s x rs = true ∧ mixB m s ws ns 4 = true := by
      revert hc
      cases takesB m s x rs <;> cases mixB m s ws ns 4 <;> cases probB m s <;> decide
    obtain ⟨h1, ⟨y, rfl, hy⟩, h3, h4⟩ := takes_ok hc'.1
    have hM := mix_ok hc'.2
    have hb := mixedS_bd hM h1 hy h3 h4 ns.length (Nat.le_refl _)
    have hs := hM.sum
    have hi := hM.hi
    (repeat (first | refine g1 ?_ | refine g2 ?_ | ((first | refine g3 ?_ | refine g4 ?_ | refine g5 ?_); try simp only [xq, simprocAttr]) | ((first | refine g6 ?_ | refine g7 ?_); simp only [xr, simprocAttr]; repeat (guard_target =~ _ ∧ _; refine ⟨by first | trivial | (unfold I64; omega) | omega | (simp <;> omega) | (intros; omega), ?_⟩))))
    ((try refine Or.inl ?_); refine ⟨_, (l11Mean_d m s ws ns y rs hM h1 hy h3 h4), .inl rfl, ?_⟩; (try simp only [xr, simprocAttr]); repeat (guard_target =~ _ ∧ _; refine ⟨by first | trivial | (unfold I64; omega) | omega | (simp <;> omega) | (intros; omega), ?_⟩))
    (repeat (first | refine g1 ?_ | refine g2 ?_ | ((first | refine g3 ?_ | refine g4 ?_ | refine g5 ?_); try simp only [xq, simprocAttr]) | ((first | refine g6 ?_ | refine g7 ?_); simp only [xr, simprocAttr]; repeat (guard_target =~ _ ∧ _; refine ⟨by first | trivial | (unfold I64; omega) | omega | (simp <;> omega) | (intros; omega), ?_⟩))))
    ((try refine Or.inl ?_); refine ⟨_, (l2Make_d _ _ (by omega) (by omega) (by omega) (by omega)), .inl rfl, ?_⟩; (try simp only [xr, simprocAttr]); repeat (guard_target =~ _ ∧ _; refine ⟨by first | trivial | (unfold I64; omega) | omega | (simp <;> omega) | (intros; omega), ?_⟩))
    (repeat (first | refine g1 ?_ | refine g2 ?_ | ((first | refine g3 ?_ | refine g4 ?_ | refine g5 ?_); try simp only [xq, simprocAttr]) | ((first | refine g6 ?_ | refine g7 ?_); simp only [xr, simprocAttr]; repeat (guard_target =~ _ ∧ _; refine ⟨by first | trivial | (unfold I64; omega) | omega | (simp <;> omega) | (intros; omega), ?_⟩))))
    (simp only [xec, simprocAttr]; refine ⟨[_, _], ⟨⟨by simp only [xr, simprocAttr] <;> (and_intros <;> first | trivial | (unfold I64; omega) | omega | (simp <;> omega) | (intros; omega)), rfl⟩, rfl, trivial⟩, rfl, Imp.eq ?_⟩)
    rw [hc'.1, hc'.2]
    rfl
end Go.Proofs.YtcidddfjimbkbaaGreat
