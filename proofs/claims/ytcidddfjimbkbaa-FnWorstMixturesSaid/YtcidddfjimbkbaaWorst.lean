/- WorstOfMixture of the program and of the reference, on the machine. Conditions: none. -/
import Derived.Test.YtcidddfjimbkbaaWorstS
set_option linter.all false
set_option linter.unusedSimpArgs false
set_option linter.unusedVariables false
namespace Go.Proofs.Ytcidddfjimbkbaa
open Go Go.RowKit Am

theorem power_d (b : Nat) (n : Nat) (hb : 1 ≤ b) (hb2 : b ≤ 10) (hn : n ≤ 4) : Does Try.prog 40 [.int b, .int n] (.imm (.int ((b ^ n : Nat) : Int))) := by
  refine spec_imm Try.func40 rfl Try.ntmps40 cfOK (fun _ _ => by kernel_rfl) rfl (Nat.le_of_ble_eq_true rfl) ?_
  intro M0 w0
  rw [Try.results40]
  have hp : ∀ k, k ≤ 4 → 1 ≤ b ^ k ∧ b ^ k ≤ 10000 := fun k hk => by
    have h1 : b ^ k ≤ 10 ^ k := Nat.pow_le_pow_left hb2 k
    have h2 : 10 ^ k ≤ 10 ^ 4 := Nat.pow_le_pow_right (by omega) hk
    have h3 : 0 < b ^ k := Nat.pow_pos (by omega)
    omega
  (repeat (first | refine g1 ?_ | refine g2 ?_ | ((first | refine g3 ?_ | refine g4 ?_ | refine g5 ?_); try simp only [xq, simprocAttr]) | ((first | refine g6 ?_ | refine g7 ?_); simp only [xr, simprocAttr]; repeat (guard_target =~ _ ∧ _; refine ⟨by first | trivial | (unfold I64; omega) | omega | (simp <;> omega) | (intros; omega), ?_⟩))))
  refine awp_rounds (α := Nat) (fun k => [(5, true, .int ((b ^ k : Nat) : Int)), (6, true, .int k)]) [0, 1] (fun _ => []) (fun k => k ≤ n) (fun k => n - k) 0 (by ((try simp only [xk]); (repeat (refine leK_cons ?_ ?_; first | (focus (first | rfl | (simp only [xr, simprocAttr]; done) | (simp only [xr, simprocAttr]; refine int_eq1 ?_; first | trivial | (unfold I64; omega) | omega | (simp <;> omega) | (intros; omega)))) | rotate_left)); (try exact leK_nil rfl); (all_goals (try (simp only [xr, simprocAttr]; try refine int_eq1 ?_))))) (Nat.zero_le _) fun k hk => ?_
  simp only [xr, simprocAttr]
  (repeat (first | refine g1 ?_ | refine g2 ?_ | ((first | refine g3 ?_ | refine g4 ?_ | refine g5 ?_); try simp only [xq, simprocAttr]) | ((first | refine g6 ?_ | refine g7 ?_); simp only [xr, simprocAttr]; repeat (guard_target =~ _ ∧ _; refine ⟨by first | trivial | (unfold I64; omega) | omega | (simp <;> omega) | (intros; omega), ?_⟩))))
  refine awp_cond (by first | rfl | (simp only [xr, simprocAttr]; rfl)) (fun hc => ?_) (fun hc => ?_)
  · have hk' : k < n := by have hc := of_decide_eq_true hc; omega
    have h1 := hp (k + 1) (by omega)
    have h2 := hp k (by omega)
    have e : ((b ^ k : Nat) : Int) * (b : Int) = ((b ^ (k + 1) : Nat) : Int) := by rw [Nat.pow_succ, Int.natCast_mul]
    (repeat (first | refine g1 ?_ | refine g2 ?_ | ((first | refine g3 ?_ | refine g4 ?_ | refine g5 ?_); try simp only [xq, simprocAttr]) | ((first | refine g6 ?_ | refine g7 ?_); simp only [xr, simprocAttr]; repeat (guard_target =~ _ ∧ _; refine ⟨by first | trivial | (unfold I64; omega) | omega | (simp <;> omega) | (intros; omega), ?_⟩))))
    rw [e]
    refine ⟨k + 1, by omega, by omega, .inl ?_⟩
    ((try simp only [xk]); (repeat (refine leK_cons ?_ ?_; first | (focus (first | rfl | (simp only [xr, simprocAttr]; done) | (simp only [xr, simprocAttr]; refine int_eq1 ?_; first | trivial | (unfold I64; omega) | omega | (simp <;> omega) | (intros; omega)))) | rotate_left)); (try exact leK_nil rfl); (all_goals (try (simp only [xr, simprocAttr]; try refine int_eq1 ?_))))
  · have hk' : k = n := by have hc := of_decide_eq_false hc; omega
    subst hk'
    (repeat (first | refine g1 ?_ | refine g2 ?_ | ((first | refine g3 ?_ | refine g4 ?_ | refine g5 ?_); try simp only [xq, simprocAttr]) | ((first | refine g6 ?_ | refine g7 ?_); simp only [xr, simprocAttr]; repeat (guard_target =~ _ ∧ _; refine ⟨by first | trivial | (unfold I64; omega) | omega | (simp <;> omega) | (intros; omega), ?_⟩))))
    (simp only [xe, simprocAttr]; refine ⟨_, rfl, rfl, Imp.eq ?_⟩)
    rfl
theorem l11Sequence_d (b n k : Nat) (hb : 1 ≤ b) (hb2 : b ≤ 10) (hn : n ≤ 4) (hk : k ≤ 1000000) : Does Try.prog 41 [.int b, .int n, .int k] (.imm (.sl (.ints (sq b n k)))) := by
  refine spec_imm Try.func41 rfl Try.ntmps41 cfOK (fun _ _ => by kernel_rfl) rfl (Nat.le_of_ble_eq_true rfl) ?_
  intro M0 w0
  rw [Try.results41]
  have hd : ∀ t, k / b ^ t ≤ k := fun t => Nat.div_le_self _ _
  (repeat (first | refine g1 ?_ | refine g2 ?_ | ((first | refine g3 ?_ | refine g4 ?_ | refine g5 ?_); try simp only [xq, simprocAttr]) | ((first | refine g6 ?_ | refine g7 ?_); simp only [xr, simprocAttr]; repeat (guard_target =~ _ ∧ _; refine ⟨by first | trivial | (unfold I64; omega) | omega | (simp <;> omega) | (intros; omega), ?_⟩))))
  rw [← sqU_0 b n k]
  refine awp_rounds (α := Nat) (fun t => [(8, true, .int ((n : Int) - 1 - (t : Int))), (2, true, .int ((k / b ^ t : Nat) : Int))]) [0, 1, 7] (fun t => [.row 3 (.ints (sqU b n k t))]) (fun t => t ≤ n) (fun t => n - t) 0 (by ((try simp only [xk]); (repeat (refine leK_cons ?_ ?_; first | (focus (first | rfl | (simp only [xr, simprocAttr]; done) | (simp only [xr, simprocAttr]; refine int_eq1 ?_; first | trivial | (unfold I64; omega) | omega | (simp <;> omega) | (intros; omega)))) | rotate_left)); (refine leK_nil ?_; exact (by rfl)); (all_goals (try (simp only [xr, simprocAttr]; try refine int_eq1 ?_))))) (Nat.zero_le _) fun t ht => ?_
  have hl := sqU_len b n k t
  have h1 := hd t
  by_cases htn : t < n
  · have e : (n : Int) - 1 - (t : Int) = ((n - 1 - t : Nat) : Int) := by omega
    have e1 : ((k / b ^ t : Nat) : Int) % (b : Int) = ((digS b k t : Nat) : Int) := (Int.natCast_emod _ _).symm
    have e2 : ((k / b ^ t : Nat) : Int) / (b : Int) = ((k / b ^ (t + 1) : Nat) : Int) := by rw [← digS_div]; exact (Int.natCast_ediv _ _).symm
    obtain ⟨q, hq⟩ : ∃ q, q = k / b ^ t := ⟨_, rfl⟩
    rw [← hq] at e1 e2 h1 ⊢
    rw [e]
    simp only [xr, simprocAttr]
    (repeat (first | refine g1 ?_ | refine g2 ?_ | ((first | refine g3 ?_ | refine g4 ?_ | refine g5 ?_); try simp only [xq, simprocAttr]) | ((first | refine g6 ?_ | refine g7 ?_); simp only [xr, simprocAttr]; repeat (guard_target =~ _ ∧ _; refine ⟨by first | trivial | (unfold I64; omega) | omega | (simp <;> omega) | (intros; omega), ?_⟩))))
    refine awp_cond (by first | rfl | (simp only [xr, simprocAttr]; rfl)) (fun hc => ?_) (fun hc => ?_)
    · (repeat (first | refine g1 ?_ | refine g2 ?_ | ((first | refine g3 ?_ | refine g4 ?_ | refine g5 ?_); try simp only [xq, simprocAttr]) | ((first | refine g6 ?_ | refine g7 ?_); simp only [xr, simprocAttr]; repeat (guard_target =~ _ ∧ _; refine ⟨by first | trivial | (unfold I64; omega) | omega | (simp <;> omega) | (intros; omega), ?_⟩))))
      rw [e1, e2, sqU_set htn]
      rw [show ((n - 1 - t : Nat) : Int) - 1 = (n : Int) - 1 - ((t + 1 : Nat) : Int) by omega]
      refine ⟨t + 1, by omega, by omega, .inl ?_⟩
      ((try simp only [xk]); (repeat (refine leK_cons ?_ ?_; first | (focus (first | rfl | (simp only [xr, simprocAttr]; done) | (simp only [xr, simprocAttr]; refine int_eq1 ?_; first | trivial | (unfold I64; omega) | omega | (simp <;> omega) | (intros; omega)))) | rotate_left)); (refine leK_nil ?_; exact (by rfl)); (all_goals (try (simp only [xr, simprocAttr]; try refine int_eq1 ?_))))
    · simp at hc
  · obtain rfl : t = n := by omega
    have e : (t : Int) - 1 - (t : Int) = -1 := by omega
    rw [e, sqU_all]
    simp only [xr, simprocAttr]
    (repeat (first | refine g1 ?_ | refine g2 ?_ | ((first | refine g3 ?_ | refine g4 ?_ | refine g5 ?_); try simp only [xq, simprocAttr]) | ((first | refine g6 ?_ | refine g7 ?_); simp only [xr, simprocAttr]; repeat (guard_target =~ _ ∧ _; refine ⟨by first | trivial | (unfold I64; omega) | omega | (simp <;> omega) | (intros; omega), ?_⟩))))
    refine awp_cond (by first | rfl | (simp only [xr, simprocAttr]; rfl)) (fun hc => ?_) (fun hc => ?_)
    · simp at hc
    (repeat (first | refine g1 ?_ | refine g2 ?_ | ((first | refine g3 ?_ | refine g4 ?_); try simp only [xq, simprocAttr]) | ((first | refine g6 ?_ | refine g7 ?_); simp only [xr, simprocAttr]; repeat (guard_target =~ _ ∧ _; refine ⟨by first | trivial | (unfold I64; omega) | omega | (simp <;> omega) | (intros; omega), ?_⟩))))
    (refine awp_frz 0 rfl ?_; simp only [xz, simprocAttr])
    (repeat (first | refine g1 ?_ | refine g2 ?_ | ((first | refine g3 ?_ | refine g4 ?_ | refine g5 ?_); try simp only [xq, simprocAttr]) | ((first | refine g6 ?_ | refine g7 ?_); simp only [xr, simprocAttr]; repeat (guard_target =~ _ ∧ _; refine ⟨by first | trivial | (unfold I64; omega) | omega | (simp <;> omega) | (intros; omega), ?_⟩))))
    (simp only [xe, simprocAttr]; refine ⟨_, rfl, rfl, Imp.eq ?_⟩)
    rfl
/-- what WorstOfMixture is about: right arguments, and at most four requests -/
def woB (m s : List (List Int)) (ws : List Int) (ns : List (List (List Int))) (x n : Int) : Bool := takesB m s x [] && mixB m s ws ns 4 && rng n 0 4
def woK (m s : List (List Int)) (ws : List Int) (ns : List (List (List Int))) (x n : Int) : List Int × Int := wkS (coW m s ws ns x.toNat) s.length n.toNat (s.length ^ n.toNat)
def woV (m s : List (List Int)) (ws : List Int) (ns : List (List (List Int))) (x n : Int) : List Int := (woK m s ws ns x n).1
structure WoIn (m s : List (List Int)) (ws : List Int) (ns : List (List (List Int))) (x n : Int) (y k : Nat) : Prop where
  ex : x = y
  en : n = k
  le : k ≤ 4
  ok : WoOK m s ws ns y
theorem wo_in {m s : List (List Int)} {ws : List Int} {ns : List (List (List Int))} {x n : Int} (h : woB m s ws ns x n = true) : ∃ y k : Nat, WoIn m s ws ns x n y k := by
  unfold woB at h
  rw [Bool.and_eq_true, Bool.and_eq_true] at h
  obtain ⟨⟨h1, h2⟩, h3⟩ := h
  obtain ⟨hp, ⟨y, rfl, hy⟩, -, -⟩ := takes_ok h1
  have h3 : 0 ≤ n ∧ n ≤ 4 := by simpa [rng] using h3
  exact ⟨y, n.toNat, rfl, by omega, by omega, mix_ok h2, hp, hy⟩
section
variable {m s : List (List Int)} {ws : List Int} {ns : List (List (List Int))} {x n : Int} {y k : Nat}
theorem WoIn.pos (h : WoIn m s ws ns x n y k) : 0 < s.length ^ k := Nat.pow_pos (by have := prob_len h.ok.prob; omega)
theorem WoIn.cost (h : WoIn m s ws ns x n y k) (j : Nat) : 0 ≤ coW m s ws ns y (sq s.length k j) ∧ coW m s ws ns y (sq s.length k j) ≤ 1000000 := h.ok.bd (sq_reqs (by have := prob_len h.ok.prob; omega)) (by rw [sq_len]; exact h.le)
theorem WoIn.len (h : WoIn m s ws ns x n y k) : (woV m s ws ns x n).length = k := by
  have hp := h.pos
  have := wkS_len (c := coW m s ws ns y) (b := s.length) (n := k) (fun j _ => (h.cost j).1) (s.length ^ k - 1) (by omega)
  rw [Nat.sub_add_cancel hp] at this
  unfold woV woK
  rw [h.ex, h.en, Int.toNat_natCast, Int.toNat_natCast]
  exact this
theorem WoIn.bd (h : WoIn m s ws ns x n y k) : 0 ≤ (wkS (coW m s ws ns y) s.length k (s.length ^ k)).2 ∧ (wkS (coW m s ws ns y) s.length k (s.length ^ k)).2 ≤ 1000000 := by
  have hp := h.pos
  have h1 := wkS_pos (c := coW m s ws ns y) (b := s.length) (n := k) (fun j _ => (h.cost j).1) (s.length ^ k - 1) (by omega)
  rw [Nat.sub_add_cancel hp] at h1
  exact ⟨h1, (wkS_bd (B := 1000000) (by omega) (fun j _ => (h.cost j).2) _ (Nat.le_refl _)).2⟩
end
abbrev woT (m s : List (List Int)) (ws : List Int) (ns : List (List (List Int))) (x n : Int) : TV := frT (mkFr (woK m s ws ns x n).2 ws.sum)
abbrev woU (m s : List (List Int)) (ws : List Int) (ns : List (List (List Int))) (x n : Int) : TV := blT (mkOk (woK m s ws ns x n).2 ws.sum)
set_option maxHeartbeats 2000000 in
theorem impl_WorstOfMixture_h (m s : List (List Int)) (ws : List Int) (ns : List (List (List Int))) (x n : Int) (hb : woB m s ws ns x n = true) :
    DoesH Try.prog 7 [prA m s, mixA ws ns, .int x, .int n] [] [] (.tup [.one (.own 0), woT m s ws ns x n, woU m s ws ns x n]) [.row 3 (.ints (woV m s ws ns x n))] := by
  obtain ⟨y, k, h⟩ := wo_in hb
  obtain ⟨rfl, rfl, hk, ho⟩ := h
  have h := wo_in hb
  unfold woB at hb
  rw [Bool.and_eq_true, Bool.and_eq_true] at hb
  have hI : WoIn m s ws ns y k y k := ⟨rfl, rfl, hk, ho⟩
  have hbd := hI.bd
  have hsum := ho.mix.sum
  have hS := sequencesW_h ho hk
  unfold woT woU woV woK
  rw [Int.toNat_natCast, Int.toNat_natCast]
  generalize wkS (coW m s ws ns y) s.length k (s.length ^ k) = W at hS hbd
  refine spec_hB Try.func7 rfl Try.ntmps7 cfOK (fun _ _ => by kernel_rfl) rfl rfl rfl ?_
  intro M0 w0 S φ0
  rw [Try.results7]
  (repeat (first | refine g1 ?_ | refine g2 ?_ | ((first | refine g3 ?_ | refine g4 ?_ | refine g5 ?_); try simp only [xq, simprocAttr]) | ((first | refine g6 ?_ | refine g7 ?_); simp only [xr, simprocAttr]; repeat (guard_target =~ _ ∧ _; refine ⟨by first | trivial | (unfold I64; omega) | omega | (simp <;> omega) | (intros; omega), ?_⟩))))
  ((try refine Or.inl ?_); refine ⟨_, (isStarted_n _ _ _), .inl rfl, ?_⟩; (try simp only [xr, simprocAttr]); repeat (guard_target =~ _ ∧ _; refine ⟨by first | trivial | (unfold I64; omega) | omega | (simp <;> omega) | (intros; omega), ?_⟩))
  (repeat (first | refine g1 ?_ | refine g2 ?_ | ((first | refine g3 ?_ | refine g4 ?_ | refine g5 ?_); try simp only [xq, simprocAttr]) | ((first | refine g6 ?_ | refine g7 ?_); simp only [xr, simprocAttr]; repeat (guard_target =~ _ ∧ _; refine ⟨by first | trivial | (unfold I64; omega) | omega | (simp <;> omega) | (intros; omega), ?_⟩))))
  ((try refine Or.inl ?_); refine ⟨_, (fun hh => isMixture_d _ _ _ _ (prob_rows (takes_ok (by simpa using hh)).1)), .inl rfl, ?_⟩; (try simp only [xr, simprocAttr]); repeat (guard_target =~ _ ∧ _; refine ⟨by first | trivial | (unfold I64; omega) | omega | (simp <;> omega) | (intros; omega), ?_⟩))
  (repeat (first | refine g1 ?_ | refine g2 ?_ | ((first | refine g3 ?_ | refine g4 ?_ | refine g5 ?_); try simp only [xq, simprocAttr]) | ((first | refine g6 ?_ | refine g7 ?_); simp only [xr, simprocAttr]; repeat (guard_target =~ _ ∧ _; refine ⟨by first | trivial | (unfold I64; omega) | omega | (simp <;> omega) | (intros; omega), ?_⟩))))
  ((try refine Or.inl ?_); refine ⟨_, (fun _ => within_d _ _ _), .inl rfl, ?_⟩; (try simp only [xr, simprocAttr]); repeat (guard_target =~ _ ∧ _; refine ⟨by first | trivial | (unfold I64; omega) | omega | (simp <;> omega) | (intros; omega), ?_⟩))
  (repeat (first | refine g1 ?_ | refine g2 ?_ | ((first | refine g3 ?_ | refine g4 ?_ | refine g5 ?_); try simp only [xq, simprocAttr]) | ((first | refine g6 ?_ | refine g7 ?_); simp only [xr, simprocAttr]; repeat (guard_target =~ _ ∧ _; refine ⟨by first | trivial | (unfold I64; omega) | omega | (simp <;> omega) | (intros; omega), ?_⟩))))
  rw [hb.1.1, hb.1.2, hb.2]
  refine awp_cond (by first | rfl | (simp only [xr, simprocAttr]; rfl)) (fun hc => ?_) (fun hc => ?_)
  · simp at hc
  (refine awp_frzB 0 rfl rfl ?_; simp only [xzb, simprocAttr])
  (refine awp_frzB 1 rfl rfl ?_; simp only [xzb, simprocAttr])
  (refine awp_frzB 2 rfl rfl ?_; simp only [xzb, simprocAttr])
  simp only [List.reverse_cons, List.reverse_nil, List.nil_append, List.cons_append]
  (repeat (first | refine g1 ?_ | refine g2 ?_ | ((first | refine g3 ?_ | refine g4 ?_ | refine g5 ?_); try simp only [xq, simprocAttr]) | ((first | refine g6 ?_ | refine g7 ?_); simp only [xr, simprocAttr]; repeat (guard_target =~ _ ∧ _; refine ⟨by first | trivial | (unfold I64; omega) | omega | (simp <;> omega) | (intros; omega), ?_⟩))))
  (refine .inr (.inl (callW_a [5, 4] (hS) rfl rfl rfl rfl ⟨rfl, rfl, trivial⟩ rfl rfl rfl rfl ?_)); (try simp only [xr, simprocAttr]); repeat (guard_target =~ _ ∧ _; refine ⟨by first | trivial | (unfold I64; omega) | omega | (simp <;> omega) | (intros; omega), ?_⟩))
  (repeat (first | refine g1 ?_ | refine g2 ?_ | ((first | refine g3 ?_ | refine g4 ?_ | refine g5 ?_); try simp only [xq, simprocAttr]) | ((first | refine g6 ?_ | refine g7 ?_); simp only [xr, simprocAttr]; repeat (guard_target =~ _ ∧ _; refine ⟨by first | trivial | (unfold I64; omega) | omega | (simp <;> omega) | (intros; omega), ?_⟩))))
  ((repeat (first | refine g1 ?_ | refine g2 ?_ | ((first | refine g3 ?_ | refine g4 ?_); try simp only [xq, simprocAttr]))); refine awp_anyM [] 0 [] (by kernel_rfl) (by kernel_rfl) (by kernel_rfl) (by kernel_rfl) (by kernel_rfl) ?_; simp (maxSteps := 3000000) only [xr, simprocAttr]; repeat (guard_target =~ _ ∧ _; refine ⟨by first | trivial | (unfold I64; omega) | omega | (simp <;> omega) | (intros; omega), ?_⟩))
  ((try refine Or.inl ?_); refine ⟨_, (total_d ws ho.mix.fits), .inl rfl, ?_⟩; (try simp only [xr, simprocAttr]); repeat (guard_target =~ _ ∧ _; refine ⟨by first | trivial | (unfold I64; omega) | omega | (simp <;> omega) | (intros; omega), ?_⟩))
  ((try refine Or.inl ?_); refine ⟨_, (makeFrac_d _ _ (by omega) (by omega) (by omega) (by omega)), .inl rfl, ?_⟩; (try simp only [xr, simprocAttr]); repeat (guard_target =~ _ ∧ _; refine ⟨by first | trivial | (unfold I64; omega) | omega | (simp <;> omega) | (intros; omega), ?_⟩))
  (repeat (first | refine g1 ?_ | refine g2 ?_ | ((first | refine g3 ?_ | refine g4 ?_); try simp only [xq, simprocAttr])))
  ((repeat (first | refine g1 ?_ | refine g2 ?_ | ((first | refine g3 ?_ | refine g4 ?_); try simp only [xq, simprocAttr]))); refine awp_anyM [3] 0 [] (by kernel_rfl) (by kernel_rfl) (by kernel_rfl) (by kernel_rfl) (by kernel_rfl) ?_; simp (maxSteps := 3000000) only [xr, simprocAttr]; repeat (guard_target =~ _ ∧ _; refine ⟨by first | trivial | (unfold I64; omega) | omega | (simp <;> omega) | (intros; omega), ?_⟩))
  (repeat (first | refine g1 ?_ | refine g2 ?_ | ((first | refine g3 ?_ | refine g4 ?_ | refine g5 ?_); try simp only [xq, simprocAttr]) | ((first | refine g6 ?_ | refine g7 ?_); simp only [xr, simprocAttr]; repeat (guard_target =~ _ ∧ _; refine ⟨by first | trivial | (unfold I64; omega) | omega | (simp <;> omega) | (intros; omega), ?_⟩))))
  (simp only [ends_normal, ends_ret]; refine retH_2 (vs := [_, _, _]) [6] rfl ⟨rfl, trivial⟩ rfl rfl rfl rfl ⟨rfl, ⟨by simp only [xr, simprocAttr] <;> (and_intros <;> first | trivial | (unfold I64; omega) | omega | (simp <;> omega) | (intros; omega)), rfl⟩, rfl, trivial⟩ ?_; try rfl)
theorem impl_WorstOfMixture_i (m s : List (List Int)) (ws : List Int) (ns : List (List (List Int))) (x n : Int) (hb : woB m s ws ns x n = true) :
    Does Try.prog 7 [prA m s, mixA ws ns, .int x, .int n] (.imm (.tup [.one (.b (.sl (.ints (woV m s ws ns x n)))), woT m s ws ns x n, woU m s ws ns x n])) := imm_of (impl_WorstOfMixture_h m s ws ns x n hb)
theorem impl_WorstOfMixture_0 (m s : List (List Int)) (ws : List Int) (ns : List (List (List Int))) (x n : Int) (hb : woB m s ws ns x n = false) :
    Does Try.prog 7 [prA m s, mixA ws ns, .int x, .int n] (.imm (.tup [.one (.b (.val (.slice none 0 0))), frT (0, 0), blT false])) := by
  unfold woB at hb
  refine spec_imm Try.func7 rfl Try.ntmps7 cfOK (fun _ _ => by kernel_rfl) rfl (Nat.le_of_ble_eq_true rfl) ?_
  intro M0 w0
  rw [Try.results7]
  (repeat (first | refine g1 ?_ | refine g2 ?_ | ((first | refine g3 ?_ | refine g4 ?_ | refine g5 ?_); try simp only [xq, simprocAttr]) | ((first | refine g6 ?_ | refine g7 ?_); simp only [xr, simprocAttr]; repeat (guard_target =~ _ ∧ _; refine ⟨by first | trivial | (unfold I64; omega) | omega | (simp <;> omega) | (intros; omega), ?_⟩))))
  ((try refine Or.inl ?_); refine ⟨_, (isStarted_n _ _ _), .inl rfl, ?_⟩; (try simp only [xr, simprocAttr]); repeat (guard_target =~ _ ∧ _; refine ⟨by first | trivial | (unfold I64; omega) | omega | (simp <;> omega) | (intros; omega), ?_⟩))
  (repeat (first | refine g1 ?_ | refine g2 ?_ | ((first | refine g3 ?_ | refine g4 ?_ | refine g5 ?_); try simp only [xq, simprocAttr]) | ((first | refine g6 ?_ | refine g7 ?_); simp only [xr, simprocAttr]; repeat (guard_target =~ _ ∧ _; refine ⟨by first | trivial | (unfold I64; omega) | omega | (simp <;> omega) | (intros; omega), ?_⟩))))
  ((try refine Or.inl ?_); refine ⟨_, (fun hh => isMixture_d _ _ _ _ (prob_rows (takes_ok (by simpa using hh)).1)), .inl rfl, ?_⟩; (try simp only [xr, simprocAttr]); repeat (guard_target =~ _ ∧ _; refine ⟨by first | trivial | (unfold I64; omega) | omega | (simp <;> omega) | (intros; omega), ?_⟩))
  (repeat (first | refine g1 ?_ | refine g2 ?_ | ((first | refine g3 ?_ | refine g4 ?_ | refine g5 ?_); try simp only [xq, simprocAttr]) | ((first | refine g6 ?_ | refine g7 ?_); simp only [xr, simprocAttr]; repeat (guard_target =~ _ ∧ _; refine ⟨by first | trivial | (unfold I64; omega) | omega | (simp <;> omega) | (intros; omega), ?_⟩))))
  ((try refine Or.inl ?_); refine ⟨_, (fun _ => within_d _ _ _), .inl rfl, ?_⟩; (try simp only [xr, simprocAttr]); repeat (guard_target =~ _ ∧ _; refine ⟨by first | trivial | (unfold I64; omega) | omega | (simp <;> omega) | (intros; omega), ?_⟩))
  (repeat (first | refine g1 ?_ | refine g2 ?_ | ((first | refine g3 ?_ | refine g4 ?_ | refine g5 ?_); try simp only [xq, simprocAttr]) | ((first | refine g6 ?_ | refine g7 ?_); simp only [xr, simprocAttr]; repeat (guard_target =~ _ ∧ _; refine ⟨by first | trivial | (unfold I64; omega) | omega | (simp <;> omega) | (intros; omega), ?_⟩))))
  refine awp_cond (by first | rfl | (simp only [xr, simprocAttr]; rfl)) (fun hc => ?_) (fun hc => ?_)
  · (repeat (first | refine g1 ?_ | refine g2 ?_ | ((first | refine g3 ?_ | refine g4 ?_ | refine g5 ?_); try simp only [xq, simprocAttr]) | ((first | refine g6 ?_ | refine g7 ?_); simp only [xr, simprocAttr]; repeat (guard_target =~ _ ∧ _; refine ⟨by first | trivial | (unfold I64; omega) | omega | (simp <;> omega) | (intros; omega), ?_⟩))))
    (simp only [xec, simprocAttr]; refine ⟨[_, _, _], ⟨rfl, ⟨by simp only [xr, simprocAttr] <;> (and_intros <;> first | trivial | (unfold I64; omega) | omega | (simp <;> omega) | (intros; omega)), rfl⟩, rfl, trivial⟩, rfl, Imp.eq ?_⟩)
    rfl
  · exfalso
    revert hb hc
    cases takesB m s x [] <;> cases mixB m s ws ns 4 <;> cases rng n 0 4 <;> simp
set_option maxHeartbeats 2000000 in
theorem spec_WorstOfMixture_v (m s : List (List Int)) (ws : List Int) (ns : List (List (List Int))) (x n : Int) :
    Does Try.prog 8 [prA m s, mixA ws ns, .int x, .int n] (.imm (.tup [.one (.b (.sl (.ints (if woB m s ws ns x n = true then woV m s ws ns x n else [])))), (if woB m s ws ns x n = true then woT m s ws ns x n else frT (0, 0)), (if woB m s ws ns x n = true then woU m s ws ns x n else blT false)])) := by
  have hpr : takesB m s x [] = true → probB m s = true := fun h => (takes_ok h).1
  refine spec_imm Try.func8 rfl Try.ntmps8 cfOK (fun _ _ => by kernel_rfl) rfl (Nat.le_of_ble_eq_true rfl) ?_
  intro M0 w0
  rw [Try.results8]
  (repeat (first | refine g1 ?_ | refine g2 ?_ | ((first | refine g3 ?_ | refine g4 ?_ | refine g5 ?_); try simp only [xq, simprocAttr]) | ((first | refine g6 ?_ | refine g7 ?_); simp only [xr, simprocAttr]; repeat (guard_target =~ _ ∧ _; refine ⟨by first | trivial | (unfold I64; omega) | omega | (simp <;> omega) | (intros; omega), ?_⟩))))
  ((try refine Or.inl ?_); refine ⟨_, (l11Mixture_d _ _ _ _), .inl rfl, ?_⟩; (try simp only [xr, simprocAttr]); repeat (guard_target =~ _ ∧ _; refine ⟨by first | trivial | (unfold I64; omega) | omega | (simp <;> omega) | (intros; omega), ?_⟩))
  (repeat (first | refine g1 ?_ | refine g2 ?_ | ((first | refine g3 ?_ | refine g4 ?_ | refine g5 ?_); try simp only [xq, simprocAttr]) | ((first | refine g6 ?_ | refine g7 ?_); simp only [xr, simprocAttr]; repeat (guard_target =~ _ ∧ _; refine ⟨by first | trivial | (unfold I64; omega) | omega | (simp <;> omega) | (intros; omega), ?_⟩))))
  ((try refine Or.inl ?_); refine ⟨_, (fun _ => l8Takes_d _ _ _ _), .inl rfl, ?_⟩; (try simp only [xr, simprocAttr]); repeat (guard_target =~ _ ∧ _; refine ⟨by first | trivial | (unfold I64; omega) | omega | (simp <;> omega) | (intros; omega), ?_⟩))
  (repeat (first | refine g1 ?_ | refine g2 ?_ | ((first | refine g3 ?_ | refine g4 ?_ | refine g5 ?_); try simp only [xq, simprocAttr]) | ((first | refine g6 ?_ | refine g7 ?_); simp only [xr, simprocAttr]; repeat (guard_target =~ _ ∧ _; refine ⟨by first | trivial | (unfold I64; omega) | omega | (simp <;> omega) | (intros; omega), ?_⟩))))
  ((try refine Or.inl ?_); refine ⟨_, (fun _ => l1In_d _ _ _), .inl rfl, ?_⟩; (try simp only [xr, simprocAttr]); repeat (guard_target =~ _ ∧ _; refine ⟨by first | trivial | (unfold I64; omega) | omega | (simp <;> omega) | (intros; omega), ?_⟩))
  (repeat (first | refine g1 ?_ | refine g2 ?_ | ((first | refine g3 ?_ | refine g4 ?_ | refine g5 ?_); try simp only [xq, simprocAttr]) | ((first | refine g6 ?_ | refine g7 ?_); simp only [xr, simprocAttr]; repeat (guard_target =~ _ ∧ _; refine ⟨by first | trivial | (unfold I64; omega) | omega | (simp <;> omega) | (intros; omega), ?_⟩))))
  cases hb : woB m s ws ns x n
  · refine awp_cond (by first | rfl | (simp only [xr, simprocAttr]; rfl)) (fun hc => ?_) (fun hc => ?_)
    · (repeat (first | refine g1 ?_ | refine g2 ?_ | ((first | refine g3 ?_ | refine g4 ?_); try simp only [xq, simprocAttr]) | ((first | refine g6 ?_ | refine g7 ?_); simp only [xr, simprocAttr]; repeat (guard_target =~ _ ∧ _; refine ⟨by first | trivial | (unfold I64; omega) | omega | (simp <;> omega) | (intros; omega), ?_⟩))))
      (refine awp_frz 3 rfl ?_; simp only [xz, simprocAttr])
      (repeat (first | refine g1 ?_ | refine g2 ?_ | ((first | refine g3 ?_ | refine g4 ?_ | refine g5 ?_); try simp only [xq, simprocAttr]) | ((first | refine g6 ?_ | refine g7 ?_); simp only [xr, simprocAttr]; repeat (guard_target =~ _ ∧ _; refine ⟨by first | trivial | (unfold I64; omega) | omega | (simp <;> omega) | (intros; omega), ?_⟩))))
      (simp only [xec, simprocAttr]; refine ⟨[_, _, _], ⟨rfl, ⟨by simp only [xr, simprocAttr] <;> (and_intros <;> first | trivial | (unfold I64; omega) | omega | (simp <;> omega) | (intros; omega)), rfl⟩, rfl, trivial⟩, rfl, Imp.eq ?_⟩)
      rfl
    · exfalso
      unfold woB at hb
      revert hb hc hpr
      cases takesB m s x [] <;> cases mixB m s ws ns 4 <;> cases rng n 0 4 <;> cases probB m s <;> simp
  obtain ⟨y, k, h⟩ := wo_in hb
  have hbd := h.bd
  have hcost := h.cost
  have hpos := h.pos
  unfold woT woU woV woK
  obtain ⟨rfl, rfl, hk, ho⟩ := h
  have hpl := prob_len ho.prob
  have hsum := ho.mix.sum
  rw [Int.toNat_natCast, Int.toNat_natCast]
  refine awp_cond (by first | rfl | (simp only [xr, simprocAttr]; rfl)) (fun hc => ?_) (fun hc => ?_)
  · exfalso
    unfold woB at hb
    revert hb hc hpr
    cases takesB m s y [] <;> cases mixB m s ws ns 4 <;> cases rng k 0 4 <;> cases probB m s <;> simp
  have hKn : s.length ^ k ≤ 10000 := by
    have h1 : s.length ^ k ≤ 10 ^ k := Nat.pow_le_pow_left (by omega) k
    have h2 : 10 ^ k ≤ 10 ^ 4 := Nat.pow_le_pow_right (by omega) hk
    omega
  (repeat (first | refine g1 ?_ | refine g2 ?_ | ((first | refine g3 ?_ | refine g4 ?_ | refine g5 ?_); try simp only [xq, simprocAttr]) | ((first | refine g6 ?_ | refine g7 ?_); simp only [xr, simprocAttr]; repeat (guard_target =~ _ ∧ _; refine ⟨by first | trivial | (unfold I64; omega) | omega | (simp <;> omega) | (intros; omega), ?_⟩))))
  (refine awp_frz 3 rfl ?_; simp only [xz, simprocAttr])
  refine awp_rounds (α := Nat) (fun j => [(13, true, .int j), (11, true, .sl (.ints (wkS (coW m s ws ns y) s.length k j).1)), (12, true, .int (wkS (coW m s ws ns y) s.length k j).2)]) [2, 3, 4, 5, 9] (fun _ => [.box [.b (.sl (.ii m)), .b (.sl (.ii s))], .box [.b (.sl (.ints ws)), .b (.sl (.iii ns))], .box [.b (.val (.int .i64 0)), .b (.val (.int .i64 0))], .gone]) (fun j => j ≤ s.length ^ k) (fun j => s.length ^ k - j) 0 (by ((try simp only [xk]); (repeat (refine leK_cons ?_ ?_; first | (focus (first | rfl | (simp only [xr, simprocAttr]; done) | (simp only [xr, simprocAttr]; refine int_eq1 ?_; first | trivial | (unfold I64; omega) | omega | (simp <;> omega) | (intros; omega)))) | rotate_left)); (refine leK_nil ?_; exact (by rfl)); (all_goals (try (simp only [xr, simprocAttr]; try refine int_eq1 ?_))))) (Nat.zero_le _) fun j hj => ?_
  simp only [xr, simprocAttr]
  (repeat (first | refine g1 ?_ | refine g2 ?_ | ((first | refine g3 ?_ | refine g4 ?_ | refine g5 ?_); try simp only [xq, simprocAttr]) | ((first | refine g6 ?_ | refine g7 ?_); simp only [xr, simprocAttr]; repeat (guard_target =~ _ ∧ _; refine ⟨by first | trivial | (unfold I64; omega) | omega | (simp <;> omega) | (intros; omega), ?_⟩))))
  ((try refine Or.inl ?_); refine ⟨_, (power_d s.length k (by omega) (by omega) hk), .inl rfl, ?_⟩; (try simp only [xr, simprocAttr]); repeat (guard_target =~ _ ∧ _; refine ⟨by first | trivial | (unfold I64; omega) | omega | (simp <;> omega) | (intros; omega), ?_⟩))
  (repeat (first | refine g1 ?_ | refine g2 ?_ | ((first | refine g3 ?_ | refine g4 ?_ | refine g5 ?_); try simp only [xq, simprocAttr]) | ((first | refine g6 ?_ | refine g7 ?_); simp only [xr, simprocAttr]; repeat (guard_target =~ _ ∧ _; refine ⟨by first | trivial | (unfold I64; omega) | omega | (simp <;> omega) | (intros; omega), ?_⟩))))
  refine awp_cond (by first | rfl | (simp only [xr, simprocAttr]; rfl)) (fun hd => ?_) (fun hd => ?_)
  · have hd := of_decide_eq_true hd
    have hj' : j < s.length ^ k := by omega
    (repeat (first | refine g1 ?_ | refine g2 ?_ | ((first | refine g3 ?_ | refine g4 ?_ | refine g5 ?_); try simp only [xq, simprocAttr]) | ((first | refine g6 ?_ | refine g7 ?_); simp only [xr, simprocAttr]; repeat (guard_target =~ _ ∧ _; refine ⟨by first | trivial | (unfold I64; omega) | omega | (simp <;> omega) | (intros; omega), ?_⟩))))
    ((try refine Or.inl ?_); refine ⟨_, (l11Sequence_d s.length k j (by omega) (by omega) hk (by omega)), .inr (by and_intros <;> first | rfl | (simp; done)), ?_⟩; (try simp only [xr, simprocAttr]); repeat (guard_target =~ _ ∧ _; refine ⟨by first | trivial | (unfold I64; omega) | omega | (simp <;> omega) | (intros; omega), ?_⟩))
    (repeat (first | refine g1 ?_ | refine g2 ?_ | ((first | refine g3 ?_ | refine g4 ?_ | refine g5 ?_); try simp only [xq, simprocAttr]) | ((first | refine g6 ?_ | refine g7 ?_); simp only [xr, simprocAttr]; repeat (guard_target =~ _ ∧ _; refine ⟨by first | trivial | (unfold I64; omega) | omega | (simp <;> omega) | (intros; omega), ?_⟩))))
    ((try refine Or.inl ?_); refine ⟨_, (l11Mean_d m s ws ns y (sq s.length k j) ho.mix ho.prob ho.lt (sq_reqs (by omega)) (by rw [sq_len]; omega)), .inr (by and_intros <;> first | rfl | (simp; done)), ?_⟩; (try simp only [xr, simprocAttr]); repeat (guard_target =~ _ ∧ _; refine ⟨by first | trivial | (unfold I64; omega) | omega | (simp <;> omega) | (intros; omega), ?_⟩))
    (repeat (first | refine g1 ?_ | refine g2 ?_ | ((first | refine g3 ?_ | refine g4 ?_ | refine g5 ?_); try simp only [xq, simprocAttr]) | ((first | refine g6 ?_ | refine g7 ?_); simp only [xr, simprocAttr]; repeat (guard_target =~ _ ∧ _; refine ⟨by first | trivial | (unfold I64; omega) | omega | (simp <;> omega) | (intros; omega), ?_⟩))))
    refine awp_cond (by first | rfl | (simp only [xr, simprocAttr]; rfl)) (fun he => ?_) (fun he => ?_)
    · have he := of_decide_eq_true he
      have hs : wkS (coW m s ws ns y) s.length k (j + 1) = (sq s.length k j, coW m s ws ns y (sq s.length k j)) := if_pos he
      (repeat (first | refine g1 ?_ | refine g2 ?_ | ((first | refine g3 ?_ | refine g4 ?_ | refine g5 ?_); try simp only [xq, simprocAttr]) | ((first | refine g6 ?_ | refine g7 ?_); simp only [xr, simprocAttr]; repeat (guard_target =~ _ ∧ _; refine ⟨by first | trivial | (unfold I64; omega) | omega | (simp <;> omega) | (intros; omega), ?_⟩))))
      refine ⟨j + 1, by omega, by omega, .inl ?_⟩
      rw [hs]
      ((try simp only [xk]); (repeat (refine leK_cons ?_ ?_; first | (focus (first | rfl | (simp only [xr, simprocAttr]; done) | (simp only [xr, simprocAttr]; refine int_eq1 ?_; first | trivial | (unfold I64; omega) | omega | (simp <;> omega) | (intros; omega)))) | rotate_left)); (refine leK_nil ?_; exact (by rfl)); (all_goals (try (simp only [xr, simprocAttr]; try refine int_eq1 ?_))))
    · have he := of_decide_eq_false he
      have hs : wkS (coW m s ws ns y) s.length k (j + 1) = wkS (coW m s ws ns y) s.length k j := if_neg he
      (repeat (first | refine g1 ?_ | refine g2 ?_ | ((first | refine g3 ?_ | refine g4 ?_ | refine g5 ?_); try simp only [xq, simprocAttr]) | ((first | refine g6 ?_ | refine g7 ?_); simp only [xr, simprocAttr]; repeat (guard_target =~ _ ∧ _; refine ⟨by first | trivial | (unfold I64; omega) | omega | (simp <;> omega) | (intros; omega), ?_⟩))))
      refine ⟨j + 1, by omega, by omega, .inl ?_⟩
      rw [hs]
      ((try simp only [xk]); (repeat (refine leK_cons ?_ ?_; first | (focus (first | rfl | (simp only [xr, simprocAttr]; done) | (simp only [xr, simprocAttr]; refine int_eq1 ?_; first | trivial | (unfold I64; omega) | omega | (simp <;> omega) | (intros; omega)))) | rotate_left)); (refine leK_nil ?_; exact (by rfl)); (all_goals (try (simp only [xr, simprocAttr]; try refine int_eq1 ?_))))
  · have hd := of_decide_eq_false hd
    obtain rfl : j = s.length ^ k := by omega
    (repeat (first | refine g1 ?_ | refine g2 ?_ | ((first | refine g3 ?_ | refine g4 ?_ | refine g5 ?_); try simp only [xq, simprocAttr]) | ((first | refine g6 ?_ | refine g7 ?_); simp only [xr, simprocAttr]; repeat (guard_target =~ _ ∧ _; refine ⟨by first | trivial | (unfold I64; omega) | omega | (simp <;> omega) | (intros; omega), ?_⟩))))
    ((try refine Or.inl ?_); refine ⟨_, (l11Sum_d ws ho.mix.fits), .inl rfl, ?_⟩; (try simp only [xr, simprocAttr]); repeat (guard_target =~ _ ∧ _; refine ⟨by first | trivial | (unfold I64; omega) | omega | (simp <;> omega) | (intros; omega), ?_⟩))
    (repeat (first | refine g1 ?_ | refine g2 ?_ | ((first | refine g3 ?_ | refine g4 ?_ | refine g5 ?_); try simp only [xq, simprocAttr]) | ((first | refine g6 ?_ | refine g7 ?_); simp only [xr, simprocAttr]; repeat (guard_target =~ _ ∧ _; refine ⟨by first | trivial | (unfold I64; omega) | omega | (simp <;> omega) | (intros; omega), ?_⟩))))
    ((try refine Or.inl ?_); refine ⟨_, (l2Make_d _ _ (by omega) (by omega) (by omega) (by omega)), .inl rfl, ?_⟩; (try simp only [xr, simprocAttr]); repeat (guard_target =~ _ ∧ _; refine ⟨by first | trivial | (unfold I64; omega) | omega | (simp <;> omega) | (intros; omega), ?_⟩))
    ((repeat (first | refine g1 ?_ | refine g2 ?_ | ((first | refine g3 ?_ | refine g4 ?_); try simp only [xq, simprocAttr]))); refine awp_anyM [2] 0 [] (by kernel_rfl) (by kernel_rfl) (by kernel_rfl) (by kernel_rfl) (by kernel_rfl) ?_; simp (maxSteps := 3000000) only [xr, simprocAttr]; repeat (guard_target =~ _ ∧ _; refine ⟨by first | trivial | (unfold I64; omega) | omega | (simp <;> omega) | (intros; omega), ?_⟩))
    (repeat (first | refine g1 ?_ | refine g2 ?_ | ((first | refine g3 ?_ | refine g4 ?_ | refine g5 ?_); try simp only [xq, simprocAttr]) | ((first | refine g6 ?_ | refine g7 ?_); simp only [xr, simprocAttr]; repeat (guard_target =~ _ ∧ _; refine ⟨by first | trivial | (unfold I64; omega) | omega | (simp <;> omega) | (intros; omega), ?_⟩))))
    (simp only [xec, simprocAttr]; refine ⟨[_, _, _], ⟨rfl, ⟨by simp only [xr, simprocAttr] <;> (and_intros <;> first | trivial | (unfold I64; omega) | omega | (simp <;> omega) | (intros; omega)), rfl⟩, rfl, trivial⟩, rfl, Imp.eq ?_⟩)
    rfl
theorem spec_WorstOfMixture_d (m s : List (List Int)) (ws : List Int) (ns : List (List (List Int))) (x n : Int) :
    Does Try.prog 8 [prA m s, mixA ws ns, .int x, .int n] (.imm (.tup [.one (.b (.sl (.ints (if woB m s ws ns x n = true then woV m s ws ns x n else [])))), frT (if woB m s ws ns x n = true then mkFr (woK m s ws ns x n).2 ws.sum else (0, 0)), blT (woB m s ws ns x n && mkOk (woK m s ws ns x n).2 ws.sum)])) := by
  have h := spec_WorstOfMixture_v m s ws ns x n
  cases hb : woB m s ws ns x n <;> rw [hb] at h <;> exact h
end Go.Proofs.Ytcidddfjimbkbaa
