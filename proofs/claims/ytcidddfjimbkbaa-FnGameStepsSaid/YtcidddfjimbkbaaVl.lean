/- The laws' small functions on choices, numbers and fractions, on the machine. Conditions: bytes are bytes. -/
import Derived.Test.YtcidddfjimbkbaaGCU
import Derived.Test.YtcidddfjimbkbaaME
import Derived.Test.YtcidddfjimbkbaaCost
set_option linter.all false
set_option linter.unusedSimpArgs false
set_option linter.unusedVariables false
namespace Go.Proofs.Ytcidddfjimbkbaa
open Go Go.RowKit Am

theorem vBig_d (bs : List Int) : Does Try.prog 5 [.lf (.b (.raw bs))] (.imm (.bool (decide (65536 < (bs.length : Int))))) := by
  refine spec_imm Try.func5 rfl Try.ntmps5 cfOK (fun _ _ => by kernel_rfl) rfl (Nat.le_of_ble_eq_true rfl) ?_
  intro M0 w0
  rw [Try.results5]
  (repeat (first | refine g1 ?_ | refine g2 ?_ | ((first | refine g3 ?_ | refine g4 ?_ | refine g5 ?_); try simp only [xq, simprocAttr]) | ((first | refine g6 ?_ | refine g7 ?_); simp only [xr, simprocAttr]; repeat (guard_target =~ _ ∧ _; refine ⟨by first | trivial | (unfold I64; omega) | omega | (simp <;> omega) | (intros; omega), ?_⟩))))
  (simp only [xe, simprocAttr]; refine ⟨_, rfl, rfl, Imp.eq ?_⟩)
  rfl
def vatV (bs : List Int) (i : Int) : Int := if i < bs.length then bs.getD i.toNat 0 else (i * 7 + bs.length) % 256
theorem vatV_rng {bs : List Int} (hb : ∀ b ∈ bs, 0 ≤ b ∧ b < 256) {i : Int} (hi : 0 ≤ i) : 0 ≤ vatV bs i ∧ vatV bs i < 256 := by
  unfold vatV
  split
  · have hlt : i.toNat < bs.length := by omega
    rw [List.getD_eq_getElem?_getD, List.getElem?_eq_getElem hlt]
    exact hb _ (List.getElem_mem hlt)
  · exact ⟨Int.emod_nonneg _ (by omega), Int.emod_lt_of_pos _ (by omega)⟩
theorem vAt_in (w : World) (ad : Addr) (n cap k : Nat) (b : Int) (hk : k < n) (hn : (n : Int) ≤ 9223372036854775807) (hb : w.cell? (ad.add k) = some (.int .u8 b)) (hb0 : 0 ≤ b) (hb1 : b < 256) : Calls Try.prog 11 #[.slice (some ad) n cap, .int .i64 k] w fun e w' => e = .returned (.int .i64 b) ∧ w = w' := by
  have hlt : decide ((k : Int) < n) = true := by simp; omega
  have hwb : wrap64 b = b := IntWalk.wrap64_in b ⟨by omega, by omega⟩
  go_enter Try.func11, Try.ntmps11
  go_wp2
  go_ret
  exact ⟨by simp [hwb], rfl⟩
theorem vAt_out (w : World) (A : Option Addr) (n cap : Nat) (k : Int) (hk : ¬ k < n) (hk0 : 0 ≤ k) (hk2 : k ≤ 1000000) (hn : (n : Int) ≤ 1000000) : Calls Try.prog 11 #[.slice A n cap, .int .i64 k] w fun e w' => e = .returned (.int .i64 ((k * 7 + n) % 256)) ∧ w = w' := by
  have hlt : decide (k < n) = false := by simp; omega
  go_enter Try.func11, Try.ntmps11
  go_wp2
  go_ret
  exact ⟨by simp, rfl⟩
theorem vAt_d {bs : List Int} (hb : ∀ b ∈ bs, 0 ≤ b ∧ b < 256) (hl : bs.length ≤ 65536) {i : Int} (hi : 0 ≤ i) (hi2 : i ≤ 1000000) : Does Try.prog 11 [.lf (.b (.raw bs)), .int i] (.imm (.int (vatV bs i))) := does_val (fun _ _ => by kernel_rfl) fun M w us hm ha => by
  obtain ⟨u, us', rfl, h1, h2⟩ := args_inv ha
  obtain ⟨u', us'', rfl, h3, h4⟩ := args_inv h2
  obtain rfl := args_inv0 h4
  obtain rfl : u' = .int .i64 i := h3
  obtain ⟨vs, ⟨A, cap, rfl, k1, k2, k3⟩, k4, k5⟩ : SB M u bs := h1
  by_cases hlt : i < bs.length
  · obtain ⟨k, rfl⟩ : ∃ k : Nat, i = k := ⟨i.toNat, by omega⟩
    have hk : k < bs.length := by omega
    obtain ⟨v, hv1, hv2⟩ := k5 k 0 hk (by omega)
    rw [Nat.mul_one, Nat.add_zero] at hv1
    obtain ⟨ad, rfl, hc⟩ := k3 (by rintro rfl; simp at hv1)
    have hvk := hc k (List.getElem?_eq_some_iff.1 hv1).1
    rw [(List.getElem?_eq_some_iff.1 hv1).2, hv2] at hvk
    have e : bs.getD k 0 = bs[k] := by rw [List.getD_eq_getElem?_getD, List.getElem?_eq_getElem hk]; rfl
    have hbk := hb _ (List.getElem_mem hk)
    rw [show vatV bs k = bs.getD k 0 by simp [vatV, hk]]
    exact (vAt_in w ad bs.length cap k _ hk (by omega) (hm _ _ hvk) (by rw [e]; exact hbk.1) (by rw [e]; exact hbk.2)).mono fun e w' ⟨h5, h6⟩ => ⟨h5, h6 ▸ Below.refl _ _⟩
  · rw [show vatV bs i = (i * 7 + bs.length) % 256 from if_neg hlt]
    exact (vAt_out w A bs.length cap i hlt hi hi2 (by omega)).mono fun e w' ⟨h5, h6⟩ => ⟨h5, h6 ▸ Below.refl _ _⟩
theorem vInts_d (xs ys : List Int) : Does Try.prog 9 [.sl (.ints xs), .sl (.ints ys)] (.imm (.bool (decide (xs = ys)))) := by
  refine spec_imm Try.func9 rfl Try.ntmps9 cfOK (fun _ _ => by kernel_rfl) rfl (Nat.le_of_ble_eq_true rfl) ?_
  intro M0 w0
  rw [Try.results9]
  (refine awp_fits 0 rfl fun hf1 => ?_; simp only [xp, simprocAttr] at hf1; simp only [xf, simprocAttr] at hf1)
  (refine awp_fits 1 rfl fun hf2 => ?_; simp only [xp, simprocAttr] at hf2; simp only [xf, simprocAttr] at hf2)
  (repeat (first | refine g1 ?_ | refine g2 ?_ | ((first | refine g3 ?_ | refine g4 ?_ | refine g5 ?_); try simp only [xq, simprocAttr]) | ((first | refine g6 ?_ | refine g7 ?_); simp only [xr, simprocAttr]; repeat (guard_target =~ _ ∧ _; refine ⟨by first | trivial | (unfold I64; omega) | omega | (simp <;> omega) | (intros; omega), ?_⟩))))
  refine awp_cond (by first | rfl | (simp only [xr, simprocAttr]; rfl)) (fun h1 => ?_) (fun h1 => ?_)
  · (repeat (first | refine g1 ?_ | refine g2 ?_ | ((first | refine g3 ?_ | refine g4 ?_ | refine g5 ?_); try simp only [xq, simprocAttr]) | ((first | refine g6 ?_ | refine g7 ?_); simp only [xr, simprocAttr]; repeat (guard_target =~ _ ∧ _; refine ⟨by first | trivial | (unfold I64; omega) | omega | (simp <;> omega) | (intros; omega), ?_⟩))))
    (simp only [xe, simprocAttr]; refine ⟨_, rfl, rfl, Imp.eq ?_⟩)
    have hne : xs ≠ ys := by rintro rfl; simp at h1
    rw [decide_eq_false hne]
  have hl : xs.length = ys.length := by simp at h1; omega
  (repeat (first | refine g1 ?_ | refine g2 ?_ | ((first | refine g3 ?_ | refine g4 ?_ | refine g5 ?_); try simp only [xq, simprocAttr]) | ((first | refine g6 ?_ | refine g7 ?_); simp only [xr, simprocAttr]; repeat (guard_target =~ _ ∧ _; refine ⟨by first | trivial | (unfold I64; omega) | omega | (simp <;> omega) | (intros; omega), ?_⟩))))
  refine awp_rounds (α := Nat) (fun k => [(5, true, .int k)]) [0, 1] (fun _ => []) (fun k => k ≤ xs.length ∧ xs.take k = ys.take k) (fun k => xs.length - k) 0 (by ((try simp only [xk]); (repeat (refine leK_cons ?_ ?_; first | (focus (first | rfl | (simp only [xr, simprocAttr]; done) | (simp only [xr, simprocAttr]; refine int_eq1 ?_; first | trivial | (unfold I64; omega) | omega | (simp <;> omega) | (intros; omega)))) | rotate_left)); (try exact leK_nil rfl); (all_goals (try (simp only [xr, simprocAttr]; try refine int_eq1 ?_))))) ⟨Nat.zero_le _, rfl⟩ fun k hk => ?_
  obtain ⟨hk, hk2⟩ := hk
  simp only [xr, simprocAttr]
  (repeat (first | refine g1 ?_ | refine g2 ?_ | ((first | refine g3 ?_ | refine g4 ?_ | refine g5 ?_); try simp only [xq, simprocAttr]) | ((first | refine g6 ?_ | refine g7 ?_); simp only [xr, simprocAttr]; repeat (guard_target =~ _ ∧ _; refine ⟨by first | trivial | (unfold I64; omega) | omega | (simp <;> omega) | (intros; omega), ?_⟩))))
  refine awp_cond (by first | rfl | (simp only [xr, simprocAttr]; rfl)) (fun h2 => ?_) (fun h2 => ?_)
  · have h2 := of_decide_eq_true h2
    have hx : k < xs.length := by omega
    have hy : k < ys.length := by omega
    (repeat (first | refine g1 ?_ | refine g2 ?_ | ((first | refine g3 ?_ | refine g4 ?_ | refine g5 ?_); try simp only [xq, simprocAttr]) | ((first | refine g6 ?_ | refine g7 ?_); simp only [xr, simprocAttr]; repeat (guard_target =~ _ ∧ _; refine ⟨by first | trivial | (unfold I64; omega) | omega | (simp <;> omega) | (intros; omega), ?_⟩))))
    refine awp_cond (by first | rfl | (simp only [xr, simprocAttr]; rfl)) (fun h3 => ?_) (fun h3 => ?_)
    · (repeat (first | refine g1 ?_ | refine g2 ?_ | ((first | refine g3 ?_ | refine g4 ?_ | refine g5 ?_); try simp only [xq, simprocAttr]) | ((first | refine g6 ?_ | refine g7 ?_); simp only [xr, simprocAttr]; repeat (guard_target =~ _ ∧ _; refine ⟨by first | trivial | (unfold I64; omega) | omega | (simp <;> omega) | (intros; omega), ?_⟩))))
      (simp only [xe, simprocAttr]; refine ⟨_, rfl, rfl, Imp.eq ?_⟩)
      have hne : xs ≠ ys := by rintro rfl; simp at h3
      rw [decide_eq_false hne]
    · have h3 : xs.getD k 0 = ys.getD k 0 := by simpa using h3
      (repeat (first | refine g1 ?_ | refine g2 ?_ | ((first | refine g3 ?_ | refine g4 ?_ | refine g5 ?_); try simp only [xq, simprocAttr]) | ((first | refine g6 ?_ | refine g7 ?_); simp only [xr, simprocAttr]; repeat (guard_target =~ _ ∧ _; refine ⟨by first | trivial | (unfold I64; omega) | omega | (simp <;> omega) | (intros; omega), ?_⟩))))
      refine ⟨k + 1, by omega, ?_, by omega, .inl ?_⟩
      · rw [List.take_succ_eq_append_getElem hx, List.take_succ_eq_append_getElem hy, hk2]
        rw [List.getD_eq_getElem?_getD, List.getD_eq_getElem?_getD, List.getElem?_eq_getElem hx, List.getElem?_eq_getElem hy] at h3
        simp only [Option.getD_some] at h3
        rw [h3]
      · ((try simp only [xk]); (repeat (refine leK_cons ?_ ?_; first | (focus (first | rfl | (simp only [xr, simprocAttr]; done) | (simp only [xr, simprocAttr]; refine int_eq1 ?_; first | trivial | (unfold I64; omega) | omega | (simp <;> omega) | (intros; omega)))) | rotate_left)); (try exact leK_nil rfl); (all_goals (try (simp only [xr, simprocAttr]; try refine int_eq1 ?_))))
  · have h2 := of_decide_eq_false h2
    obtain rfl : k = xs.length := by omega
    have he : xs = ys := by
      rw [List.take_length, hl, List.take_length] at hk2
      exact hk2
    (repeat (first | refine g1 ?_ | refine g2 ?_ | ((first | refine g3 ?_ | refine g4 ?_ | refine g5 ?_); try simp only [xq, simprocAttr]) | ((first | refine g6 ?_ | refine g7 ?_); simp only [xr, simprocAttr]; repeat (guard_target =~ _ ∧ _; refine ⟨by first | trivial | (unfold I64; omega) | omega | (simp <;> omega) | (intros; omega), ?_⟩))))
    (simp only [xe, simprocAttr]; refine ⟨_, rfl, rfl, Imp.eq ?_⟩)
    rw [decide_eq_true he]
end Go.Proofs.Ytcidddfjimbkbaa
