/- The worst sequence of a mixture: plain laws. Conditions: those that each names. -/
import Derived.Test.YtcidddfjimbkbaaWorstP
import Derived.Test.YtcidddfjimbkbaaFracP
import Derived.Test.YtcidddfjimbkbaaWorst
import Derived.Test.YtcidddfjimbkbaaVl
import Derived.Test.YtcidddfjimbkbaaGWD
set_option linter.all false
set_option linter.unusedSimpArgs false
set_option linter.unusedVariables false
namespace Go.Proofs.Ytcidddfjimbkbaa

theorem fr_le {a b t : Int} (ht : 0 < t) (hab : a ≤ b) : qN a t * qD b t ≤ qN b t * qD a t := by
  have a1 := qN_val (n := a) ht
  have a2 := qD_val (n := a) ht
  have b1 := qN_val (n := b) ht
  have b2 := qD_val (n := b) ht
  have ga := gcd_pos a t ht
  have gb := gcd_pos b t ht
  generalize (Int.gcd a t : Int) = x at *
  generalize (Int.gcd b t : Int) = y at *
  have hxy : 0 < x * y := Int.mul_pos ga gb
  refine Int.le_of_mul_le_mul_right (a := x * y) ?_ hxy
  have e1 : qN a t * qD b t * (x * y) = a * t := by
    rw [show qN a t * qD b t * (x * y) = (qN a t * x) * (qD b t * y) by grind, a1, b2]
  have e2 : qN b t * qD a t * (x * y) = b * t := by
    rw [show qN b t * qD a t * (x * y) = (qN b t * y) * (qD a t * x) by grind, b1, a2]
  rw [e1, e2]
  exact Int.mul_le_mul_of_nonneg_right hab (Int.le_of_lt ht)
/-- what is best is one of the sequences, with its cost -/
theorem wkS_hit {c : List Int → Int} {b n : Nat} (hc : ∀ k, k < b ^ n → 0 ≤ c (sq b n k)) : ∀ k, k < b ^ n → ∃ j, j ≤ k ∧ (wkS c b n (k + 1)).1 = sq b n j ∧ (wkS c b n (k + 1)).2 = c (sq b n j)
  | 0, h => by
    have h1 := hc 0 h
    have h2 : (wkS c b n 0).2 = -1 := rfl
    refine ⟨0, Nat.le_refl _, ?_⟩
    rw [wkS, if_pos (by omega)]
    exact ⟨rfl, rfl⟩
  | k + 1, h => by
    rw [wkS]
    split
    · exact ⟨k + 1, Nat.le_refl _, rfl, rfl⟩
    · obtain ⟨j, h1, h2⟩ := wkS_hit hc k (by omega)
      exact ⟨j, by omega, h2⟩
theorem wkS_max {c : List Int → Int} {b n : Nat} : ∀ k j, j < k → c (sq b n j) ≤ (wkS c b n k).2
  | 0, j, h => by omega
  | k + 1, j, h => by
    have ih := fun h' => wkS_max (c := c) (b := b) (n := n) k j h'
    rw [wkS]
    split
    · rename_i hlt
      rcases Nat.lt_or_ge j k with h' | h'
      · have := ih h'; dsimp only; omega
      · obtain rfl : j = k := by omega
        exact Int.le_refl _
    · rename_i hlt
      rcases Nat.lt_or_ge j k with h' | h'
      · exact ih h'
      · obtain rfl : j = k := by omega
        omega
/-- each sequence is one of them -/
theorem sq_all {b : Nat} (hb : 1 ≤ b) : ∀ xs : List Int, (∀ x ∈ xs, 0 ≤ x ∧ x < b) → ∃ j, j < b ^ xs.length ∧ sq b xs.length j = xs
  | [], _ => ⟨0, by simp, by simp [sq]⟩
  | x :: xs, h => by
    obtain ⟨j, h1, h2⟩ := sq_all hb xs fun y hy => h y (by simp [hy])
    obtain ⟨h3, h4⟩ := h x (by simp)
    have hp : 0 < b ^ xs.length := Nat.pow_pos (by omega)
    have hx : x.toNat < b := by omega
    refine ⟨x.toNat * b ^ xs.length + j, ?_, ?_⟩
    · have : (x.toNat + 1) * b ^ xs.length ≤ b * b ^ xs.length := Nat.mul_le_mul_right _ (by omega)
      rw [List.length_cons, Nat.pow_succ, Nat.mul_comm (b ^ xs.length) b]
      rw [Nat.add_mul, Nat.one_mul] at this
      omega
    · rw [List.length_cons, sq_cons hb hx h1, h2, Int.toNat_of_nonneg h3]
end Go.Proofs.Ytcidddfjimbkbaa
/- The law on worst sequences of mixtures, on the machine. Conditions: bytes are bytes. -/
set_option linter.all false
set_option linter.unusedSimpArgs false
set_option linter.unusedVariables false
namespace Go.Proofs.Ytcidddfjimbkbaa
open Go Go.RowKit Am

theorem vAtMost_d (a b : Int × Int) (ha : -100000000 ≤ a.1 ∧ a.1 ≤ 100000000 ∧ 0 ≤ a.2 ∧ a.2 ≤ 100000) (hb : -100000000 ≤ b.1 ∧ b.1 ≤ 100000000 ∧ 0 ≤ b.2 ∧ b.2 ≤ 100000) : Does Try.prog 12 [.tv (frT a), .tv (frT b)] (.imm (.bool (decide (a.1 * b.2 ≤ b.1 * a.2)))) := by
  have h1 := mul_bd (x := a.1) (y := b.2) (X := 100000000) (Y := 100000) (by omega) (by omega)
  have h2 := mul_bd (x := b.1) (y := a.2) (X := 100000000) (Y := 100000) (by omega) (by omega)
  have i1 : I64 (a.1 * b.2) := ⟨by omega, by omega⟩
  have i2 : I64 (b.1 * a.2) := ⟨by omega, by omega⟩
  refine spec_imm Try.func12 rfl Try.ntmps12 cfOK (fun _ _ => by kernel_rfl) rfl (Nat.le_of_ble_eq_true rfl) ?_
  intro M0 w0
  rw [Try.results12]
  (repeat (first | refine g1 ?_ | refine g2 ?_ | ((first | refine g3 ?_ | refine g4 ?_ | refine g5 ?_); try simp only [xq, simprocAttr]) | ((first | refine g6 ?_ | refine g7 ?_); simp only [xr, simprocAttr]; repeat (guard_target =~ _ ∧ _; refine ⟨by first | trivial | (unfold I64; omega) | omega | (simp <;> omega) | (intros; omega), ?_⟩))))
  (simp only [xe, simprocAttr]; refine ⟨_, rfl, rfl, Imp.eq ?_⟩)
  rfl
/-- the first k numbers of the other sequence -/
def othV (bs : List Int) (b : Nat) : Nat → List Int
  | 0 => []
  | k + 1 => othV bs b k ++ [vatV bs (11 + k) % b]
theorem othV_len (bs : List Int) (b : Nat) : ∀ k, (othV bs b k).length = k
  | 0 => rfl
  | k + 1 => by simp [othV, othV_len bs b k]
theorem othV_mem {bs : List Int} (hb : ∀ b ∈ bs, 0 ≤ b ∧ b < 256) {b : Nat} (h1 : 1 ≤ b) : ∀ k, ∀ x ∈ othV bs b k, 0 ≤ x ∧ x < b
  | 0, x, hx => by simp [othV] at hx
  | k + 1, x, hx => by
    simp only [othV, List.mem_append, List.mem_singleton] at hx
    rcases hx with hx | rfl
    · exact othV_mem hb h1 k x hx
    · exact ⟨Int.emod_nonneg _ (by omega), Int.emod_lt_of_pos _ (by omega)⟩
section
variable {bs : List Int} {m s : List (List Int)} {w : List Int} {X : List (List (List Int))} {x : Int}
theorem walk_bad {l : Int} (hsm : ¬ 65536 < (bs.length : Int)) (hD : Does Try.prog 6 [.lf (.b (.raw bs))] (.imm (.tup [.agg [.b (.sl (.ii m)), .b (.sl (.ii s))], .agg [.b (.sl (.ints w)), .b (.sl (.iii X))], .one (.b (.val (.int .i64 x))), .one (.b (.val (.int .i64 l)))])))
    (hI : Does Try.prog 7 [prA m s, mixA w X, .int x, .int l] (.imm (.tup [.one (.b (.val (.slice none 0 0))), frT (0, 0), blT false])))
    (hS : Does Try.prog 8 [prA m s, mixA w X, .int x, .int l] (.imm (.tup [.one (.b (.sl (.ints []))), frT (0, 0), blT false]))) : Does Try.prog 3 [.lf (.b (.raw bs))] (.imm (.bool true)) := by
  have hv : Does Try.prog 9 [.val (.slice none 0 0), .sl (.ints [])] (.imm (.bool (decide (([] : List Int) = [])))) := Does.args (vInts_d [] []) fun M us h => by
    obtain ⟨u, us', rfl, h1, h2⟩ := args_inv h
    exact args_cons (nil_ints h1) h2
  refine spec_imm Try.func3 rfl Try.ntmps3 cfOK (fun _ _ => by kernel_rfl) rfl (Nat.le_of_ble_eq_true rfl) ?_
  intro M0 w0
  rw [Try.results3]
  (repeat (first | refine g1 ?_ | refine g2 ?_ | ((first | refine g3 ?_ | refine g4 ?_ | refine g5 ?_); try simp only [xq, simprocAttr]) | ((first | refine g6 ?_ | refine g7 ?_); simp only [xr, simprocAttr]; repeat (guard_target =~ _ ∧ _; refine ⟨by first | trivial | (unfold I64; omega) | omega | (simp <;> omega) | (intros; omega), ?_⟩))))
  ((try refine Or.inl ?_); refine ⟨_, (vBig_d bs), .inl rfl, ?_⟩; (try simp only [xr, simprocAttr]); repeat (guard_target =~ _ ∧ _; refine ⟨by first | trivial | (unfold I64; omega) | omega | (simp <;> omega) | (intros; omega), ?_⟩))
  (repeat (first | refine g1 ?_ | refine g2 ?_ | ((first | refine g3 ?_ | refine g4 ?_ | refine g5 ?_); try simp only [xq, simprocAttr]) | ((first | refine g6 ?_ | refine g7 ?_); simp only [xr, simprocAttr]; repeat (guard_target =~ _ ∧ _; refine ⟨by first | trivial | (unfold I64; omega) | omega | (simp <;> omega) | (intros; omega), ?_⟩))))
  refine awp_cond (by first | rfl | (simp only [xr, simprocAttr]; rfl)) (fun h0 => ?_) (fun h0 => ?_)
  · simp at h0; omega
  (repeat (first | refine g1 ?_ | refine g2 ?_ | ((first | refine g3 ?_ | refine g4 ?_ | refine g5 ?_); try simp only [xq, simprocAttr]) | ((first | refine g6 ?_ | refine g7 ?_); simp only [xr, simprocAttr]; repeat (guard_target =~ _ ∧ _; refine ⟨by first | trivial | (unfold I64; omega) | omega | (simp <;> omega) | (intros; omega), ?_⟩))))
  ((try refine Or.inl ?_); refine ⟨_, (hD), .inr (by and_intros <;> first | rfl | (simp; done)), ?_⟩; (try simp only [xr, simprocAttr]); repeat (guard_target =~ _ ∧ _; refine ⟨by first | trivial | (unfold I64; omega) | omega | (simp <;> omega) | (intros; omega), ?_⟩))
  (repeat (first | refine g1 ?_ | refine g2 ?_ | ((first | refine g3 ?_ | refine g4 ?_ | refine g5 ?_); try simp only [xq, simprocAttr]) | ((first | refine g6 ?_ | refine g7 ?_); simp only [xr, simprocAttr]; repeat (guard_target =~ _ ∧ _; refine ⟨by first | trivial | (unfold I64; omega) | omega | (simp <;> omega) | (intros; omega), ?_⟩))))
  ((try refine Or.inl ?_); refine ⟨_, (hI), .inr (by and_intros <;> first | rfl | (simp; done)), ?_⟩; (try simp only [xr, simprocAttr]); repeat (guard_target =~ _ ∧ _; refine ⟨by first | trivial | (unfold I64; omega) | omega | (simp <;> omega) | (intros; omega), ?_⟩))
  (repeat (first | refine g1 ?_ | refine g2 ?_ | ((first | refine g3 ?_ | refine g4 ?_ | refine g5 ?_); try simp only [xq, simprocAttr]) | ((first | refine g6 ?_ | refine g7 ?_); simp only [xr, simprocAttr]; repeat (guard_target =~ _ ∧ _; refine ⟨by first | trivial | (unfold I64; omega) | omega | (simp <;> omega) | (intros; omega), ?_⟩))))
  ((try refine Or.inl ?_); refine ⟨_, (hS), .inr (by and_intros <;> first | rfl | (simp; done)), ?_⟩; (try simp only [xr, simprocAttr]); repeat (guard_target =~ _ ∧ _; refine ⟨by first | trivial | (unfold I64; omega) | omega | (simp <;> omega) | (intros; omega), ?_⟩))
  (repeat (first | refine g1 ?_ | refine g2 ?_ | ((first | refine g3 ?_ | refine g4 ?_ | refine g5 ?_); try simp only [xq, simprocAttr]) | ((first | refine g6 ?_ | refine g7 ?_); simp only [xr, simprocAttr]; repeat (guard_target =~ _ ∧ _; refine ⟨by first | trivial | (unfold I64; omega) | omega | (simp <;> omega) | (intros; omega), ?_⟩))))
  ((try refine Or.inl ?_); refine ⟨_, (fun _ => hv), .inr (by and_intros <;> first | rfl | (simp; done)), ?_⟩; (try simp only [xr, simprocAttr]); repeat (guard_target =~ _ ∧ _; refine ⟨by first | trivial | (unfold I64; omega) | omega | (simp <;> omega) | (intros; omega), ?_⟩))
  (repeat (first | refine g1 ?_ | refine g2 ?_ | ((first | refine g3 ?_ | refine g4 ?_ | refine g5 ?_); try simp only [xq, simprocAttr]) | ((first | refine g6 ?_ | refine g7 ?_); simp only [xr, simprocAttr]; repeat (guard_target =~ _ ∧ _; refine ⟨by first | trivial | (unfold I64; omega) | omega | (simp <;> omega) | (intros; omega), ?_⟩))))
  refine awp_cond (by first | rfl | (simp only [xr, simprocAttr]; rfl)) (fun h1 => ?_) (fun h1 => ?_)
  · simp at h1
  (repeat (first | refine g1 ?_ | refine g2 ?_ | ((first | refine g3 ?_ | refine g4 ?_ | refine g5 ?_); try simp only [xq, simprocAttr]) | ((first | refine g6 ?_ | refine g7 ?_); simp only [xr, simprocAttr]; repeat (guard_target =~ _ ∧ _; refine ⟨by first | trivial | (unfold I64; omega) | omega | (simp <;> omega) | (intros; omega), ?_⟩))))
  refine awp_cond (by first | rfl | (simp only [xr, simprocAttr]; rfl)) (fun h2 => ?_) (fun h2 => ?_)
  · (repeat (first | refine g1 ?_ | refine g2 ?_ | ((first | refine g3 ?_ | refine g4 ?_ | refine g5 ?_); try simp only [xq, simprocAttr]) | ((first | refine g6 ?_ | refine g7 ?_); simp only [xr, simprocAttr]; repeat (guard_target =~ _ ∧ _; refine ⟨by first | trivial | (unfold I64; omega) | omega | (simp <;> omega) | (intros; omega), ?_⟩))))
    (simp only [xe, simprocAttr]; refine ⟨_, rfl, rfl, Imp.eq ?_⟩)
    rfl
  · simp at h2
set_option maxHeartbeats 2000000 in
theorem walk_good {n : Nat} {W : List Int} {F G : Int × Int} (hb : ∀ b ∈ bs, 0 ≤ b ∧ b < 256) (hsm : ¬ 65536 < (bs.length : Int)) (hs1 : 1 ≤ s.length) (hs2 : s.length ≤ 16) (hn : n ≤ 4) (hW : W.length = n) (hD : Does Try.prog 6 [.lf (.b (.raw bs))] (.imm (.tup [.agg [.b (.sl (.ii m)), .b (.sl (.ii s))], .agg [.b (.sl (.ints w)), .b (.sl (.iii X))], .one (.b (.val (.int .i64 x))), .one (.b (.val (.int .i64 n)))])))
    (hI : Does Try.prog 7 [prA m s, mixA w X, .int x, .int n] (.imm (.tup [.one (.b (.sl (.ints W))), frT F, blT true])))
    (hS : Does Try.prog 8 [prA m s, mixA w X, .int x, .int n] (.imm (.tup [.one (.b (.sl (.ints W))), frT F, blT true])))
    (hC1 : Does Try.prog 10 [prA m s, mixA w X, .int x, .sl (.ints W)] (.imm (.tup [frT F, blT true])))
    (hC2 : Does Try.prog 10 [prA m s, mixA w X, .int x, .sl (.ints (othV bs s.length n))] (.imm (.tup [frT G, blT true])))
    (hF : -100000000 ≤ F.1 ∧ F.1 ≤ 100000000 ∧ 0 ≤ F.2 ∧ F.2 ≤ 100000) (hG : -100000000 ≤ G.1 ∧ G.1 ≤ 100000000 ∧ 0 ≤ G.2 ∧ G.2 ≤ 100000) (hle : G.1 * F.2 ≤ F.1 * G.2) : Does Try.prog 3 [.lf (.b (.raw bs))] (.imm (.bool true)) := by
  refine spec_imm Try.func3 rfl Try.ntmps3 cfOK (fun _ _ => by kernel_rfl) rfl (Nat.le_of_ble_eq_true rfl) ?_
  intro M0 w0
  rw [Try.results3]
  (repeat (first | refine g1 ?_ | refine g2 ?_ | ((first | refine g3 ?_ | refine g4 ?_ | refine g5 ?_); try simp only [xq, simprocAttr]) | ((first | refine g6 ?_ | refine g7 ?_); simp only [xr, simprocAttr]; repeat (guard_target =~ _ ∧ _; refine ⟨by first | trivial | (unfold I64; omega) | omega | (simp <;> omega) | (intros; omega), ?_⟩))))
  ((try refine Or.inl ?_); refine ⟨_, (vBig_d bs), .inl rfl, ?_⟩; (try simp only [xr, simprocAttr]); repeat (guard_target =~ _ ∧ _; refine ⟨by first | trivial | (unfold I64; omega) | omega | (simp <;> omega) | (intros; omega), ?_⟩))
  (repeat (first | refine g1 ?_ | refine g2 ?_ | ((first | refine g3 ?_ | refine g4 ?_ | refine g5 ?_); try simp only [xq, simprocAttr]) | ((first | refine g6 ?_ | refine g7 ?_); simp only [xr, simprocAttr]; repeat (guard_target =~ _ ∧ _; refine ⟨by first | trivial | (unfold I64; omega) | omega | (simp <;> omega) | (intros; omega), ?_⟩))))
  refine awp_cond (by first | rfl | (simp only [xr, simprocAttr]; rfl)) (fun h0 => ?_) (fun h0 => ?_)
  · simp at h0; omega
  (repeat (first | refine g1 ?_ | refine g2 ?_ | ((first | refine g3 ?_ | refine g4 ?_ | refine g5 ?_); try simp only [xq, simprocAttr]) | ((first | refine g6 ?_ | refine g7 ?_); simp only [xr, simprocAttr]; repeat (guard_target =~ _ ∧ _; refine ⟨by first | trivial | (unfold I64; omega) | omega | (simp <;> omega) | (intros; omega), ?_⟩))))
  ((try refine Or.inl ?_); refine ⟨_, (hD), .inr (by and_intros <;> first | rfl | (simp; done)), ?_⟩; (try simp only [xr, simprocAttr]); repeat (guard_target =~ _ ∧ _; refine ⟨by first | trivial | (unfold I64; omega) | omega | (simp <;> omega) | (intros; omega), ?_⟩))
  (repeat (first | refine g1 ?_ | refine g2 ?_ | ((first | refine g3 ?_ | refine g4 ?_ | refine g5 ?_); try simp only [xq, simprocAttr]) | ((first | refine g6 ?_ | refine g7 ?_); simp only [xr, simprocAttr]; repeat (guard_target =~ _ ∧ _; refine ⟨by first | trivial | (unfold I64; omega) | omega | (simp <;> omega) | (intros; omega), ?_⟩))))
  ((try refine Or.inl ?_); refine ⟨_, (hI), .inr (by and_intros <;> first | rfl | (simp; done)), ?_⟩; (try simp only [xr, simprocAttr]); repeat (guard_target =~ _ ∧ _; refine ⟨by first | trivial | (unfold I64; omega) | omega | (simp <;> omega) | (intros; omega), ?_⟩))
  (repeat (first | refine g1 ?_ | refine g2 ?_ | ((first | refine g3 ?_ | refine g4 ?_ | refine g5 ?_); try simp only [xq, simprocAttr]) | ((first | refine g6 ?_ | refine g7 ?_); simp only [xr, simprocAttr]; repeat (guard_target =~ _ ∧ _; refine ⟨by first | trivial | (unfold I64; omega) | omega | (simp <;> omega) | (intros; omega), ?_⟩))))
  ((try refine Or.inl ?_); refine ⟨_, (hS), .inr (by and_intros <;> first | rfl | (simp; done)), ?_⟩; (try simp only [xr, simprocAttr]); repeat (guard_target =~ _ ∧ _; refine ⟨by first | trivial | (unfold I64; omega) | omega | (simp <;> omega) | (intros; omega), ?_⟩))
  (repeat (first | refine g1 ?_ | refine g2 ?_ | ((first | refine g3 ?_ | refine g4 ?_ | refine g5 ?_); try simp only [xq, simprocAttr]) | ((first | refine g6 ?_ | refine g7 ?_); simp only [xr, simprocAttr]; repeat (guard_target =~ _ ∧ _; refine ⟨by first | trivial | (unfold I64; omega) | omega | (simp <;> omega) | (intros; omega), ?_⟩))))
  ((try refine Or.inl ?_); refine ⟨_, (fun _ => vInts_d W W), .inr (by and_intros <;> first | rfl | (simp; done)), ?_⟩; (try simp only [xr, simprocAttr]); repeat (guard_target =~ _ ∧ _; refine ⟨by first | trivial | (unfold I64; omega) | omega | (simp <;> omega) | (intros; omega), ?_⟩))
  (repeat (first | refine g1 ?_ | refine g2 ?_ | ((first | refine g3 ?_ | refine g4 ?_ | refine g5 ?_); try simp only [xq, simprocAttr]) | ((first | refine g6 ?_ | refine g7 ?_); simp only [xr, simprocAttr]; repeat (guard_target =~ _ ∧ _; refine ⟨by first | trivial | (unfold I64; omega) | omega | (simp <;> omega) | (intros; omega), ?_⟩))))
  refine awp_cond (by first | rfl | (simp only [xr, simprocAttr]; rfl)) (fun h1 => ?_) (fun h1 => ?_)
  · simp at h1
  (repeat (first | refine g1 ?_ | refine g2 ?_ | ((first | refine g3 ?_ | refine g4 ?_ | refine g5 ?_); try simp only [xq, simprocAttr]) | ((first | refine g6 ?_ | refine g7 ?_); simp only [xr, simprocAttr]; repeat (guard_target =~ _ ∧ _; refine ⟨by first | trivial | (unfold I64; omega) | omega | (simp <;> omega) | (intros; omega), ?_⟩))))
  refine awp_cond (by first | rfl | (simp only [xr, simprocAttr]; rfl)) (fun h2 => ?_) (fun h2 => ?_)
  · simp at h2
  (repeat (first | refine g1 ?_ | refine g2 ?_ | ((first | refine g3 ?_ | refine g4 ?_ | refine g5 ?_); try simp only [xq, simprocAttr]) | ((first | refine g6 ?_ | refine g7 ?_); simp only [xr, simprocAttr]; repeat (guard_target =~ _ ∧ _; refine ⟨by first | trivial | (unfold I64; omega) | omega | (simp <;> omega) | (intros; omega), ?_⟩))))
  ((try refine Or.inl ?_); refine ⟨_, (hC1), .inr (by and_intros <;> first | rfl | (simp; done)), ?_⟩; (try simp only [xr, simprocAttr]); repeat (guard_target =~ _ ∧ _; refine ⟨by first | trivial | (unfold I64; omega) | omega | (simp <;> omega) | (intros; omega), ?_⟩))
  (repeat (first | refine g1 ?_ | refine g2 ?_ | ((first | refine g3 ?_ | refine g4 ?_ | refine g5 ?_); try simp only [xq, simprocAttr]) | ((first | refine g6 ?_ | refine g7 ?_); simp only [xr, simprocAttr]; repeat (guard_target =~ _ ∧ _; refine ⟨by first | trivial | (unfold I64; omega) | omega | (simp <;> omega) | (intros; omega), ?_⟩))))
  refine awp_rounds (α := Nat) (fun k => [(16, true, .int k)]) [0, 3, 4, 5, 6, 7, 8, 13, 14, 15] (fun k => [.box [.b (.sl (.ii m)), .b (.sl (.ii s))], .box [.b (.sl (.ints w)), .b (.sl (.iii X))], .box [.b (.val (.int .i64 F.1)), .b (.val (.int .i64 F.2))], .box [.b (.val (.int .i64 F.1)), .b (.val (.int .i64 F.2))], .box [.b (.val (.int .i64 F.1)), .b (.val (.int .i64 F.2))], .row 3 (.ints (othV bs s.length k))]) (fun k => k ≤ n) (fun k => n - k) 0 (by ((try simp only [xk]); (repeat (refine leK_cons ?_ ?_; first | (focus (first | rfl | (simp only [xr, simprocAttr]; done) | (simp only [xr, simprocAttr]; refine int_eq1 ?_; first | trivial | (unfold I64; omega) | omega | (simp <;> omega) | (intros; omega)))) | rotate_left)); (try exact leK_nil rfl); (all_goals (try (simp only [xr, simprocAttr]; try refine int_eq1 ?_))))) (Nat.zero_le _) fun k hk => ?_
  have hol := othV_len bs s.length k
  obtain ⟨q1, q2⟩ := vatV_rng hb (i := 11 + k) (by omega)
  simp only [xr, simprocAttr]
  (repeat (first | refine g1 ?_ | refine g2 ?_ | ((first | refine g3 ?_ | refine g4 ?_ | refine g5 ?_); try simp only [xq, simprocAttr]) | ((first | refine g6 ?_ | refine g7 ?_); simp only [xr, simprocAttr]; repeat (guard_target =~ _ ∧ _; refine ⟨by first | trivial | (unfold I64; omega) | omega | (simp <;> omega) | (intros; omega), ?_⟩))))
  refine awp_cond (by first | rfl | (simp only [xr, simprocAttr]; rfl)) (fun h3 => ?_) (fun h3 => ?_)
  · have h3 := of_decide_eq_true h3
    ((repeat (first | refine g1 ?_ | refine g2 ?_ | ((first | refine g3 ?_ | refine g4 ?_); try simp only [xq, simprocAttr]))); refine awp_anyG 1 [(10, [6, 5])] [6, 5] [(0, [6]), (10, []), (11, [5])] ?_; simp (maxSteps := 3000000) only [xg, xr, simprocAttr]; repeat (guard_target =~ _ ∧ _; refine ⟨by first | (guard_target =~ _ = _; rfl) | (guard_target =~ (_ : Int) ≤ _; omega) | (first | trivial | (unfold I64; omega) | omega | (simp <;> omega) | (intros; omega)), ?_⟩))
    ((try refine Or.inl ?_); refine ⟨_, (vAt_d hb (by omega) (by omega) (by omega)), .inr (by and_intros <;> first | rfl | (simp; done)), ?_⟩; (try simp (maxSteps := 3000000) only [xg, xr, simprocAttr]); repeat (guard_target =~ _ ∧ _; refine ⟨by first | (guard_target =~ _ = _; rfl) | (guard_target =~ (_ : Int) ≤ _; omega) | (first | trivial | (unfold I64; omega) | omega | (simp <;> omega) | (intros; omega)), ?_⟩))
    (refine awp_mv 5 6 rfl rfl (by decide) rfl rfl ?_; simp only [xm, simprocAttr])
    (repeat (first | refine g1 ?_ | refine g2 ?_ | ((first | refine g3 ?_ | refine g4 ?_ | refine g5 ?_); try simp only [xq, simprocAttr]) | ((first | refine g6 ?_ | refine g7 ?_); simp only [xr, simprocAttr]; repeat (guard_target =~ _ ∧ _; refine ⟨by first | trivial | (unfold I64; omega) | omega | (simp <;> omega) | (intros; omega), ?_⟩))))
    refine ⟨k + 1, by omega, by omega, .inr ⟨6, Nat.le_of_ble_eq_true rfl, leT_of ?_ rfl rfl rfl⟩⟩
    ((try simp only [xk]); (repeat (refine leK_cons ?_ ?_; first | (focus (first | rfl | (simp only [xr, simprocAttr]; done) | (simp only [xr, simprocAttr]; refine int_eq1 ?_; first | trivial | (unfold I64; omega) | omega | (simp <;> omega) | (intros; omega)))) | rotate_left)); (refine leK_nil ?_; exact (rfl)); (all_goals (try (simp only [xr, simprocAttr]; try refine int_eq1 ?_))))
  · have h3 := of_decide_eq_false h3
    obtain rfl : k = n := by omega
    (repeat (first | refine g1 ?_ | refine g2 ?_ | ((first | refine g3 ?_ | refine g4 ?_ | refine g5 ?_); try simp only [xq, simprocAttr]) | ((first | refine g6 ?_ | refine g7 ?_); simp only [xr, simprocAttr]; repeat (guard_target =~ _ ∧ _; refine ⟨by first | trivial | (unfold I64; omega) | omega | (simp <;> omega) | (intros; omega), ?_⟩))))
    ((try refine Or.inl ?_); refine ⟨_, (hC2), .inl rfl, ?_⟩; (try simp only [xr, simprocAttr]); repeat (guard_target =~ _ ∧ _; refine ⟨by first | trivial | (unfold I64; omega) | omega | (simp <;> omega) | (intros; omega), ?_⟩))
    (repeat (first | refine g1 ?_ | refine g2 ?_ | ((first | refine g3 ?_ | refine g4 ?_ | refine g5 ?_); try simp only [xq, simprocAttr]) | ((first | refine g6 ?_ | refine g7 ?_); simp only [xr, simprocAttr]; repeat (guard_target =~ _ ∧ _; refine ⟨by first | trivial | (unfold I64; omega) | omega | (simp <;> omega) | (intros; omega), ?_⟩))))
    ((try refine Or.inl ?_); refine ⟨_, (fun _ => vAtMost_d G F hG hF), .inr (by and_intros <;> first | rfl | (simp; done)), ?_⟩; (try simp only [xr, simprocAttr]); repeat (guard_target =~ _ ∧ _; refine ⟨by first | trivial | (unfold I64; omega) | omega | (simp <;> omega) | (intros; omega), ?_⟩))
    (repeat (first | refine g1 ?_ | refine g2 ?_ | ((first | refine g3 ?_ | refine g4 ?_ | refine g5 ?_); try simp only [xq, simprocAttr]) | ((first | refine g6 ?_ | refine g7 ?_); simp only [xr, simprocAttr]; repeat (guard_target =~ _ ∧ _; refine ⟨by first | trivial | (unfold I64; omega) | omega | (simp <;> omega) | (intros; omega), ?_⟩))))
    (simp only [xe, simprocAttr]; refine ⟨_, rfl, rfl, Imp.eq ?_⟩)
    simp [hW, hle]
end
end Go.Proofs.Ytcidddfjimbkbaa
/- For all choices the law on worst sequences of mixtures returns true, on the machine. Conditions: bytes are bytes. -/
set_option linter.all false
set_option linter.unusedSimpArgs false
set_option linter.unusedVariables false
namespace Go.Proofs.Ytcidddfjimbkbaa
open Go Go.RowKit Am

theorem walk_big {bs : List Int} (h : 65536 < (bs.length : Int)) : Does Try.prog 3 [.lf (.b (.raw bs))] (.imm (.bool true)) := by
  refine spec_imm Try.func3 rfl Try.ntmps3 cfOK (fun _ _ => by kernel_rfl) rfl (Nat.le_of_ble_eq_true rfl) ?_
  intro M0 w0
  rw [Try.results3]
  (repeat (first | refine g1 ?_ | refine g2 ?_ | ((first | refine g3 ?_ | refine g4 ?_ | refine g5 ?_); try simp only [xq, simprocAttr]) | ((first | refine g6 ?_ | refine g7 ?_); simp only [xr, simprocAttr]; repeat (guard_target =~ _ ∧ _; refine ⟨by first | trivial | (unfold I64; omega) | omega | (simp <;> omega) | (intros; omega), ?_⟩))))
  ((try refine Or.inl ?_); refine ⟨_, (vBig_d bs), .inl rfl, ?_⟩; (try simp only [xr, simprocAttr]); repeat (guard_target =~ _ ∧ _; refine ⟨by first | trivial | (unfold I64; omega) | omega | (simp <;> omega) | (intros; omega), ?_⟩))
  (repeat (first | refine g1 ?_ | refine g2 ?_ | ((first | refine g3 ?_ | refine g4 ?_ | refine g5 ?_); try simp only [xq, simprocAttr]) | ((first | refine g6 ?_ | refine g7 ?_); simp only [xr, simprocAttr]; repeat (guard_target =~ _ ∧ _; refine ⟨by first | trivial | (unfold I64; omega) | omega | (simp <;> omega) | (intros; omega), ?_⟩))))
  refine awp_cond (by first | rfl | (simp only [xr, simprocAttr]; rfl)) (fun h0 => ?_) (fun h0 => ?_)
  · (repeat (first | refine g1 ?_ | refine g2 ?_ | ((first | refine g3 ?_ | refine g4 ?_ | refine g5 ?_); try simp only [xq, simprocAttr]) | ((first | refine g6 ?_ | refine g7 ?_); simp only [xr, simprocAttr]; repeat (guard_target =~ _ ∧ _; refine ⟨by first | trivial | (unfold I64; omega) | omega | (simp <;> omega) | (intros; omega), ?_⟩))))
    (simp only [xe, simprocAttr]; refine ⟨_, rfl, rfl, Imp.eq ?_⟩)
    rfl
  · simp at h0; omega
theorem seqB_of {n : Nat} {rs : List Int} (h : ∀ r ∈ rs, 0 ≤ r ∧ r < (n : Int)) (hl : rs.length ≤ 60) : seqB n rs = true := by
  unfold seqB
  rw [decide_eq_true hl, Bool.true_and, allIn_iff]
  intro r hr
  have := h r hr
  omega
theorem fnWorst_d {bs : List Int} (hb : ∀ b ∈ bs, 0 ≤ b ∧ b < 256) : Does Try.prog 3 [.lf (.b (.raw bs))] (.imm (.bool true)) := by
  by_cases hbig : 65536 < (bs.length : Int)
  · exact walk_big hbig
  obtain ⟨m, s, w, X, x, l, a1, a2, a3, a4, a5, a6, hd⟩ := drawWorst_x hb
  cases hwo : woB m s w X x l with
  | false =>
    have hS := spec_WorstOfMixture_d m s w X x l
    rw [hwo] at hS
    exact walk_bad hbig hd (impl_WorstOfMixture_0 m s w X x l hwo) hS
  | true =>
    have hI := impl_WorstOfMixture_i m s w X x l hwo
    have hS := spec_WorstOfMixture_d m s w X x l
    rw [hwo] at hS
    obtain ⟨y, k, hin⟩ := wo_in hwo
    have hlen := hin.len
    have hcost := hin.cost
    have hpos := hin.pos
    have hbd := hin.bd
    obtain ⟨rfl, rfl, hk, hok⟩ := hin
    have hsum := hok.mix.sum
    have hKe : woK m s w X y k = wkS (coW m s w X y) s.length k (s.length ^ k) := rfl
    have hb1 : 1 ≤ s.length := a3
    obtain ⟨j, _, hj1, hj2⟩ := wkS_hit (c := coW m s w X y) (b := s.length) (n := k) (fun j _ => (hcost j).1) (s.length ^ k - 1) (by omega)
    rw [Nat.sub_add_cancel hpos] at hj1 hj2
    have hW : woV m s w X y k = sq s.length k j := hj1
    have htk : ∀ rs : List Int, (∀ r ∈ rs, 0 ≤ r ∧ r < (s.length : Int)) → rs.length = k → (takesB m s y rs && mixB m s w X 4) = true ∧ mixCostN m s w X y rs = coW m s w X y rs := fun rs hr hl => by
      have h2 := hwo
      unfold woB at h2
      rw [Bool.and_eq_true, Bool.and_eq_true] at h2
      refine ⟨?_, rfl⟩
      rw [h2.1.2, Bool.and_true]
      have h3 := h2.1.1
      unfold takesB at h3 ⊢
      rw [Bool.and_eq_true] at h3
      rw [h3.1, Bool.true_and]
      exact seqB_of hr (by omega)
    have hmk : ∀ c : Int, 0 ≤ c → c ≤ 1000000 → mkOk c w.sum = true := fun c h1 h2 => ok_small (by omega) (by omega) (by omega) (by omega)
    have hcW := hmk _ hbd.1 hbd.2
    simp only [woT, woU] at hI hS
    rw [hKe] at hI hS
    rw [hcW] at hI
    rw [hcW] at hS
    have hC1 := impl_MixtureCost_d m s w X y (woV m s w X y k)
    simp only [frIf] at hC1
    obtain ⟨t1, t2⟩ := htk _ (by rw [hW]; exact sq_reqs hb1) hlen
    rw [t1, t2, show coW m s w X y (woV m s w X y k) = (wkS (coW m s w X y) s.length k (s.length ^ k)).2 by rw [hW]; exact hj2.symm, hcW] at hC1
    have hO := othV_len bs s.length k
    have hOm := othV_mem hb hb1 k
    obtain ⟨j2, hj3, hj4⟩ := sq_all hb1 (othV bs s.length k) hOm
    rw [hO] at hj3 hj4
    have hco := hcost j2
    rw [hj4] at hco
    have hmax := wkS_max (c := coW m s w X y) (b := s.length) (n := k) _ j2 hj3
    rw [hj4] at hmax
    have hC2 := impl_MixtureCost_d m s w X y (othV bs s.length k)
    simp only [frIf] at hC2
    obtain ⟨t3, t4⟩ := htk _ hOm hO
    have hcO := hmk _ hco.1 hco.2
    rw [t3, t4, hcO] at hC2
    have f1 := isFr_mk (n := (wkS (coW m s w X y) s.length k (s.length ^ k)).2) (d := w.sum) (by omega) hcW
    have f2 := isFr_mk (n := coW m s w X y (othV bs s.length k)) (d := w.sum) (by omega) hcO
    have g1 := f1.bd
    have g2 := f2.bd
    refine walk_good hb hbig hb1 a2 hk hlen hd hI hS hC1 hC2 ⟨g1.2.2.1, g1.2.2.2, Int.le_trans (show (0 : Int) ≤ 1 by decide) g1.1, g1.2.1⟩ ⟨g2.2.2.1, g2.2.2.2, Int.le_trans (show (0 : Int) ≤ 1 by decide) g2.1, g2.2.1⟩ ?_
    have hle := fr_le (t := w.sum) (by omega) hmax
    unfold mkFr
    rw [if_pos hcW, if_pos hcO]
    exact hle
end Go.Proofs.Ytcidddfjimbkbaa
