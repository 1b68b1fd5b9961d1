/- Sums, differences and products of fractions, on the machine: the program's and the reference's. Conditions: fractions that are valid. -/
import Derived.Test.YtiaddmelbonhcaaFracP
import Derived.Test.YtiaddmelbonhcaaFr0
import Derived.Test.YtiaddmelbonhcaaBelow
import Derived.Test.YtiaddmelbonhcaaAm17
set_option linter.all false
set_option linter.unusedSimpArgs false
set_option linter.unusedVariables false
namespace Go.Proofs.Ytiaddmelbonhcaa
open Go Go.RowKit Am

theorem isFrac_f (n d : Int) : Does Try.prog 108 [frA (n, d)] (.imm (.bool (frB n d))) :=
  does_val (v := .bool (frB n d)) (fun _ _ => by kernel_rfl) fun M w us hm ha => by
    obtain ⟨u, us', rfl, k1, k2⟩ := args_inv ha
    obtain rfl := args_inv0 k2
    obtain ⟨a, b, rfl, h1, h2⟩ := ls_two k1
    obtain rfl : a = .int .i64 n := h1
    obtain rfl : b = .int .i64 d := h2
    exact isFrac_any w n d
theorem areFracs_f (a b : Int × Int) (ha : frB a.1 a.2 = true) (hb : frB b.1 b.2 = true) : Does Try.prog 141 [frA a, frA b] (.imm (.bool true)) := by
  refine spec_imm Try.func141 rfl Try.ntmps141 cfOK (fun _ _ => by kernel_rfl) rfl (Nat.le_of_ble_eq_true rfl) ?_
  intro M0 w0
  rw [Try.results141]
  (repeat (first | refine g1 ?_ | refine g2 ?_ | ((first | refine g3 ?_ | refine g4 ?_ | refine g5 ?_); try simp only [xq, simprocAttr]) | ((first | refine g6 ?_ | refine g7 ?_); simp only [xr, simprocAttr]; repeat (guard_target =~ _ ∧ _; refine ⟨by first | trivial | (unfold I64; omega) | omega | (simp <;> omega) | (intros; omega), ?_⟩))))
  ((try refine Or.inl ?_); refine ⟨_, (isFrac_f a.1 a.2), .inl rfl, ?_⟩; (try simp only [xr, simprocAttr]); repeat (guard_target =~ _ ∧ _; refine ⟨by first | trivial | (unfold I64; omega) | omega | (simp <;> omega) | (intros; omega), ?_⟩))
  (repeat (first | refine g1 ?_ | refine g2 ?_ | ((first | refine g3 ?_ | refine g4 ?_ | refine g5 ?_); try simp only [xq, simprocAttr]) | ((first | refine g6 ?_ | refine g7 ?_); simp only [xr, simprocAttr]; repeat (guard_target =~ _ ∧ _; refine ⟨by first | trivial | (unfold I64; omega) | omega | (simp <;> omega) | (intros; omega), ?_⟩))))
  ((try refine Or.inl ?_); refine ⟨_, (fun _ => isFrac_f b.1 b.2), .inl rfl, ?_⟩; (try simp only [xr, simprocAttr]); repeat (guard_target =~ _ ∧ _; refine ⟨by first | trivial | (unfold I64; omega) | omega | (simp <;> omega) | (intros; omega), ?_⟩))
  (repeat (first | refine g1 ?_ | refine g2 ?_ | ((first | refine g3 ?_ | refine g4 ?_ | refine g5 ?_); try simp only [xq, simprocAttr]) | ((first | refine g6 ?_ | refine g7 ?_); simp only [xr, simprocAttr]; repeat (guard_target =~ _ ∧ _; refine ⟨by first | trivial | (unfold I64; omega) | omega | (simp <;> omega) | (intros; omega), ?_⟩))))
  (simp only [xe, simprocAttr]; refine ⟨_, rfl, rfl, Imp.eq ?_⟩)
  rw [ha, hb]
  rfl
structure OpB (a b : Int × Int) : Prop where
  h1 : -10000000000000 ≤ a.1 * b.2 ∧ a.1 * b.2 ≤ 10000000000000
  h2 : -10000000000000 ≤ b.1 * a.2 ∧ b.1 * a.2 ≤ 10000000000000
  h3 : 1 ≤ a.2 * b.2 ∧ a.2 * b.2 ≤ 10000000000
theorem opB {a b : Int × Int} {A B D E : Int} (ha : IsFr a A D) (hb : IsFr b B E) : OpB a b := by
  have h1 := ha.bd
  have h2 := hb.bd
  have h3 := Int.mul_pos ha.dpos hb.dpos
  have k1 := mul_bd (x := a.1) (y := b.2) (X := 100000000) (Y := 100000) ⟨by omega, by omega⟩ ⟨by omega, by omega⟩
  have k2 := mul_bd (x := b.1) (y := a.2) (X := 100000000) (Y := 100000) ⟨by omega, by omega⟩ ⟨by omega, by omega⟩
  have k3 := mul_bd (x := a.2) (y := b.2) (X := 100000) (Y := 100000) ⟨by omega, by omega⟩ ⟨by omega, by omega⟩
  exact ⟨by omega, by omega, by omega⟩
theorem addFracs_f {a b : Int × Int} {A B D : Int} (ha : IsFr a A D) (hb : IsFr b B D) : Does Try.prog 94 [frA a, frA b] (.imm (.tup [frT (mkFr (A + B) D), blT (mkOk (A + B) D)])) := by
  obtain ⟨h1, h2, h3⟩ := opB ha hb
  obtain ⟨e1, e2⟩ := fr_add ha hb
  refine spec_imm Try.func94 rfl Try.ntmps94 cfOK (fun _ _ => by kernel_rfl) rfl (Nat.le_of_ble_eq_true rfl) ?_
  intro M0 w0
  rw [Try.results94]
  (repeat (first | refine g1 ?_ | refine g2 ?_ | ((first | refine g3 ?_ | refine g4 ?_ | refine g5 ?_); try simp only [xq, simprocAttr]) | ((first | refine g6 ?_ | refine g7 ?_); simp only [xr, simprocAttr]; repeat (guard_target =~ _ ∧ _; refine ⟨by first | trivial | (unfold I64; omega) | omega | (simp <;> omega) | (intros; omega), ?_⟩))))
  ((try refine Or.inl ?_); refine ⟨_, (areFracs_f a b ha.ok hb.ok), .inl rfl, ?_⟩; (try simp only [xr, simprocAttr]); repeat (guard_target =~ _ ∧ _; refine ⟨by first | trivial | (unfold I64; omega) | omega | (simp <;> omega) | (intros; omega), ?_⟩))
  (repeat (first | refine g1 ?_ | refine g2 ?_ | ((first | refine g3 ?_ | refine g4 ?_ | refine g5 ?_); try simp only [xq, simprocAttr]) | ((first | refine g6 ?_ | refine g7 ?_); simp only [xr, simprocAttr]; repeat (guard_target =~ _ ∧ _; refine ⟨by first | trivial | (unfold I64; omega) | omega | (simp <;> omega) | (intros; omega), ?_⟩))))
  refine awp_cond (by first | rfl | (simp only [xr, simprocAttr]; rfl)) (fun hc => ?_) (fun hc => ?_)
  · cases hc
  (repeat (first | refine g1 ?_ | refine g2 ?_ | ((first | refine g3 ?_ | refine g4 ?_ | refine g5 ?_); try simp only [xq, simprocAttr]) | ((first | refine g6 ?_ | refine g7 ?_); simp only [xr, simprocAttr]; repeat (guard_target =~ _ ∧ _; refine ⟨by first | trivial | (unfold I64; omega) | omega | (simp <;> omega) | (intros; omega), ?_⟩))))
  ((try refine Or.inl ?_); refine ⟨_, (makeFrac_d (a.1 * b.2 + b.1 * a.2) (a.2 * b.2) (by omega) (by omega) (by omega) (by omega)), .inr (by and_intros <;> first | rfl | (simp; done)), ?_⟩; (try simp only [xr, simprocAttr]); repeat (guard_target =~ _ ∧ _; refine ⟨by first | trivial | (unfold I64; omega) | omega | (simp <;> omega) | (intros; omega), ?_⟩))
  rw [e1, e2]
  (repeat (first | refine g1 ?_ | refine g2 ?_ | ((first | refine g3 ?_ | refine g4 ?_ | refine g5 ?_); try simp only [xq, simprocAttr]) | ((first | refine g6 ?_ | refine g7 ?_); simp only [xr, simprocAttr]; repeat (guard_target =~ _ ∧ _; refine ⟨by first | trivial | (unfold I64; omega) | omega | (simp <;> omega) | (intros; omega), ?_⟩))))
  (simp only [xec, simprocAttr]; refine ⟨[_, _], ⟨⟨by simp only [xr, simprocAttr] <;> (and_intros <;> first | trivial | (unfold I64; omega) | omega | (simp <;> omega) | (intros; omega)), rfl⟩, rfl, trivial⟩, rfl, Imp.eq ?_⟩)
  rfl
theorem subFracs_f {a b : Int × Int} {A B D : Int} (ha : IsFr a A D) (hb : IsFr b B D) : Does Try.prog 93 [frA a, frA b] (.imm (.tup [frT (mkFr (A - B) D), blT (mkOk (A - B) D)])) := by
  obtain ⟨h1, h2, h3⟩ := opB ha hb
  obtain ⟨e1, e2⟩ := fr_sub ha hb
  refine spec_imm Try.func93 rfl Try.ntmps93 cfOK (fun _ _ => by kernel_rfl) rfl (Nat.le_of_ble_eq_true rfl) ?_
  intro M0 w0
  rw [Try.results93]
  (repeat (first | refine g1 ?_ | refine g2 ?_ | ((first | refine g3 ?_ | refine g4 ?_ | refine g5 ?_); try simp only [xq, simprocAttr]) | ((first | refine g6 ?_ | refine g7 ?_); simp only [xr, simprocAttr]; repeat (guard_target =~ _ ∧ _; refine ⟨by first | trivial | (unfold I64; omega) | omega | (simp <;> omega) | (intros; omega), ?_⟩))))
  ((try refine Or.inl ?_); refine ⟨_, (areFracs_f a b ha.ok hb.ok), .inl rfl, ?_⟩; (try simp only [xr, simprocAttr]); repeat (guard_target =~ _ ∧ _; refine ⟨by first | trivial | (unfold I64; omega) | omega | (simp <;> omega) | (intros; omega), ?_⟩))
  (repeat (first | refine g1 ?_ | refine g2 ?_ | ((first | refine g3 ?_ | refine g4 ?_ | refine g5 ?_); try simp only [xq, simprocAttr]) | ((first | refine g6 ?_ | refine g7 ?_); simp only [xr, simprocAttr]; repeat (guard_target =~ _ ∧ _; refine ⟨by first | trivial | (unfold I64; omega) | omega | (simp <;> omega) | (intros; omega), ?_⟩))))
  refine awp_cond (by first | rfl | (simp only [xr, simprocAttr]; rfl)) (fun hc => ?_) (fun hc => ?_)
  · cases hc
  (repeat (first | refine g1 ?_ | refine g2 ?_ | ((first | refine g3 ?_ | refine g4 ?_ | refine g5 ?_); try simp only [xq, simprocAttr]) | ((first | refine g6 ?_ | refine g7 ?_); simp only [xr, simprocAttr]; repeat (guard_target =~ _ ∧ _; refine ⟨by first | trivial | (unfold I64; omega) | omega | (simp <;> omega) | (intros; omega), ?_⟩))))
  ((try refine Or.inl ?_); refine ⟨_, (makeFrac_d (a.1 * b.2 - b.1 * a.2) (a.2 * b.2) (by omega) (by omega) (by omega) (by omega)), .inr (by and_intros <;> first | rfl | (simp; done)), ?_⟩; (try simp only [xr, simprocAttr]); repeat (guard_target =~ _ ∧ _; refine ⟨by first | trivial | (unfold I64; omega) | omega | (simp <;> omega) | (intros; omega), ?_⟩))
  rw [e1, e2]
  (repeat (first | refine g1 ?_ | refine g2 ?_ | ((first | refine g3 ?_ | refine g4 ?_ | refine g5 ?_); try simp only [xq, simprocAttr]) | ((first | refine g6 ?_ | refine g7 ?_); simp only [xr, simprocAttr]; repeat (guard_target =~ _ ∧ _; refine ⟨by first | trivial | (unfold I64; omega) | omega | (simp <;> omega) | (intros; omega), ?_⟩))))
  (simp only [xec, simprocAttr]; refine ⟨[_, _], ⟨⟨by simp only [xr, simprocAttr] <;> (and_intros <;> first | trivial | (unfold I64; omega) | omega | (simp <;> omega) | (intros; omega)), rfl⟩, rfl, trivial⟩, rfl, Imp.eq ?_⟩)
  rfl
theorem mulFracs_f {a b : Int × Int} {A B D E : Int} (ha : IsFr a A D) (hb : IsFr b B E) (hb' : -10000000 ≤ b.1 ∧ b.1 ≤ 10000000) : Does Try.prog 95 [frA a, frA b] (.imm (.tup [frT (mkFr (A * B) (D * E)), blT (mkOk (A * B) (D * E))])) := by
  obtain ⟨-, -, h3⟩ := opB ha hb
  obtain ⟨e1, e2⟩ := fr_mul ha hb
  have h4 := ha.bd
  have k1 : -1000000000000000 ≤ a.1 * b.1 ∧ a.1 * b.1 ≤ 1000000000000000 := by
    rcases Int.lt_or_le b.1 0 with h | h
    · have := mul_bd (x := a.1) (y := -b.1) (X := 100000000) (Y := 10000000) ⟨by omega, by omega⟩ ⟨by omega, by omega⟩
      rw [Int.mul_neg] at this
      omega
    · have := mul_bd (x := a.1) (y := b.1) (X := 100000000) (Y := 10000000) ⟨by omega, by omega⟩ ⟨by omega, by omega⟩
      omega
  refine spec_imm Try.func95 rfl Try.ntmps95 cfOK (fun _ _ => by kernel_rfl) rfl (Nat.le_of_ble_eq_true rfl) ?_
  intro M0 w0
  rw [Try.results95]
  (repeat (first | refine g1 ?_ | refine g2 ?_ | ((first | refine g3 ?_ | refine g4 ?_ | refine g5 ?_); try simp only [xq, simprocAttr]) | ((first | refine g6 ?_ | refine g7 ?_); simp only [xr, simprocAttr]; repeat (guard_target =~ _ ∧ _; refine ⟨by first | trivial | (unfold I64; omega) | omega | (simp <;> omega) | (intros; omega), ?_⟩))))
  ((try refine Or.inl ?_); refine ⟨_, (areFracs_f a b ha.ok hb.ok), .inl rfl, ?_⟩; (try simp only [xr, simprocAttr]); repeat (guard_target =~ _ ∧ _; refine ⟨by first | trivial | (unfold I64; omega) | omega | (simp <;> omega) | (intros; omega), ?_⟩))
  (repeat (first | refine g1 ?_ | refine g2 ?_ | ((first | refine g3 ?_ | refine g4 ?_ | refine g5 ?_); try simp only [xq, simprocAttr]) | ((first | refine g6 ?_ | refine g7 ?_); simp only [xr, simprocAttr]; repeat (guard_target =~ _ ∧ _; refine ⟨by first | trivial | (unfold I64; omega) | omega | (simp <;> omega) | (intros; omega), ?_⟩))))
  refine awp_cond (by first | rfl | (simp only [xr, simprocAttr]; rfl)) (fun hc => ?_) (fun hc => ?_)
  · cases hc
  (repeat (first | refine g1 ?_ | refine g2 ?_ | ((first | refine g3 ?_ | refine g4 ?_ | refine g5 ?_); try simp only [xq, simprocAttr]) | ((first | refine g6 ?_ | refine g7 ?_); simp only [xr, simprocAttr]; repeat (guard_target =~ _ ∧ _; refine ⟨by first | trivial | (unfold I64; omega) | omega | (simp <;> omega) | (intros; omega), ?_⟩))))
  ((try refine Or.inl ?_); refine ⟨_, (makeFrac_d (a.1 * b.1) (a.2 * b.2) (by omega) (by omega) (by omega) (by omega)), .inr (by and_intros <;> first | rfl | (simp; done)), ?_⟩; (try simp only [xr, simprocAttr]); repeat (guard_target =~ _ ∧ _; refine ⟨by first | trivial | (unfold I64; omega) | omega | (simp <;> omega) | (intros; omega), ?_⟩))
  rw [e1, e2]
  (repeat (first | refine g1 ?_ | refine g2 ?_ | ((first | refine g3 ?_ | refine g4 ?_ | refine g5 ?_); try simp only [xq, simprocAttr]) | ((first | refine g6 ?_ | refine g7 ?_); simp only [xr, simprocAttr]; repeat (guard_target =~ _ ∧ _; refine ⟨by first | trivial | (unfold I64; omega) | omega | (simp <;> omega) | (intros; omega), ?_⟩))))
  (simp only [xec, simprocAttr]; refine ⟨[_, _], ⟨⟨by simp only [xr, simprocAttr] <;> (and_intros <;> first | trivial | (unfold I64; omega) | omega | (simp <;> omega) | (intros; omega)), rfl⟩, rfl, trivial⟩, rfl, Imp.eq ?_⟩)
  rfl
theorem l2Add_f {a b : Int × Int} {A B D : Int} (ha : IsFr a A D) (hb : IsFr b B D) : Does Try.prog 90 [frA a, frA b] (.imm (.tup [frT (mkFr (A + B) D), blT (mkOk (A + B) D)])) := by
  obtain ⟨h1, h2, h3⟩ := opB ha hb
  obtain ⟨e1, e2⟩ := fr_add ha hb
  refine spec_imm Try.func90 rfl Try.ntmps90 cfOK (fun _ _ => by kernel_rfl) rfl (Nat.le_of_ble_eq_true rfl) ?_
  intro M0 w0
  rw [Try.results90]
  (repeat (first | refine g1 ?_ | refine g2 ?_ | ((first | refine g3 ?_ | refine g4 ?_ | refine g5 ?_); try simp only [xq, simprocAttr]) | ((first | refine g6 ?_ | refine g7 ?_); simp only [xr, simprocAttr]; repeat (guard_target =~ _ ∧ _; refine ⟨by first | trivial | (unfold I64; omega) | omega | (simp <;> omega) | (intros; omega), ?_⟩))))
  ((try refine Or.inl ?_); refine ⟨_, (l2Make_d (a.1 * b.2 + b.1 * a.2) (a.2 * b.2) (by omega) (by omega) (by omega) (by omega)), .inr (by and_intros <;> first | rfl | (simp; done)), ?_⟩; (try simp only [xr, simprocAttr]); repeat (guard_target =~ _ ∧ _; refine ⟨by first | trivial | (unfold I64; omega) | omega | (simp <;> omega) | (intros; omega), ?_⟩))
  rw [e1, e2]
  (repeat (first | refine g1 ?_ | refine g2 ?_ | ((first | refine g3 ?_ | refine g4 ?_ | refine g5 ?_); try simp only [xq, simprocAttr]) | ((first | refine g6 ?_ | refine g7 ?_); simp only [xr, simprocAttr]; repeat (guard_target =~ _ ∧ _; refine ⟨by first | trivial | (unfold I64; omega) | omega | (simp <;> omega) | (intros; omega), ?_⟩))))
  (simp only [xec, simprocAttr]; refine ⟨[_, _], ⟨⟨by simp only [xr, simprocAttr] <;> (and_intros <;> first | trivial | (unfold I64; omega) | omega | (simp <;> omega) | (intros; omega)), rfl⟩, rfl, trivial⟩, rfl, Imp.eq ?_⟩)
  rfl
theorem l2Neg_f (a : Int × Int) (h : -9223372036854775807 ≤ a.1 ∧ a.1 ≤ 9223372036854775807) : Does Try.prog 178 [frA a] (.imm (frA (-a.1, a.2))) := by
  refine spec_imm Try.func178 rfl Try.ntmps178 cfOK (fun _ _ => by kernel_rfl) rfl (Nat.le_of_ble_eq_true rfl) ?_
  intro M0 w0
  rw [Try.results178]
  (repeat (first | refine g1 ?_ | refine g2 ?_ | ((first | refine g3 ?_ | refine g4 ?_ | refine g5 ?_); try simp only [xq, simprocAttr]) | ((first | refine g6 ?_ | refine g7 ?_); simp only [xr, simprocAttr]; repeat (guard_target =~ _ ∧ _; refine ⟨by first | trivial | (unfold I64; omega) | omega | (simp <;> omega) | (intros; omega), ?_⟩))))
  (simp only [xec, simprocAttr]; refine ⟨_, ⟨by simp only [xr, simprocAttr] <;> (and_intros <;> first | trivial | (unfold I64; omega) | omega | (simp <;> omega) | (intros; omega)), rfl⟩, rfl, Imp.eq ?_⟩)
  rfl
theorem IsFr.neg {a : Int × Int} {n d : Int} (h : IsFr a n d) : IsFr (-a.1, a.2) (-n) d := by
  have h1 := frB_iff.1 h.ok
  refine ⟨frB_iff.2 ⟨h1.1, h1.2.1, ?_, ?_, ?_⟩, ?_, h.pos⟩
  · show -100000000 ≤ -a.1
    omega
  · show -a.1 ≤ 100000000
    omega
  · show Int.gcd (-a.1) a.2 = 1
    rw [Int.neg_gcd]
    exact h1.2.2.2.2
  · show -a.1 * d = -n * a.2
    rw [Int.neg_mul, Int.neg_mul, h.eq]
theorem l2Sub_f {a b : Int × Int} {A B D : Int} (ha : IsFr a A D) (hb : IsFr b B D) : Does Try.prog 137 [frA a, frA b] (.imm (.tup [frT (mkFr (A - B) D), blT (mkOk (A - B) D)])) := by
  have hb1 := hb.bd
  have hc := l2Add_f ha hb.neg
  rw [← Int.sub_eq_add_neg] at hc
  refine spec_imm Try.func137 rfl Try.ntmps137 cfOK (fun _ _ => by kernel_rfl) rfl (Nat.le_of_ble_eq_true rfl) ?_
  intro M0 w0
  rw [Try.results137]
  (repeat (first | refine g1 ?_ | refine g2 ?_ | ((first | refine g3 ?_ | refine g4 ?_ | refine g5 ?_); try simp only [xq, simprocAttr]) | ((first | refine g6 ?_ | refine g7 ?_); simp only [xr, simprocAttr]; repeat (guard_target =~ _ ∧ _; refine ⟨by first | trivial | (unfold I64; omega) | omega | (simp <;> omega) | (intros; omega), ?_⟩))))
  ((repeat (first | refine g1 ?_ | refine g2 ?_ | ((first | refine g3 ?_ | refine g4 ?_); try simp only [xq, simprocAttr]))); refine awp_anyM [2] 6 [] (by kernel_rfl) (by kernel_rfl) (by kernel_rfl) (by kernel_rfl) (by kernel_rfl) ?_; simp (maxSteps := 3000000) only [xr, simprocAttr]; repeat (guard_target =~ _ ∧ _; refine ⟨by first | trivial | (unfold I64; omega) | omega | (simp <;> omega) | (intros; omega), ?_⟩))
  ((try refine Or.inl ?_); refine ⟨_, (l2Neg_f b ⟨by omega, by omega⟩), .inr (by and_intros <;> first | rfl | (simp; done)), ?_⟩; (try simp only [xr, simprocAttr]); repeat (guard_target =~ _ ∧ _; refine ⟨by first | trivial | (unfold I64; omega) | omega | (simp <;> omega) | (intros; omega), ?_⟩))
  ((try refine Or.inl ?_); refine ⟨_, hc, .inr (by and_intros <;> first | rfl | (simp; done)), ?_⟩; (try simp only [xr, simprocAttr]); repeat (guard_target =~ _ ∧ _; refine ⟨by first | trivial | (unfold I64; omega) | omega | (simp <;> omega) | (intros; omega), ?_⟩))
  (repeat (first | refine g1 ?_ | refine g2 ?_ | ((first | refine g3 ?_ | refine g4 ?_ | refine g5 ?_); try simp only [xq, simprocAttr]) | ((first | refine g6 ?_ | refine g7 ?_); simp only [xr, simprocAttr]; repeat (guard_target =~ _ ∧ _; refine ⟨by first | trivial | (unfold I64; omega) | omega | (simp <;> omega) | (intros; omega), ?_⟩))))
  (simp only [xec, simprocAttr]; refine ⟨[_, _], ⟨⟨by simp only [xr, simprocAttr] <;> (and_intros <;> first | trivial | (unfold I64; omega) | omega | (simp <;> omega) | (intros; omega)), rfl⟩, rfl, trivial⟩, rfl, Imp.eq ?_⟩)
  rfl
theorem l2Mul_f {a b : Int × Int} {A B D E : Int} (ha : IsFr a A D) (hb : IsFr b B E) (ha' : -10000000 ≤ a.1 ∧ a.1 ≤ 10000000) : Does Try.prog 139 [frA a, frA b] (.imm (.tup [frT (mkFr (A * B) (D * E)), blT (mkOk (A * B) (D * E))])) := by
  obtain ⟨-, -, h3⟩ := opB ha hb
  obtain ⟨e1, e2⟩ := fr_mul ha hb
  have h4 := hb.bd
  have k1 : -1000000000000000 ≤ a.1 * b.1 ∧ a.1 * b.1 ≤ 1000000000000000 := by
    rw [Int.mul_comm]
    rcases Int.lt_or_le a.1 0 with h | h
    · have := mul_bd (x := b.1) (y := -a.1) (X := 100000000) (Y := 10000000) ⟨by omega, by omega⟩ ⟨by omega, by omega⟩
      rw [Int.mul_neg] at this
      omega
    · have := mul_bd (x := b.1) (y := a.1) (X := 100000000) (Y := 10000000) ⟨by omega, by omega⟩ ⟨by omega, by omega⟩
      omega
  refine spec_imm Try.func139 rfl Try.ntmps139 cfOK (fun _ _ => by kernel_rfl) rfl (Nat.le_of_ble_eq_true rfl) ?_
  intro M0 w0
  rw [Try.results139]
  (repeat (first | refine g1 ?_ | refine g2 ?_ | ((first | refine g3 ?_ | refine g4 ?_ | refine g5 ?_); try simp only [xq, simprocAttr]) | ((first | refine g6 ?_ | refine g7 ?_); simp only [xr, simprocAttr]; repeat (guard_target =~ _ ∧ _; refine ⟨by first | trivial | (unfold I64; omega) | omega | (simp <;> omega) | (intros; omega), ?_⟩))))
  ((try refine Or.inl ?_); refine ⟨_, (l2Make_d (a.1 * b.1) (a.2 * b.2) (by omega) (by omega) (by omega) (by omega)), .inr (by and_intros <;> first | rfl | (simp; done)), ?_⟩; (try simp only [xr, simprocAttr]); repeat (guard_target =~ _ ∧ _; refine ⟨by first | trivial | (unfold I64; omega) | omega | (simp <;> omega) | (intros; omega), ?_⟩))
  rw [e1, e2]
  (repeat (first | refine g1 ?_ | refine g2 ?_ | ((first | refine g3 ?_ | refine g4 ?_ | refine g5 ?_); try simp only [xq, simprocAttr]) | ((first | refine g6 ?_ | refine g7 ?_); simp only [xr, simprocAttr]; repeat (guard_target =~ _ ∧ _; refine ⟨by first | trivial | (unfold I64; omega) | omega | (simp <;> omega) | (intros; omega), ?_⟩))))
  (simp only [xec, simprocAttr]; refine ⟨[_, _], ⟨⟨by simp only [xr, simprocAttr] <;> (and_intros <;> first | trivial | (unfold I64; omega) | omega | (simp <;> omega) | (intros; omega)), rfl⟩, rfl, trivial⟩, rfl, Imp.eq ?_⟩)
  rfl
end Go.Proofs.Ytiaddmelbonhcaa
