/- Ratios, and lists of numbers for positions, on the machine. Conditions: games that are whole. -/
import Derived.Test.YtlhdeofkhajigaaChoice
import Derived.Test.YtlhdeofkhajigaaGFR
import Derived.Test.YtlhdeofkhajigaaCreditP
set_option linter.all false
set_option linter.unusedSimpArgs false
set_option linter.unusedVariables false
namespace Go.Proofs.Ytlhdeofkhajigaa
open Go Go.RowKit Am

abbrev gA (g : GmT) (b : Bool) : AV := .tv (.agg [.b (.sl (.k 2 g.list)), .b (.sl (.kii 4 (ch4 g.ch))), .b (.val (.bool b))])
abbrev gI (g : GmT) : AV := .lf (.ip [.sl (.k 2 g.list), .sl (.kii 6 g.ch)] 0)
/-- a fraction that is at least 0 -/
def ratioB (a : Int × Int) : Bool := frB a.1 a.2 && decide (0 ≤ a.1)
theorem ratio_ok {a : Int × Int} (h : ratioB a = true) : 0 ≤ a.1 ∧ a.1 ≤ 100000000 ∧ 1 ≤ a.2 ∧ a.2 ≤ 100000 := by
  unfold ratioB at h
  rw [Bool.and_eq_true, frB_iff, decide_eq_true_eq] at h
  obtain ⟨⟨h1, h2, h3, h4, -⟩, h5⟩ := h
  exact ⟨h5, h4, h1, h2⟩
theorem isFrac_d (n d : Int) : Does Try.prog 61 [frA (n, d)] (.imm (.bool (frB n d))) :=
  does_val (v := .bool (frB n d)) (fun _ _ => by kernel_rfl) fun M w us hm ha => by
    obtain ⟨u, us', rfl, k1, k2⟩ := args_inv ha
    obtain rfl := args_inv0 k2
    obtain ⟨a, b, rfl, h1, h2⟩ := ls_two k1
    obtain rfl : a = .int .i64 n := h1
    obtain rfl : b = .int .i64 d := h2
    exact isFrac_any w n d
theorem l2Good_d (n d : Int) : Does Try.prog 55 [frA (n, d)] (.imm (.bool (frB n d))) :=
  does_val (v := .bool (frB n d)) (fun _ _ => by kernel_rfl) fun M w us hm ha => by
    obtain ⟨u, us', rfl, k1, k2⟩ := args_inv ha
    obtain rfl := args_inv0 k2
    obtain ⟨a, b, rfl, h1, h2⟩ := ls_two k1
    obtain rfl : a = .int .i64 n := h1
    obtain rfl : b = .int .i64 d := h2
    exact l2Good_any w n d
theorem isRatio_d (a : Int × Int) : Does Try.prog 35 [frA a] (.imm (.bool (ratioB a))) := by
  refine spec_imm Try.func35 rfl Try.ntmps35 cfOK (fun _ _ => by kernel_rfl) rfl (Nat.le_of_ble_eq_true rfl) ?_
  intro M0 w0
  rw [Try.results35]
  refine amGo ?_
  ((try refine Or.inl ?_); refine ⟨_, (isFrac_d a.1 a.2), .inl rfl, ?_⟩; refine amC ?_)
  refine amGo ?_
  (simp only [xe, simprocAttr]; refine ⟨_, rfl, rfl, Imp.eq ?_⟩)
  show AV.bool _ = AV.bool _
  simp only [Bool.cond_false_right]
  rfl
theorem l9Ratio_d (a : Int × Int) : Does Try.prog 31 [frA a] (.imm (.bool (ratioB a))) := by
  refine spec_imm Try.func31 rfl Try.ntmps31 cfOK (fun _ _ => by kernel_rfl) rfl (Nat.le_of_ble_eq_true rfl) ?_
  intro M0 w0
  rw [Try.results31]
  refine amGo ?_
  ((try refine Or.inl ?_); refine ⟨_, (l2Good_d a.1 a.2), .inl rfl, ?_⟩; refine amC ?_)
  refine amGo ?_
  (simp only [xe, simprocAttr]; refine ⟨_, rfl, rfl, Imp.eq ?_⟩)
  show AV.bool _ = AV.bool _
  simp only [Bool.cond_false_right]
  rfl
theorem areBelow1_d (x n : Int) (hn : -9223372036854775807 ≤ n ∧ n ≤ 9223372036854775807) : Does Try.prog 115 [.int x, .lf (.ip [.val (.int .i64 n)] 0)] (.imm (.bool (!rng x 0 (n - 1)))) := by
  refine spec_imm Try.func115 rfl Try.ntmps115 cfOK (fun _ _ => by kernel_rfl) rfl (Nat.le_of_ble_eq_true rfl) ?_
  intro M0 w0
  rw [Try.results115]
  refine amGo ?_
  ((try refine Or.inl ?_); refine ⟨_, (within_d _ _ _), .inl rfl, ?_⟩; refine amC ?_)
  refine amGo ?_
  (simp only [xe, simprocAttr]; refine ⟨_, rfl, rfl, Imp.eq ?_⟩)
  rfl
theorem areBelow_d (n : Int) (xs : List Int) (hn : -9223372036854775807 ≤ n ∧ n ≤ 9223372036854775807) : Does Try.prog 104 [.int n, .sl (.ints xs)] (.imm (.bool (allIn 0 (n - 1) xs))) := by
  refine spec_imm Try.func104 rfl Try.ntmps104 cfOK (fun _ _ => by kernel_rfl) rfl (Nat.le_of_ble_eq_true rfl) ?_
  intro M0 w0
  rw [Try.results104]
  refine amGo ?_
  ((try refine Or.inl ?_); refine ⟨_, (containsFuncI_d xs _ [.ip [.val (.int .i64 n)] 0] (fun x => !rng x 0 (n - 1)) rfl fun j hj => areBelow1_d _ n hn), .inl rfl, ?_⟩; refine amC ?_)
  refine amGo ?_
  (simp only [xe, simprocAttr]; refine ⟨_, rfl, rfl, Imp.eq ?_⟩)
  show AV.bool _ = AV.bool _
  congr 1
  rw [List.not_any_eq_all_not]
  simp [allIn]
def tbB (n : Nat) (tab : List Int) : Bool := (tab.length == n) && allIn 0 1000000000000000 tab
theorem toFrac_d (a : Int × Int) : Does Try.prog 12 [frA a] (.imm (frA a)) := by
  refine spec_imm Try.func12 rfl Try.ntmps12 cfOK (fun _ _ => by kernel_rfl) rfl (Nat.le_of_ble_eq_true rfl) ?_
  intro M0 w0
  rw [Try.results12]
  refine amGo ?_
  (simp only [xec, simprocAttr]; refine ⟨_, ⟨amK, rfl⟩, rfl, Imp.eq ?_⟩)
  rfl
end Go.Proofs.Ytlhdeofkhajigaa
