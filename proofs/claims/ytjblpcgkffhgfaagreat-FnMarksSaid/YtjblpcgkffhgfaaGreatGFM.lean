/- Lists of numbers below a bound, on the machine. Conditions: bounds that are ints. -/
import Derived.Test.YtjblpcgkffhgfaaGreatME
import Derived.Test.YtjblpcgkffhgfaaGreatOA
set_option linter.all false
set_option linter.unusedSimpArgs false
set_option linter.unusedVariables false
namespace Go.Proofs.YtjblpcgkffhgfaaGreat
open Go Go.RowKit Am

theorem within_e (n lo hi:Int):Does Tryz.prog 77 [.int n,.int lo,.int hi] (.imm (.bool (rng n lo hi))):=by
  refine spec_imm Tryz.func77 rfl Tryz.ntmps77 cfOK (fun _ _=>by kernel_rfl) rfl (Nat.le_of_ble_eq_true rfl) ?_
  intro M0 w0
  rw [Tryz.results77]
  refine amGo ?_
  (simp only [xe,simprocAttr];refine ⟨_,rfl,rfl,Imp.eq ?_⟩)
  show AV.bool _=AV.bool _
  congr 1
  unfold rng
  by_cases h1:lo≤n<;>by_cases h2:n≤hi<;>simp [h1,h2]
theorem l1In_e (n lo hi:Int):Does Tryz.prog 95 [.int n,.int lo,.int hi] (.imm (.bool (rng n lo hi))):=by
  refine spec_imm Tryz.func95 rfl Tryz.ntmps95 cfOK (fun _ _=>by kernel_rfl) rfl (Nat.le_of_ble_eq_true rfl) ?_
  intro M0 w0
  rw [Tryz.results95]
  refine amGo ?_
  (simp only [xe,simprocAttr];refine ⟨_,rfl,rfl,Imp.eq ?_⟩)
  show AV.bool _=AV.bool _
  congr 1
  unfold rng
  by_cases h1:lo≤n<;>by_cases h2:n≤hi<;>simp [h1,h2]
theorem areBelowB1_d (x n:Int) (hn : -9223372036854775807≤n∧n≤9223372036854775807):Does Tryz.prog 146 [.int x,.lf (.ip [.val (.int .i64 n)] 0)] (.imm (.bool (!rng x 0 (n-1)))):=by
  refine spec_imm Tryz.func146 rfl Tryz.ntmps146 cfOK (fun _ _=>by kernel_rfl) rfl (Nat.le_of_ble_eq_true rfl) ?_
  intro M0 w0
  rw [Tryz.results146]
  refine amGo ?_
  ((try refine Or.inl ?_);refine ⟨_,(within_e _ _ _),.inl rfl,?_⟩;refine amC ?_)
  refine amGo ?_
  (simp only [xe,simprocAttr];refine ⟨_,rfl,rfl,Imp.eq ?_⟩)
  rfl
theorem areBelowB_d (n:Int) (xs:List Int) (hn : -9223372036854775807≤n∧n≤9223372036854775807):Does Tryz.prog 107 [.int n,.sl (.ints xs)] (.imm (.bool (allIn 0 (n-1) xs))):=by
  refine spec_imm Tryz.func107 rfl Tryz.ntmps107 cfOK (fun _ _=>by kernel_rfl) rfl (Nat.le_of_ble_eq_true rfl) ?_
  intro M0 w0
  rw [Tryz.results107]
  refine amGo ?_
  ((try refine Or.inl ?_);refine ⟨_,(containsFuncI_d xs _ [.ip [.val (.int .i64 n)] 0] (fun x => !rng x 0 (n-1)) rfl fun j hj=>areBelowB1_d _ n hn),.inl rfl,?_⟩;refine amC ?_)
  refine amGo ?_
  (simp only [xe,simprocAttr];refine ⟨_,rfl,rfl,Imp.eq ?_⟩)
  show AV.bool _=AV.bool _
  congr 1
  rw [List.not_any_eq_all_not]
  simp [allIn]
end Go.Proofs.YtjblpcgkffhgfaaGreat
