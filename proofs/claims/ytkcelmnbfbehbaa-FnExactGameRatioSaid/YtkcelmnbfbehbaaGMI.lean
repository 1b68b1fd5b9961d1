/- Algorithms and mixtures, on the machine. Conditions: problems that are right. -/
import Derived.Test.YtkcelmnbfbehbaaME
import Derived.Test.YtkcelmnbfbehbaaOA
import Derived.Test.YtkcelmnbfbehbaaPS
set_option linter.all false
set_option linter.unusedSimpArgs false
set_option linter.unusedVariables false
namespace Go.Proofs.Ytkcelmnbfbehbaa
open Go Go.RowKit Am

theorem within_d (n lo hi:Int):Does Try.prog 74 [.int n,.int lo,.int hi] (.imm (.bool (rng n lo hi))):=by
  refine spec_imm Try.func74 rfl Try.ntmps74 cfOK (fun _ _=>by kernel_rfl) rfl (Nat.le_of_ble_eq_true rfl) ?_
  intro M0 w0
  rw [Try.results74]
  refine amGo ?_
  (simp only [xe,simprocAttr];refine ⟨_,rfl,rfl,Imp.eq ?_⟩)
  show AV.bool _=AV.bool _
  congr
  by_cases h1:lo≤n<;>by_cases h2:n≤hi<;>simp [rng,h1,h2]
theorem isState_d (m s:List (List Int)) (x:Int):Does Try.prog 66 [prA m s,.int x] (.imm (.bool (rng x 0 ((m.length:Int)-1)))):=by
  refine spec_imm Try.func66 rfl Try.ntmps66 cfOK (fun _ _=>by kernel_rfl) rfl (Nat.le_of_ble_eq_true rfl) ?_
  intro M0 w0
  rw [Try.results66]
  (refine awp_fits 0 rfl fun hf => ?_;simp only [xp,simprocAttr] at hf;simp only [xf,simprocAttr] at hf)
  refine amGo ?_
  ((try refine Or.inl ?_);refine ⟨_,(within_d _ _ _),.inl rfl,?_⟩;refine amC ?_)
  refine amGo ?_
  (simp only [xe,simprocAttr];refine ⟨_,rfl,rfl,Imp.eq ?_⟩)
  rfl
theorem isProblem_d (m s:List (List Int)):Does Try.prog 65 [prA m s] (.imm (.bool (probB m s))) :=
  does_val (fun _ _=>by kernel_rfl) fun M w us hm ha=>by
    obtain ⟨u,us',rfl,h1,h2⟩:=args_inv ha
    obtain rfl:=args_inv0 h2
    obtain ⟨a,b,rfl,h3,h4⟩:=ls_two h1
    exact isProblem_any w _ m s ⟨a,b,rfl,sl_of_sii hm h3,sl_of_sii hm h4⟩
theorem prob_rows {m s:List (List Int)} (h:probB m s=true):∀ r,r<s.length→(s.getD r []).length=m.length:=fun r hr=>by
  unfold probB at h
  simp only [Bool.and_eq_true,List.all_eq_true] at h
  have:=h.2 _ (List.getElem_mem hr)
  unfold reqB at this
  simp only [Bool.and_eq_true,beq_iff_eq] at this
  rw [getD_in hr]
  exact this.1.1
end Go.Proofs.Ytkcelmnbfbehbaa
/- Mixtures by the reference's functions, on the machine. Conditions: none. -/
set_option linter.all false
set_option linter.unusedSimpArgs false
set_option linter.unusedVariables false
namespace Go.Proofs.Ytkcelmnbfbehbaa
open Go Go.RowKit Am

end Go.Proofs.Ytkcelmnbfbehbaa
