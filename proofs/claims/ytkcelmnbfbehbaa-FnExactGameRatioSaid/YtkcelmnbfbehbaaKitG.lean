/- The rules by which regions whose order is left open are run, in a bundle. Conditions: none. -/
import Derived.Test.YtkcelmnbfbehbaaMD
import Derived.Test.YtkcelmnbfbehbaaGAM
set_option linter.all false
set_option linter.unusedSimpArgs false
set_option linter.unusedVariables false
namespace Go.Proofs.Ytkcelmnbfbehbaa
open Go Go.RowKit Am

theorem xg:type_of% (⟨@dG.eq_1,@dG.eq_2,@slotsOf.eq_1,@slotsOf.eq_2,@Wof.eq_1,@Wof.eq_2,@gones.eq_1,@gones.eq_2,@setAll.eq_1,@setAll.eq_2,@Cn.addN.eq_1,@Cn.addN.eq_2,@Cn.addN.eq_3,@Cn.addN.eq_4,@Cn.addN.eq_5,@mv_row,@mv_b,@mv_own,@mv_ptr⟩:_∧_∧_∧_∧_∧_∧_∧_∧_∧_∧_∧_∧_∧_∧_∧_∧_∧_∧_):=⟨@dG.eq_1,@dG.eq_2,@slotsOf.eq_1,@slotsOf.eq_2,@Wof.eq_1,@Wof.eq_2,@gones.eq_1,@gones.eq_2,@setAll.eq_1,@setAll.eq_2,@Cn.addN.eq_1,@Cn.addN.eq_2,@Cn.addN.eq_3,@Cn.addN.eq_4,@Cn.addN.eq_5,@mv_row,@mv_b,@mv_own,@mv_ptr⟩
theorem xgp:type_of% (⟨@gStep.eq_1,@gRead.eq_1,@gNew.eq_1,@gPut.eq_1⟩:_∧_∧_∧_):=⟨@gStep.eq_1,@gRead.eq_1,@gNew.eq_1,@gPut.eq_1⟩
theorem amNG {P Q:Prop} (q:Q) (h:Hold Q→P:=by intro h;((simp (maxSteps:=3000000) only [xg,↓xgp,xr,simprocAttr];repeat (guard_target =~ _∧_;refine ⟨by first | (guard_target =~ _=_;rfl) | (guard_target =~ (_:Int)≤_;omega) | (first | with_reducible assumption | (guard_target =~ (_:Int)≤_;omega) | (guard_target =~ (_:Int)<_;omega) | (guard_target =~ (_:Nat)<_;omega) | (guard_target =~ (_:Nat)≤_;omega) | (guard_target =~ (_:Int)=_;omega) | (unfold I64;omega) | trivial | omega | (simp<;>omega) | (intros;omega)),?_⟩)));exact h.out):P:=h ⟨q⟩
theorem amTG {P Q:Prop} (q:Q) (h:Hold Q→P:=by intro h;((try simp (maxSteps:=3000000) only [xg,↓xgp,xr,simprocAttr]);repeat (guard_target =~ _∧_;refine ⟨by first | (guard_target =~ _=_;rfl) | (guard_target =~ (_:Int)≤_;omega) | (first | with_reducible assumption | (guard_target =~ (_:Int)≤_;omega) | (guard_target =~ (_:Int)<_;omega) | (guard_target =~ (_:Nat)<_;omega) | (guard_target =~ (_:Nat)≤_;omega) | (guard_target =~ (_:Int)=_;omega) | (unfold I64;omega) | trivial | omega | (simp<;>omega) | (intros;omega)),?_⟩));exact h.out):P:=h ⟨q⟩
end Go.Proofs.Ytkcelmnbfbehbaa
