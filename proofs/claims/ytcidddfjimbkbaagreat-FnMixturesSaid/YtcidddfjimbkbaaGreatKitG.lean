/- The rules by which regions whose order is left open are run, in a bundle. Conditions: none. -/
import Derived.Test.YtcidddfjimbkbaaGreatMD
import Derived.Test.YtcidddfjimbkbaaGreatGAM
set_option linter.all false
set_option linter.unusedSimpArgs false
set_option linter.unusedVariables false
namespace Go.Proofs.YtcidddfjimbkbaaGreat
open Go Go.RowKit Am

theorem xg : type_of% (⟨@dG.eq_1, @dG.eq_2, @gStep.eq_1, @gRead.eq_1, @gNew.eq_1, @gPut.eq_1, @slotsOf.eq_1, @slotsOf.eq_2, @Wof.eq_1, @Wof.eq_2, @gones.eq_1, @gones.eq_2, @setAll.eq_1, @setAll.eq_2, @mv_row, @mv_b, @mv_own, @mv_ptr⟩ : _ ∧ _ ∧ _ ∧ _ ∧ _ ∧ _ ∧ _ ∧ _ ∧ _ ∧ _ ∧ _ ∧ _ ∧ _ ∧ _ ∧ _ ∧ _ ∧ _ ∧ _) := ⟨@dG.eq_1, @dG.eq_2, @gStep.eq_1, @gRead.eq_1, @gNew.eq_1, @gPut.eq_1, @slotsOf.eq_1, @slotsOf.eq_2, @Wof.eq_1, @Wof.eq_2, @gones.eq_1, @gones.eq_2, @setAll.eq_1, @setAll.eq_2, @mv_row, @mv_b, @mv_own, @mv_ptr⟩
end Go.Proofs.YtcidddfjimbkbaaGreat
