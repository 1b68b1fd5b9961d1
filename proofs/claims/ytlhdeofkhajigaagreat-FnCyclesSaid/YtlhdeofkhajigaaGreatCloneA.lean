/- A clone of a list of numbers of whatever length is a new row of its own. Conditions: at most 1000 numbers. -/
import Derived.Test.YtlhdeofkhajigaaGreatGWI
import Derived.Test.YtlhdeofkhajigaaGreatGSQ
set_option linter.all false
set_option linter.unusedSimpArgs false
set_option linter.unusedVariables false
namespace Go.Proofs.YtlhdeofkhajigaaGreat
open Go Go.RowKit Am

abbrev bxN:Ob := .box [.b (.val (.slice none 0 0))]
theorem sq_reqs {b n k:Nat} (hb:1≤b):reqsB b (sq b n k):=fun r hr=>by
  unfold sq at hr
  obtain ⟨i,-,rfl⟩:=List.mem_map.1 hr
  have:=digS_le hb k (n-1-i)
  omega
theorem clone_h (w:List Int) (hw2:w.length≤1000) (hw:0<w.length):DoesH Tryz.prog 76 [.sl (.ints w)] [] [] (.lf (.own 0)) [.row 3 (.ints w)]:=by
  refine spec_hB Tryz.func76 rfl Tryz.ntmps76 cfOK (fun _ _=>by kernel_rfl) rfl rfl rfl ?_
  intro M0 w0 S φ0
  rw [Tryz.results76]
  (refine awp_fits 0 rfl fun hf => ?_;simp only [xp,simprocAttr] at hf;simp only [xf,simprocAttr] at hf)
  refine amGo ?_
  refine awp_cond amQ (fun hc => ?_) (fun hc => ?_)
  · cases hc
  refine amGoR ?_
  refine amGo ?_
  (simp only [ends_normal,ends_ret];refine retH_1 [0] rfl ⟨rfl,trivial⟩ rfl rfl rfl rfl rfl ?_;try rfl)
end Go.Proofs.YtlhdeofkhajigaaGreat
