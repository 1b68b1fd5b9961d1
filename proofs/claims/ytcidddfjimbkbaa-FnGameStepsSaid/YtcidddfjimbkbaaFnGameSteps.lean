/- For all choices, the steps of a drawn game are all steps, lead to positions with the next offsets and cost what they should, and the program and the reference find the same; the law returns true. Conditions: none. -/
import Derived.Test.YtcidddfjimbkbaaRows
import Derived.Test.YtcidddfjimbkbaaGGS
import Derived.Test.YtcidddfjimbkbaaLawEnd
import Derived.Test.YtcidddfjimbkbaaOpen
import Derived.Test.YtcidddfjimbkbaaOpenB
import Derived.Test.YtcidddfjimbkbaaFacts
set_option linter.all false
set_option linter.unusedSimpArgs false
set_option linter.unusedVariables false
namespace Go.Proofs.Ytcidddfjimbkbaa.fnGameSteps
open Go Go.ChangeShapes Go.WideShapes Go.ChangeAt Go.RowKit Go.Proofs.Ytcidddfjimbkbaa.Am

theorem law_d {bs : List Int} (hb : ∀ b ∈ bs, 0 ≤ b ∧ b < 256) : Does Try.prog 4 [.lf (.b (.raw bs))] (.imm (.bool true)) := by
  by_cases hbig : 65536 < (bs.length : Int)
  · exact walkG_big hbig
  obtain ⟨m, s, x, _, _, hD⟩ := drawGame_x hb
  cases h : posB m s x with
  | false => exact walkG_bad hbig hD h
  | true => exact walkG_good hbig hD h
theorem own : ownKnob Try.prog.godebug = none := by kernel_rfl
theorem cells1 : Try.prog.cellsOf 3 = 1 ∧ Try.prog.cellsOf 27 = 1 := ⟨by kernel_rfl, by kernel_rfl⟩
theorem cells8 : Try.prog.cellsOf 5 = 1 := by kernel_rfl
theorem openB {H : Type} {enc : TypeId × Value → H} {w : World} {base : Nat} {held : Bool} {fuel : Nat} {cs : List Value} {y : DataW H × List MemPlace} (h : DataW.trod enc Try.prog w base (fun _ => true) held fuel 22 cs = some y) : ∃ v xs, cs = [v] ∧ SB w.cell? v xs ∧ ∀ n ∈ xs, 0 ≤ n ∧ n < 256 := openBy Try.underlying22 Try.underlying5 cells8 h
theorem two {cs : Array Value} {u1 u2 : Value} (h : cs.size = 2) (h1 : ((cs.toList).drop 0).take 1 = [u1]) (h2 : ((cs.toList).drop 1).take 1 = [u2]) : cs = #[u1, u2] := by
  obtain ⟨l⟩ := cs
  match l, h with
  | [a, b], _ =>
    simp at h1 h2
    rw [h1, h2]
set_option maxRecDepth 100000 in
theorem lifted (os : Os) (started : os.Started) (H : Type) (enc : TypeId × Value → H) :
    ReturnsInHanded {} Try.checked os 4 .any (Rows.fnGameStepsSpec.pre6 enc Try.prog Try.f4 Rows.fnGameStepsRow.domain false) (Rows.fnGameStepsSpec.post enc Try.prog Try.f4 false true false false) := by
  refine returnsInHanded_of_change (C := Try.checked) own started (by kernel_rfl) Try.func4
    (ChangeSpec.witness6 (enc := enc) (C := Try.checked) false ⟨#[], #[.slice none 0 0], []⟩ 8 (by kernel_rfl) (by kernel_rfl) (by kernel_rfl) (by kernel_rfl)) ?_
  intro W base args ds gs before hval0 hW hcnd _
  have hval : ∀ (j : Nat) t v, Try.f4.params[j]? = some t → args[j]? = some v → Value.okWide Try.prog W .any base t v := hval0
  have hW' := hW
  obtain ⟨p, q, hA0, hV, rfl, hfz, hnd⟩ := hW
  have hA : DataW.TrodAll enc Try.prog W 0 (fun _ => true) true Try.f4.params.toList args.toList ds p := hA0
  rw [Try.params4] at hA hval
  obtain ⟨v0, vs0, d0, ds0, p0, q0, hargs, rfl, rfl, ⟨f0, h0⟩, r0⟩ := trodAll_cons hA
  obtain ⟨rfl, rfl, rfl⟩ := trodAll_nil r0
  obtain rfl : args = #[v0] := by cases args; simp_all
  obtain ⟨rfl, rfl⟩ := trodVars_none hV
  obtain ⟨u0, x0, e0, ⟨g0, b0⟩⟩ := openB h0
  obtain ⟨A0, l0, c0, rfl⟩ := okWide_slice Try.underlying22 (hval 0 22 v0 rfl rfl)
  simp only [Value.cells, List.cons.injEq, and_true] at e0
  subst e0
  refine (calls_val (law_d b0) (args_cons g0 args_nil)).mono fun e W' ⟨he, hg⟩ => ⟨.bool true, he, ?_⟩
  exact law_post laidF (by rw [Try.params4]; intro t ht; simp at ht; subst ht; exact ⟨by kernel_rfl, of_decide_eq_true (by kernel_rfl)⟩) rfl (by kernel_rfl) Try.underlying4 hW' rfl hg
theorem closed : joinedFacts Try.prog 4 Try.f4 Rows.fnGameStepsSpec Rows.fnGameStepsRow = true := by
  unfold joinedFacts
  rw [mayF, liftF, makeF, laidF, mapsF]
  kernel_rfl
theorem over : Rows.fnGameStepsRow.holds Try.pinned (OpenSpec.ofChange Rows.fnGameStepsSpec) :=
  OpenClaim.holds_of_wide 4 Try.f4 rfl rfl rfl rfl rfl rfl rfl ⟨rfl, rfl, rfl, rfl, rfl⟩ rfl rfl rfl rfl rfl (by kernel_rfl) Try.func4 closed
    (of_decide_eq_true (by kernel_rfl)) (by unfold Func.isWrapper; first | (rw [if_pos (by decide +kernel)]; kernel_rfl) | (rw [if_neg (by decide +kernel)]; exact ⟨rfl, rfl⟩))
    (fun os started H enc _ => lifted os started H enc)
/-- THE STATEMENT -/
theorem proved : Rows.FnGameStepsSaid := over
end Go.Proofs.Ytcidddfjimbkbaa.fnGameSteps
