/- For every record, 'IsValidRecord' of the program and of the reference give the same, and the law returns true. Conditions: none. -/
import Derived.Test.YtfkfimeepomipaaRows
import Derived.Test.YtfkfimeepomipaaRecord
import Derived.Test.YtfkfimeepomipaaFacts
set_option linter.all false
set_option linter.unusedSimpArgs false
set_option linter.unusedVariables false
namespace Go.Proofs.Ytfkfimeepomipaa.fnExactIsValidRecord
open Go.ChangeShapes Go.WideShapes Go.ChangeAt Go.RowKit

set_option maxHeartbeats 2000000 in
theorem walk (c r : ByteArray) (hc : c.size ≤ 9223372036854775807) (hr : r.size ≤ 9223372036854775807) (w : World) : Calls Try.prog 3 #[.agg #[.string c, .string r]] w fun e w' => e = .returned (.bool true) ∧ Below w.heap.size w w' := by
  obtain ⟨W, hW⟩ : ∃ W, (w.alloc (.cells #[.string c, .string r] 23)) = W := ⟨_, rfl⟩
  have hB : Below w.heap.size w W := by rw [← hW]; exact by repeat (first | exact Below.refl _ _ | apply Below.drew | refine Below.setCell ?_ (by first | (simp; done) | (simp; omega)) _ | refine Below.alloc ?_ (by first | (simp; done) | (simp; omega)) _)
  have c1 : W.cell? ⟨w.heap.size, 0, none⟩ = some (.string c) := by rw [← hW]; simp [go_sem]
  have c2 : W.cell? ⟨w.heap.size, 1, none⟩ = some (.string r) := by rw [← hW]; simp [go_sem]
  by_cases h : (c.size : Int) + r.size ≤ 1048576
  · have hs : 0 ≤ szR c r := by rw [szR_yes h]; omega
    have ht : (recB c r != recB c r) = false := by cases recB c r <;> rfl
    go_enter Try.func3, Try.ntmps3
    go_wp2_with fail
    refine (szRecord_any c r hc hr _).mono ?_
    rintro e w2 ⟨rfl, hb2⟩
    have c1 := (hb2.cell (block_lt c1)).trans c1
    have c2 := (hb2.cell (block_lt c2)).trans c2
    have hB := hB.trans (hb2.mono hB.size)
    dsimp only
    go_wp2_with fail
    refine (toRecord_any _ _ _).mono ?_
    rintro e w2 ⟨rfl, hb2⟩
    have c1 := (hb2.cell (block_lt c1)).trans c1
    have c2 := (hb2.cell (block_lt c2)).trans c2
    have hB := hB.trans (hb2.mono hB.size)
    dsimp only
    go_wp2_with fail
    refine (specRecord_any c r (by omega) (by omega) _).mono ?_
    rintro e w2 ⟨rfl, hb2⟩
    have c1 := (hb2.cell (block_lt c1)).trans c1
    have c2 := (hb2.cell (block_lt c2)).trans c2
    have hB := hB.trans (hb2.mono hB.size)
    dsimp only
    go_wp2_with fail
    refine (toRecord_any _ _ _).mono ?_
    rintro e w2 ⟨rfl, hb2⟩
    have c1 := (hb2.cell (block_lt c1)).trans c1
    have c2 := (hb2.cell (block_lt c2)).trans c2
    have hB := hB.trans (hb2.mono hB.size)
    dsimp only
    go_wp2_with fail
    refine (implRecord_any c r (by omega) (by omega) _).mono ?_
    rintro e w2 ⟨rfl, hb2⟩
    have c1 := (hb2.cell (block_lt c1)).trans c1
    have c2 := (hb2.cell (block_lt c2)).trans c2
    have hB := hB.trans (hb2.mono hB.size)
    dsimp only
    go_wp2
    go_ret
    exact ⟨rfl, hB⟩
  · have hs := szR_no h
    go_enter Try.func3, Try.ntmps3
    go_wp2_with fail
    refine (szRecord_any c r hc hr _).mono ?_
    rw [hs]
    rintro e w2 ⟨rfl, hb2⟩
    have c1 := (hb2.cell (block_lt c1)).trans c1
    have c2 := (hb2.cell (block_lt c2)).trans c2
    have hB := hB.trans (hb2.mono hB.size)
    dsimp only
    go_wp2
    go_ret
    exact ⟨rfl, hB⟩
theorem own : ownKnob Try.prog.godebug = none := by kernel_rfl
theorem two {cs : Array Value} {u1 u2 : Value} (h : cs.size = 2) (h1 : ((cs.toList).drop 0).take 1 = [u1]) (h2 : ((cs.toList).drop 1).take 1 = [u2]) : cs = #[u1, u2] := by
  obtain ⟨l⟩ := cs
  match l, h with
  | [a, b], _ =>
    simp at h1 h2
    rw [h1, h2]
set_option maxRecDepth 100000 in
theorem lifted (os : Os) (started : os.Started) (H : Type) (enc : TypeId × Value → H) :
    ReturnsInHanded {} Try.checked os 3 .any (Rows.fnExactIsValidRecordSpec.pre6 enc Try.prog Try.f3 Rows.fnExactIsValidRecordRow.domain false) (Rows.fnExactIsValidRecordSpec.post enc Try.prog Try.f3 false true false false) := by
  refine returnsInHanded_of_change (C := Try.checked) own started (by kernel_rfl) Try.func3
    (ChangeSpec.witness6 (enc := enc) (C := Try.checked) false ⟨#[], #[.agg #[.string ⟨#[]⟩, .string ⟨#[]⟩]], []⟩ 8 (by kernel_rfl) (by kernel_rfl) (by kernel_rfl) (by kernel_rfl)) ?_
  intro W base args ds gs before hval0 hW hcnd _
  have hval : ∀ (j : Nat) t v, Try.f3.params[j]? = some t → args[j]? = some v → Value.okWide Try.prog W .any base t v := hval0
  have hW' := hW
  obtain ⟨p, q, hA0, hV, rfl, hfz, hnd⟩ := hW
  have hA : DataW.TrodAll enc Try.prog W 0 (fun _ => true) true Try.f3.params.toList args.toList ds p := hA0
  rw [Try.params3] at hA hval
  obtain ⟨v0, vs0, d0, ds0, p0, q0, hargs, rfl, rfl, ⟨f0, h0⟩, r0⟩ := trodAll_cons hA
  obtain ⟨rfl, rfl, rfl⟩ := trodAll_nil r0
  obtain rfl : args = #[v0] := by cases args; simp_all
  obtain ⟨rfl, rfl⟩ := trodVars_none hV
  obtain ⟨cs0, rfl, z0⟩ := okWide_struct Try.underlying23 (hval 0 23 v0 rfl rfl)
  obtain ⟨y0a, y0b, k0, _, _, k0a, k0b⟩ := trod_struct2 Try.underlying23 h0
  obtain ⟨x0a, e0a, _, m0a⟩ := DataW.trod_string Try.underlying9 k0a
  obtain ⟨x0b, e0b, _, m0b⟩ := DataW.trod_string Try.underlying9 k0b
  rw [show Try.prog.cellsOf 23 = 2 by kernel_rfl] at z0
  obtain rfl := two z0 e0a e0b
  refine (walk x0a x0b (by simpa [maxLen] using m0a) (by simpa [maxLen] using m0b) W).mono fun e W' ⟨he, hg⟩ => ⟨.bool true, he, ?_⟩
  exact law_post laidF (by rw [Try.params3]; intro t ht; simp at ht; subst ht; exact ⟨by kernel_rfl, of_decide_eq_true (by kernel_rfl)⟩) rfl (by kernel_rfl) Try.underlying4 hW' rfl hg
theorem closed : joinedFacts Try.prog 3 Try.f3 Rows.fnExactIsValidRecordSpec Rows.fnExactIsValidRecordRow = true := by
  unfold joinedFacts
  rw [mayF, liftF, makeF, laidF, mapsF]
  kernel_rfl
theorem over : Rows.fnExactIsValidRecordRow.holds Try.pinned (OpenSpec.ofChange Rows.fnExactIsValidRecordSpec) :=
  OpenClaim.holds_of_wide 3 Try.f3 rfl rfl rfl rfl rfl rfl rfl ⟨rfl, rfl, rfl, rfl, rfl⟩ rfl rfl rfl rfl rfl (by kernel_rfl) Try.func3 closed
    (of_decide_eq_true (by kernel_rfl)) (by unfold Func.isWrapper; first | (rw [if_pos (by decide +kernel)]; kernel_rfl) | (rw [if_neg (by decide +kernel)]; exact ⟨rfl, rfl⟩))
    (fun os started H enc _ => lifted os started H enc)
/-- THE STATEMENT -/
theorem proved : Rows.FnExactIsValidRecordSaid := over
end Go.Proofs.Ytfkfimeepomipaa.fnExactIsValidRecord
