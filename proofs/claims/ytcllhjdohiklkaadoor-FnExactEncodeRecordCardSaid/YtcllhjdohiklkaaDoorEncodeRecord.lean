/- For every number and record, 'EncodeRecord' of the program and of the reference give the same, no argument is turned, and the law returns true, where the library's three tables stand as the program's text lays them. Conditions: those of the given card. -/
import Derived.Test.YtcllhjdohiklkaaDoorRows
import Derived.Test.YtcllhjdohiklkaaDoorCards
import Derived.Test.YtcllhjdohiklkaaDoorTie
import Derived.Test.YtcllhjdohiklkaaDoorEncode
import Derived.Test.YtcllhjdohiklkaaDoorFacts
import Derived.ProofKit
import Derived.LaidMore
import Derived.OpenShut
import Derived.Stop.Joined
import Derived.Stop.LaidErr
import Derived.SevenTiedAt
set_option linter.all false
set_option linter.unusedSimpArgs false
set_option linter.unusedVariables false
namespace Go.Proofs.YtcllhjdohiklkaaDoor.fnExactEncodeRecord
open Go.ChangeShapes Go.WideShapes Go.ChangeAt Go.WideMaps Go.WideElems Go.RowKit

set_option maxHeartbeats 4000000 in
theorem walk (k : Int) (c r : ByteArray) (hc : c.size ≤ 9223372036854775807) (hr : r.size ≤ 9223372036854775807) (w : World) (ht0 : Tab w) : Calls Tryd.prog 3 #[.int .i64 k, .agg #[.string c, .string r]] w fun e w' => e = .returned (.bool true) ∧ Below w.heap.size w w' := by
  obtain ⟨W, hW⟩ : ∃ W, (w.alloc (.cells #[.string c, .string r] 23)) = W := ⟨_, rfl⟩
  have hB : Below w.heap.size w W := by rw [← hW]; exact by repeat (first | exact Below.refl _ _ | apply Below.drew | refine Below.setCell ?_ (by first | (simp; done) | (simp; omega)) _ | refine Below.alloc ?_ (by first | (simp; done) | (simp; omega)) _)
  have c1 : W.cell? ⟨w.heap.size, 0, none⟩ = some (.string c) := by rw [← hW]; simp [go_sem]
  have c2 : W.cell? ⟨w.heap.size, 1, none⟩ = some (.string r) := by rw [← hW]; simp [go_sem]
  have ht := ht0.below hB
  by_cases h : (c.size : Int) + r.size ≤ 1048576
  · have hs : 0 ≤ szR c r := by rw [szR_yes h]; omega
    have hq : (encB k c r != encB k c r) = false := by cases encB k c r <;> rfl
    go_enter Tryd.func3, Tryd.ntmps3
    go_wp2_with fail
    refine (szRecord_any c r hc hr _).mono ?_
    rintro e w2 ⟨rfl, hb2⟩
    have c1 := (hb2.cell (block_lt c1)).trans c1
    have c2 := (hb2.cell (block_lt c2)).trans c2
    have hB := hB.trans (hb2.mono hB.size)
    have ht := ht.below hb2
    dsimp only
    go_wp2_with fail
    refine (toRecord_any _ _ _).mono ?_
    rintro e w2 ⟨rfl, hb2⟩
    have c1 := (hb2.cell (block_lt c1)).trans c1
    have c2 := (hb2.cell (block_lt c2)).trans c2
    have hB := hB.trans (hb2.mono hB.size)
    have ht := ht.below hb2
    dsimp only
    go_wp2_with fail
    refine (specEnc_any k c r (by omega) (by omega) _ ht).mono ?_
    rintro e w2 ⟨rfl, hb2⟩
    have c1 := (hb2.cell (block_lt c1)).trans c1
    have c2 := (hb2.cell (block_lt c2)).trans c2
    have hB := hB.trans (hb2.mono hB.size)
    have ht := ht.below hb2
    dsimp only
    go_wp2_with fail
    refine (toRecord_any _ _ _).mono ?_
    rintro e w2 ⟨rfl, hb2⟩
    have c1 := (hb2.cell (block_lt c1)).trans c1
    have c2 := (hb2.cell (block_lt c2)).trans c2
    have hB := hB.trans (hb2.mono hB.size)
    have ht := ht.below hb2
    dsimp only
    go_wp2_with fail
    refine (implEnc_any k c r (by omega) (by omega) _ ht).mono ?_
    rintro e w2 ⟨rfl, hb2⟩
    have c1 := (hb2.cell (block_lt c1)).trans c1
    have c2 := (hb2.cell (block_lt c2)).trans c2
    have hB := hB.trans (hb2.mono hB.size)
    have ht := ht.below hb2
    dsimp only
    go_wp2
    go_ret
    exact ⟨rfl, hB⟩
  · have hs := szR_no h
    go_enter Tryd.func3, Tryd.ntmps3
    go_wp2_with fail
    refine (szRecord_any c r hc hr _).mono ?_
    rw [hs]
    rintro e w2 ⟨rfl, hb2⟩
    have c1 := (hb2.cell (block_lt c1)).trans c1
    have c2 := (hb2.cell (block_lt c2)).trans c2
    have hB := hB.trans (hb2.mono hB.size)
    have ht := ht.below hb2
    dsimp only
    go_wp2
    go_ret
    exact ⟨rfl, hB⟩
theorem own : ownKnob Tryd.prog.godebug = none := by kernel_rfl
theorem two {cs : Array Value} {u1 u2 : Value} (h : cs.size = 2) (h1 : ((cs.toList).drop 0).take 1 = [u1]) (h2 : ((cs.toList).drop 1).take 1 = [u2]) : cs = #[u1, u2] := by
  obtain ⟨l⟩ := cs
  match l, h with
  | [a, b], _ =>
    simp at h1 h2
    rw [h1, h2]
abbrev tabs : List (String × DataW Unit) := [("math/bits.deBruijn32tab", Rows.laid_math_bits_deBruijn32tab), ("math/bits.deBruijn64tab", Rows.laid_math_bits_deBruijn64tab), (powN, Lib.tabData .u64 Lib.pow10Tab)]
theorem tabs_eq : Rows.fnExactEncodeRecordRow.laid = tabs := by kernel_rfl
/-- the tables as the program's text lays them meet the row's condition -/
theorem door_met (os : Os) (args : Array Value) : laidMetH Tryd.prog Rows.fnExactEncodeRecordRow.laid ((World.doorLaid Tryd.prog 400 os).forCall (fun _ _ => 0) ⟨#[], args, []⟩).memory :=
  laidMetH_of_parts3 (fuel := 8) (laidMet_of_run' 8 (by kernel_rfl) (by kernel_rfl)) (by kernel_rfl) (by kernel_rfl)
theorem tPow : (Tryd.prog.globals[1]?).map (·.type) = some 57 := by kernel_rfl
theorem of_laid {W : World} (h : laidMetH Tryd.prog Rows.fnExactEncodeRecordRow.laid W) : Tab W := by
  rw [tabs_eq, MakeChecks.laidMetH_plain _ _ _ (by kernel_rfl)] at h
  exact Lib.tabIs_of_head gPow tPow Tryd.underlying57 Tryd.underlying47 (by kernel_rfl) (by kernel_rfl) h.tail.tail
set_option maxRecDepth 100000 in
theorem lifted (os : Os) (started : os.Started) (H : Type) (enc : TypeId × Value → H) :
    ReturnsInHanded {} Tryd.checked os 3 .any (fun w args => (Rows.fnExactEncodeRecordSpec.pre enc Tryd.prog Tryd.f3 Rows.fnExactEncodeRecordRow.domain false w args ∧ laidMetH Tryd.prog Rows.fnExactEncodeRecordRow.laid w) ∧ sizedMet enc Tryd.prog Tryd.f3 (OpenSpec.ofChange Rows.fnExactEncodeRecordSpec) false w args)
      (Rows.fnExactEncodeRecordSpec.post enc Tryd.prog Tryd.f3 false true false false) := by
  refine returnsInHanded_of_change_and (C := Tryd.checked) (X := fun w _ => laidMetH Tryd.prog Rows.fnExactEncodeRecordRow.laid w) (fun _ _ _ hh h => h.of_heap hh) own started (by kernel_rfl) Tryd.func3
    (ChangeSpec.witness_shaped (enc := enc) (C := Tryd.checked) (os := os) (X := fun w _ => laidMetH Tryd.prog Rows.fnExactEncodeRecordRow.laid w) false (World.doorLaid Tryd.prog 400 os) #[.int .i64 0, .agg #[.string ⟨#[]⟩, .string ⟨#[]⟩]] 8 rfl (World.shaped_of_RefB (by kernel_rfl) (by kernel_rfl)) (by kernel_rfl) (by kernel_rfl) (by kernel_rfl) (door_met os _)) ?_
  intro W base args ds gs before hval0 hW _ _ hL _
  have hval : ∀ (j : Nat) t v, Tryd.f3.params[j]? = some t → args[j]? = some v → Value.okWide Tryd.prog W .any base t v := hval0
  have hW' := hW
  obtain ⟨p, q, hA0, hV, rfl, hfz, hnd⟩ := hW
  have hA : DataW.TrodAll enc Tryd.prog W 0 (fun _ => true) true Tryd.f3.params.toList args.toList ds p := hA0
  rw [Tryd.params3] at hA hval
  obtain ⟨v0, vs0, d0, ds0, p0, q0, hargs, rfl, rfl, h0, r0⟩ := trodAll_cons hA
  obtain ⟨v1, vs1, d1, ds1, p1, q1, rfl, rfl, rfl, ⟨f1, h1⟩, r1⟩ := trodAll_cons r0
  obtain ⟨rfl, rfl, rfl⟩ := trodAll_nil r1
  obtain rfl : args = #[v0, v1] := by cases args; simp_all
  obtain ⟨rfl, rfl⟩ := trodVars_none hV
  obtain ⟨k0, rfl, rfl, rfl, wf0⟩ := open_int Tryd.underlying3 (hval 0 3 v0 rfl rfl) h0
  obtain ⟨cs0, rfl, z0⟩ := okWide_struct Tryd.underlying23 (hval 1 23 v1 rfl rfl)
  obtain ⟨y0a, y0b, k1, _, _, k0a, k0b⟩ := trod_struct2 Tryd.underlying23 h1
  obtain ⟨x0a, e0a, _, m0a⟩ := DataW.trod_string Tryd.underlying9 k0a
  obtain ⟨x0b, e0b, _, m0b⟩ := DataW.trod_string Tryd.underlying9 k0b
  rw [show Tryd.prog.cellsOf 23 = 2 by kernel_rfl] at z0
  obtain rfl := two z0 e0a e0b
  refine (walk k0 x0a x0b (by simpa [maxLen] using m0a) (by simpa [maxLen] using m0b) W (of_laid hL)).mono fun e W' ⟨he, hg⟩ => ⟨.bool true, he, ?_⟩
  exact law_post laidF (by rw [Tryd.params3]; intro t ht; simp at ht; rcases ht with rfl | rfl <;> exact ⟨by kernel_rfl, of_decide_eq_true (by kernel_rfl)⟩) rfl (by kernel_rfl) Tryd.underlying4 hW' rfl hg
theorem closed : joinedFacts Tryd.prog 3 Tryd.f3 Rows.fnExactEncodeRecordSpec Rows.fnExactEncodeRecordRow = true := by
  unfold joinedFacts
  rw [mayF, liftF, makeF, laidF, mapsF]
  kernel_rfl
theorem over : Rows.fnExactEncodeRecordRow.holds Tryd.pinned (OpenSpec.ofChange Rows.fnExactEncodeRecordSpec) :=
  OpenClaim.holds_of_wide 3 Tryd.f3 rfl rfl rfl rfl rfl rfl rfl ⟨rfl, rfl, rfl, rfl, rfl⟩ rfl rfl rfl rfl rfl (by kernel_rfl) Tryd.func3 closed
    (of_decide_eq_true (by kernel_rfl)) (by unfold Func.isWrapper; first | (rw [if_pos (by decide +kernel)]; kernel_rfl) | (rw [if_neg (by decide +kernel)]; exact ⟨rfl, rfl⟩))
    (fun os started H enc _ => lifted os started H enc)
/-- THE STATEMENT -/
theorem proved : Rows.FnExactEncodeRecordCardSaid :=
  Claim7.holds_tied_plain_at .later [] [.data, .data, .data] true (true, "55e879f3041d0f10a95043f3e2e71f1a7aef0b2931c17188424d4dabbae6fe47") false
    over (fun _ h => by cases h) (by kernel_rfl) (fun _ h => by cases h) fnExactEncodeRecord_row_tie rfl ⟨rfl, rfl⟩ (by kernel_rfl) rfl
    (fun f fn hf hfn => by
      obtain rfl : f = 3 := Option.some.inj ((show Tryd.prog.funcNamed "loop.example/g01087/laws.FnExactEncodeRecord" = some 3 by kernel_rfl).symm.trans hf) |>.symm
      obtain rfl : fn = Tryd.f3 := (Option.some.inj (Tryd.func3.symm.trans hfn)).symm
      exact ⟨by kernel_rfl, fun j t ht => by
        rw [Tryd.params3] at ht
        have hm : t ∈ [3, 23] := by simpa using Array.mem_of_getElem? ht
        have hall : ([3, 23].all fun u => !Tryd.prog.wantsStandIn u) = true := by kernel_rfl
        exact (show Tryd.prog.wantsStandIn t = false by simpa using List.all_eq_true.1 hall t hm)⟩)
    (by kernel_rfl)
end Go.Proofs.YtcllhjdohiklkaaDoor.fnExactEncodeRecord
