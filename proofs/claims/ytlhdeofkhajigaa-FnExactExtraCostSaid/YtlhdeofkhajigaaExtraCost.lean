/- For every problem, algorithm, state and ratio, 'ExtraCost' of the program and of the reference give the same, no argument is turned, and the law returns true. Conditions: none. -/
import Derived.Test.YtlhdeofkhajigaaRows
import Derived.Test.YtlhdeofkhajigaaExtra
import Derived.Test.YtlhdeofkhajigaaFacts
import Derived.Test.YtlhdeofkhajigaaOpen
set_option linter.all false
set_option linter.unusedSimpArgs false
set_option linter.unusedVariables false
namespace Go.Proofs.Ytlhdeofkhajigaa.fnExactExtraCost
open Go.ChangeShapes Go.WideShapes Go.ChangeAt Go.RowKit Go.Proofs.Ytlhdeofkhajigaa.Am

theorem law_d (x0a : List (List Int)) (x0b : List (List Int)) (x1 : List (List Int)) (x2 : Int) (x3 : Int × Int) : Does Try.prog 4 [prA x0a x0b, .sl (.ii x1), .int x2, frA x3] (.imm (.bool true)) := by
  refine spec_imm Try.func4 rfl Try.ntmps4 cfOK (fun _ _ => by kernel_rfl) rfl (Nat.le_of_ble_eq_true rfl) ?_
  intro M0 w0
  rw [Try.results4]
  refine amGo ?_
  ((try refine Or.inl ?_); refine ⟨_, (szProblem_d x0a x0b _ (by omega) (by omega)), .inl rfl, ?_⟩; refine amC ?_)
  refine amGo ?_
  refine awp_cond amQ (fun hc0 => ?_) (fun hc0 => ?_)
  · refine amGo ?_
    (simp only [xe, simprocAttr]; refine ⟨_, rfl, rfl, Imp.eq ?_⟩)
    rfl
  have hc0 := Int.not_lt.1 (of_decide_eq_false hc0)
  have hl0 : (szS2 szII szII x0a x0b 1048576) ≤ 1048576 := Int.le_trans (szS2_le (fun x {_} h => szII_le x h) (fun x {_} h => szII_le x h) x0a x0b (by omega)) (by omega)
  have hk0 := szS2_ok hc0
  have ha0 := szII_sm (by omega) hk0.1
  have hb0 := szII_sm (Int.le_trans (szII_le x0a (by omega)) (by omega)) hk0.2
  refine amGo ?_
  ((try refine Or.inl ?_); refine ⟨_, (szII_d x1 _ hc0 hl0), .inl rfl, ?_⟩; refine amC ?_)
  refine amGo ?_
  refine awp_cond amQ (fun hc1 => ?_) (fun hc1 => ?_)
  · refine amGo ?_
    (simp only [xe, simprocAttr]; refine ⟨_, rfl, rfl, Imp.eq ?_⟩)
    rfl
  have hc1 := Int.not_lt.1 (of_decide_eq_false hc1)
  have hl1 : (szII x1 (szS2 szII szII x0a x0b 1048576)) ≤ 1048576 := Int.le_trans (szII_le x1 hc0) hl0
  have ha1 := szII_sm hl0 hc1
  first | (refine amB ?_; refine awp_anyM [] 0 [] (by kernel_rfl) (by kernel_rfl) (by kernel_rfl) (by kernel_rfl) (by kernel_rfl) ?_; refine amM ?_) | refine amGo ?_
  ((try refine Or.inl ?_); refine ⟨_, (toProblem_d x0a x0b ha0 hb0), amF, ?_⟩; refine amC ?_)
  ((try refine Or.inl ?_); refine ⟨_, (toII_d x1 ha1.1 ha1.2), amF, ?_⟩; refine amC ?_)
  ((try refine Or.inl ?_); refine ⟨_, (toFrac_d x3), amF, ?_⟩; refine amC ?_)
  ((try refine Or.inl ?_); refine ⟨_, (spec_ExtraCost_d x0a x0b x1 x2 x3), .inl rfl, ?_⟩; refine amC ?_)
  refine amGo ?_
  ((try refine Or.inl ?_); refine ⟨_, (toProblem_d x0a x0b ha0 hb0), amF, ?_⟩; refine amC ?_)
  refine amGo ?_
  ((try refine Or.inl ?_); refine ⟨_, (toII_d x1 ha1.1 ha1.2), amF, ?_⟩; refine amC ?_)
  (refine amB ?_; refine awp_anyM [] 0 [] (by kernel_rfl) (by kernel_rfl) (by kernel_rfl) (by kernel_rfl) (by kernel_rfl) ?_; refine amM ?_)
  ((try refine Or.inl ?_); refine ⟨_, (toFrac_d x3), amF, ?_⟩; refine amC ?_)
  ((try refine Or.inl ?_); refine ⟨_, (impl_ExtraCost_d x0a x0b x1 x2 x3), .inl rfl, ?_⟩; refine amC ?_)
  refine amGo ?_
  ((try refine Or.inl ?_); refine ⟨_, (eqFrac_d _ _), .inl rfl, ?_⟩; refine amC ?_)
  refine amGo ?_
  refine awp_cond amQ (fun he => ?_) (fun he => ?_)
  · simp at he
  clear he
  refine amGo ?_
  ((try refine Or.inl ?_); refine ⟨_, (toProblem_d x0a x0b ha0 hb0), amF, ?_⟩; refine amC ?_)
  ((try refine Or.inl ?_); refine ⟨_, (eqProblem_d x0a x0a x0b x0b), .inl rfl, ?_⟩; refine amC ?_)
  refine amGo ?_
  refine awp_cond amQ (fun he => ?_) (fun he => ?_)
  · simp at he
  clear he
  refine amGo ?_
  ((try refine Or.inl ?_); refine ⟨_, (toII_d x1 ha1.1 ha1.2), amF, ?_⟩; refine amC ?_)
  ((try refine Or.inl ?_); refine ⟨_, (eqII_d x1 x1), .inl rfl, ?_⟩; refine amC ?_)
  refine amGo ?_
  refine awp_cond amQ (fun he => ?_) (fun he => ?_)
  · simp at he
  clear he
  refine amGo ?_
  (simp only [xe, simprocAttr]; refine ⟨_, rfl, rfl, Imp.eq ?_⟩)
  rfl
theorem own : ownKnob Try.prog.godebug = none := by kernel_rfl
theorem cells1 : Try.prog.cellsOf 3 = 1 ∧ Try.prog.cellsOf 29 = 1 := ⟨by kernel_rfl, by kernel_rfl⟩
theorem openS {H : Type} {enc : TypeId × Value → H} {w : World} {base : Nat} {held : Bool} {fuel : Nat} {cs : List Value} {y : DataW H × List MemPlace} (h : DataW.trod enc Try.prog w base (fun _ => true) held fuel 29 cs = some y) : ∃ v xs, cs = [v] ∧ SlI w v xs := by
  obtain ⟨v, xs, h1, h2, -⟩ := openI Try.underlying29 Try.underlying3 cells1.1 h
  exact ⟨v, xs, h1, h2⟩
theorem openSS {H : Type} {enc : TypeId × Value → H} {w : World} {base : Nat} {held : Bool} {fuel : Nat} {cs : List Value} {y : DataW H × List MemPlace} (h : DataW.trod enc Try.prog w base (fun _ => true) held fuel 22 cs = some y) : ∃ v xs, cs = [v] ∧ SlO SlI w v xs := by
  obtain ⟨v, xs, h1, h2, -⟩ := openO (R := SlI) (Q := fun _ => True) Try.underlying22 (by kernel_rfl) (fun _ _ _ h => by obtain ⟨v, x, h1, h2⟩ := openS h; exact ⟨v, x, h1, h2, trivial⟩) h
  exact ⟨v, xs, h1, h2⟩
theorem two {cs : Array Value} {u1 u2 : Value} (h : cs.size = 2) (h1 : ((cs.toList).drop 0).take 1 = [u1]) (h2 : ((cs.toList).drop 1).take 1 = [u2]) : cs = #[u1, u2] := by
  obtain ⟨l⟩ := cs
  match l, h with
  | [a, b], _ =>
    simp at h1 h2
    rw [h1, h2]
set_option maxRecDepth 100000 in
theorem lifted (os : Os) (started : os.Started) (H : Type) (enc : TypeId × Value → H) :
    ReturnsInHanded {} Try.checked os 4 .any (Rows.fnExactExtraCostSpec.pre6 enc Try.prog Try.f4 Rows.fnExactExtraCostRow.domain false) (Rows.fnExactExtraCostSpec.post enc Try.prog Try.f4 false true false false) := by
  refine returnsInHanded_of_change (C := Try.checked) own started (by kernel_rfl) Try.func4
    (ChangeSpec.witness6 (enc := enc) (C := Try.checked) false ⟨#[], #[.agg #[.slice none 0 0, .slice none 0 0], .slice none 0 0, .int .i64 0, .agg #[.int .i64 0, .int .i64 0]], []⟩ 8 (by kernel_rfl) (by kernel_rfl) (by kernel_rfl) (by kernel_rfl)) ?_
  intro W base args ds gs before hval0 hW hcnd _
  have hval : ∀ (j : Nat) t v, Try.f4.params[j]? = some t → args[j]? = some v → Value.okWide Try.prog W .any base t v := hval0
  have hW' := hW
  obtain ⟨p, q, hA0, hV, rfl, hfz, hnd⟩ := hW
  have hA : DataW.TrodAll enc Try.prog W 0 (fun _ => true) true Try.f4.params.toList args.toList ds p := hA0
  rw [Try.params4] at hA hval
  obtain ⟨v0, vs0, d0, ds0, p0, q0, hargs, rfl, rfl, ⟨f0, h0⟩, r0⟩ := trodAll_cons hA
  obtain ⟨v1, vs1, d1, ds1, p1, q1, rfl, rfl, rfl, ⟨f1, h1⟩, r1⟩ := trodAll_cons r0
  obtain ⟨v2, vs2, d2, ds2, p2, q2, rfl, rfl, rfl, h2, r2⟩ := trodAll_cons r1
  obtain ⟨v3, vs3, d3, ds3, p3, q3, rfl, rfl, rfl, ⟨f3, h3⟩, r3⟩ := trodAll_cons r2
  obtain ⟨rfl, rfl, rfl⟩ := trodAll_nil r3
  obtain rfl : args = #[v0, v1, v2, v3] := by cases args; simp_all
  obtain ⟨rfl, rfl⟩ := trodVars_none hV
  obtain ⟨cs0, rfl, z0⟩ := okWide_struct Try.underlying24 (hval 0 24 v0 rfl rfl)
  obtain ⟨y0a, y0b, k0, _, _, k0a, k0b⟩ := trod_struct2 Try.underlying24 h0
  obtain ⟨u0a, x0a, e0a, g0a⟩ := openSS k0a
  obtain ⟨u0b, x0b, e0b, g0b⟩ := openSS k0b
  rw [show Try.prog.cellsOf 24 = 2 by kernel_rfl] at z0
  obtain rfl := two z0 e0a e0b
  obtain ⟨u1, x1, e1, g1⟩ := openSS h1
  obtain ⟨A1, l1, c1, rfl⟩ := okWide_slice Try.underlying22 (hval 1 22 v1 rfl rfl)
  simp only [Value.cells, List.cons.injEq, and_true] at e1
  subst e1
  obtain ⟨n2, rfl, rfl, rfl, w2⟩ := open_int Try.underlying3 (hval 2 3 v2 rfl rfl) h2
  obtain ⟨cs3, rfl, z3⟩ := okWide_struct Try.underlying26 (hval 3 26 v3 rfl rfl)
  obtain ⟨y3a, y3b, k3, _, _, k3a, k3b⟩ := trod_struct2 Try.underlying26 h3
  obtain ⟨x3a, e3a, _, _⟩ := DataW.trod_int Try.underlying3 k3a
  obtain ⟨x3b, e3b, _, _⟩ := DataW.trod_int Try.underlying3 k3b
  rw [show Try.prog.cellsOf 26 = 2 by kernel_rfl] at z3
  obtain rfl := two z3 e3a e3b
  refine (calls_val (law_d x0a x0b x1 n2 (x3a, x3b)) (args_cons (two_ls (sii_of_sl g0a) (sii_of_sl g0b)) (args_cons (sii_of_sl g1) (args_cons rfl (args_cons (two_ls rfl rfl) args_nil))))).mono fun e W' ⟨he, hg⟩ => ⟨.bool true, he, ?_⟩
  exact law_post laidF (by rw [Try.params4]; intro t ht; simp at ht; rcases ht with rfl | rfl | rfl | rfl <;> exact ⟨by kernel_rfl, of_decide_eq_true (by kernel_rfl)⟩) rfl (by kernel_rfl) Try.underlying4 hW' rfl hg
theorem closed : joinedFacts Try.prog 4 Try.f4 Rows.fnExactExtraCostSpec Rows.fnExactExtraCostRow = true := by
  unfold joinedFacts
  rw [mayF, liftF, makeF, laidF, mapsF]
  kernel_rfl
theorem over : Rows.fnExactExtraCostRow.holds Try.pinned (OpenSpec.ofChange Rows.fnExactExtraCostSpec) :=
  OpenClaim.holds_of_wide 4 Try.f4 rfl rfl rfl rfl rfl rfl rfl ⟨rfl, rfl, rfl, rfl, rfl⟩ rfl rfl rfl rfl rfl (by kernel_rfl) Try.func4 closed
    (of_decide_eq_true (by kernel_rfl)) (by unfold Func.isWrapper; first | (rw [if_pos (by decide +kernel)]; kernel_rfl) | (rw [if_neg (by decide +kernel)]; exact ⟨rfl, rfl⟩))
    (fun os started H enc _ => lifted os started H enc)
/-- THE STATEMENT -/
theorem proved : Rows.FnExactExtraCostSaid := over
end Go.Proofs.Ytlhdeofkhajigaa.fnExactExtraCost
