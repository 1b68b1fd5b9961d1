/- For every matrix and weights, 'ColumnsWorst' of the program and of the reference give the same, no argument is turned, and the law returns true. Conditions: none. -/
import Derived.Test.YtjleohbjanlamaaRows
import Derived.Test.YtjleohbjanlamaaColumnsV
import Derived.Test.YtjleohbjanlamaaLawII
import Derived.Test.YtjleohbjanlamaaOpen
namespace Go.Proofs.Ytjleohbjanlamaa.fnExactColumnsWorst
open Go.ChangeShapes Go.WideShapes Go.ChangeAt Go.RowKit

set_option maxHeartbeats 4000000 in
theorem walk (w : World) (u v : Value) (m : List (List Int)) (ws : List Int) (hx : SlII w u m) (hy : SlI w v ws) :
    Calls Try.prog 7 #[u, v] w fun e w' => e = .returned (.bool true) ∧ Below w.heap.size w w' := by
  have hlw := hy.len
  obtain ⟨A', c', hv, hd1, hd2, _⟩ := hy.view
  by_cases hl : (1048576 : Int) < ws.length
  · subst hv
    clear hx hy
    go_enter Try.func7, Try.ntmps7
    go_wp2
    go_ret
    exact ⟨rfl, Below.refl _ _⟩
  · have hl2 : ws.length ≤ 1048576 := by omega
    have HSZ := hide (szIntSS_any w u m 1048576 hx (by omega) (by omega))
    by_cases hs : (1048576 : Int) < size2 m
    · have HE := hide (szR_no hs)
      subst hv
      clear hx hy hs
      go_enter Try.func7, Try.ntmps7
      go_wp2_with ((with_reducible refine HSZ.out.mono ?_); rintro e w1 ⟨rfl, n1, rfl⟩; rw [HE.out]; dsimp only)
      go_ret
      exact ⟨rfl, below_of_drewN _ _ _⟩
    · have HE := hide (szR_yes (Int.not_lt.1 hs))
      obtain ⟨s, hss⟩ : ∃ s, 1048576 - size2 m = s := ⟨_, rfl⟩
      have hs0 : 0 ≤ s := by omega
      rw [hss] at HE
      have hfit := size2_fits (Int.not_lt.1 hs) (Int.le_refl _)
      have HTM := hide fun W (hb : Below w.heap.size w W) => toIntSS_any W u m (SlII.below hx hb) hfit.1 hfit.2
      have HTW := hide fun W (hb : Below w.heap.size w W) => toIntS_any W v ws (hy.below hb) hl2
      obtain ⟨p, q, hpq⟩ : ∃ p q, (columnsWorst m ws).1 = (p, q) := ⟨_, _, rfl⟩
      obtain ⟨ok, hok⟩ : ∃ ok, (columnsWorst m ws).2 = ok := ⟨_, rfl⟩
      have HRET := hide fun W e W' (h : FrRet W (columnsWorst m ws) e W') => show e = .returned (.tuple #[.agg #[.int .i64 p, .int .i64 q], .bool ok]) ∧ Below W.heap.size W W' from by
        unfold FrRet at h
        rw [hpq, hok] at h
        exact h
      have hkk : (ok != ok) = false := by simp
      subst hv
      clear hx hy hs hss hfit hpq hok
      go_enter Try.func7, Try.ntmps7
      go_wp2_with fail
      refine HSZ.out.mono ?_
      rintro e w1 ⟨rfl, n1, rfl⟩
      rw [HE.out]
      have B1 : Below w.heap.size w (w.drewN n1) := below_of_drewN _ _ _
      dsimp only
      go_wp2_with fail
      refine (HTM.out (w.drewN n1) B1).mono ?_
      rintro e w2 ⟨a2, rfl, hO2, hb2⟩
      have B2 := below_trans B1 hb2 (Nat.le_refl _)
      dsimp only
      go_wp2_with fail
      refine (HTW.out w2 B2).mono ?_
      rintro e w3 ⟨a3, rfl, hO3, hb3⟩
      have B3 := below_trans B2 hb3 (Nat.le_refl _)
      dsimp only
      go_wp2_with fail
      refine (colsS_any w3 a2 a3 m ws (OwII.sl (OwO.below oneI hO2 hb3)) hO3.sl hl2).mono ?_
      intro e w4 h4
      obtain ⟨rfl, hb4⟩ := HRET.out _ _ _ h4
      have B4 := below_trans B3 hb4 (Nat.le_refl _)
      clear h4 hO2 hO3
      have L4 := (Live.nil_ w4).box [.int .i64 p, .int .i64 q] 49
      dsimp only
      go_wp2_with fail
      have B4' := B4.alloc B4.size (.cells #[.int .i64 p, .int .i64 q] 49)
      refine (HTM.out _ B4').mono ?_
      rintro e w5 ⟨a5, rfl, hO5, hb5⟩
      have B5 := below_trans B4' hb5 (Nat.le_refl _)
      have L5 := L4.next hb5
      dsimp only
      go_wp2_with fail
      refine (HTW.out w5 B5).mono ?_
      rintro e w6 ⟨a6, rfl, hO6, hb6⟩
      have B6 := below_trans B5 hb6 (Nat.le_refl _)
      have L6 := L5.next hb6
      have hS5 := OwII.sl (OwO.below oneI hO5 hb6)
      dsimp only
      go_wp2_with fail
      refine (colsI_any w6 a5 a6 m ws hS5 hO6.sl hl2).mono ?_
      intro e w7 h7
      obtain ⟨rfl, hb7⟩ := HRET.out _ _ _ h7
      have B7 := below_trans B6 hb7 (Nat.le_refl _)
      have L7 := (L6.next hb7).box [.int .i64 p, .int .i64 q] 49
      have hS7 := (SlII.below hS5 hb7)
      have hS7' := (hO6.sl.below hb7)
      have B7' := B7.alloc B7.size (.cells #[.int .i64 p, .int .i64 q] 49)
      have c7 := L7.cells; have z7 := L7.lts; simp only [boxed, List.cons_append, List.nil_append, List.append_nil, List.foldr_cons, List.foldr_nil, and_true, Nat.reduceAdd] at c7 z7
      clear h7 L4 L5 L6
      dsimp only
      go_wp2_with fail
      refine (eqFrac_same _ p q).mono ?_
      rintro e w8 ⟨rfl, hb8⟩
      have B8 := below_trans B7' hb8 (Nat.le_refl _)
      have L8 := L7.next hb8
      clear c7 z7
      have c8 := L8.cells; have z8 := L8.lts; simp only [boxed, List.cons_append, List.nil_append, List.append_nil, List.foldr_cons, List.foldr_nil, and_true, Nat.reduceAdd] at c8 z8
      dsimp only
      go_wp2_with fail
      refine (HTM.out w8 B8).mono ?_
      rintro e w9 ⟨a9, rfl, hO9, hb9⟩
      have B9 := below_trans B8 hb9 (Nat.le_refl _)
      have hS9 := (SlII.below (SlII.below (SlII.below hS7 (by repeat (first | exact Below.refl _ _ | apply Below.drew | refine Below.setCell ?_ (by first | (simp; done) | (simp; omega)) _ | refine Below.alloc ?_ (by first | (simp; done) | (simp; omega)) _))) hb8) hb9)
      have hS9' := ((((hS7'.below (by repeat (first | exact Below.refl _ _ | apply Below.drew | refine Below.setCell ?_ (by first | (simp; done) | (simp; omega)) _ | refine Below.alloc ?_ (by first | (simp; done) | (simp; omega)) _))).below hb8)).below hb9)
      dsimp only
      go_wp2_with fail
      refine (eqIntSS_same w9 a5 a9 m hS9 (OwII.sl hO9)).mono ?_
      rintro e w10 ⟨rfl, n10, rfl⟩
      have B10 := below_drewN B9 n10
      dsimp only
      go_wp2_with fail
      refine (HTW.out (w9.drewN n10) B10).mono ?_
      rintro e w11 ⟨a11, rfl, hO11, hb11⟩
      have B11 := below_trans B10 hb11 (Nat.le_refl _)
      have hS11 := SlI.below (w := w9.drewN n10) hS9' hb11
      dsimp only
      go_wp2_with fail
      refine (eqIntS_same w11 a6 a11 ws hS11 hO11.sl).mono ?_
      rintro e w12 ⟨rfl, n12, rfl⟩
      dsimp only
      go_wp2
      go_ret
      exact ⟨rfl, below_drewN B11 n12⟩

theorem own : ownKnob Try.prog.godebug = none := by kernel_rfl
theorem c30 : Try.prog.cellsOf 30 = 1 := by kernel_rfl
theorem c3 : Try.prog.cellsOf 3 = 1 := by kernel_rfl
set_option maxRecDepth 100000 in
theorem lifted (os : Os) (started : os.Started) (H : Type) (enc : TypeId × Value → H) :
    ReturnsInHanded {} Try.checked os 7 .any (Rows.fnExactRowsWorstSpec.pre6 enc Try.prog Try.f7 Rows.fnExactRowsWorstRow.domain false) (Rows.fnExactRowsWorstSpec.post enc Try.prog Try.f7 false true false false) := by
  refine returnsInHanded_of_change (C := Try.checked) own started (by kernel_rfl) Try.func7
    (ChangeSpec.witness6 (enc := enc) (C := Try.checked) false ⟨#[], #[.slice none 0 0, .slice none 0 0], []⟩ 8 (by kernel_rfl) (by kernel_rfl) (by kernel_rfl) (by kernel_rfl)) ?_
  intro W base args ds gs before hval0 hW hcnd _
  have hval : ∀ (j : Nat) t v, Try.f7.params[j]? = some t → args[j]? = some v → Value.okWide Try.prog W .any base t v := hval0
  have hW' := hW
  obtain ⟨p, q, hA0, hV, rfl, hfz, hnd⟩ := hW
  have hA : DataW.TrodAll enc Try.prog W 0 (fun _ => true) true Try.f7.params.toList args.toList ds p := hA0
  rw [Try.params7] at hA hval
  obtain ⟨v0, vs0, d0, ds0, p0, q0, hargs, rfl, rfl, ⟨f0, h0⟩, r0⟩ := trodAll_cons hA
  obtain ⟨v1, vs1, d1, ds1, p1, q1, rfl, rfl, rfl, ⟨f1, h1⟩, r1⟩ := trodAll_cons r0
  obtain ⟨rfl, rfl, rfl⟩ := trodAll_nil r1
  obtain rfl : args = #[v0, v1] := by cases args; simp_all
  obtain ⟨rfl, rfl⟩ := trodVars_none hV
  obtain ⟨A0, l0, c0, rfl⟩ := okWide_slice Try.underlying46 (hval 0 46 v0 rfl rfl)
  obtain ⟨A1, l1, c1, rfl⟩ := okWide_slice Try.underlying30 (hval 1 30 v1 rfl rfl)
  obtain ⟨u0, m, e0, hm, _⟩ := openO (R := SlI) (Q := fun xs => ∀ n ∈ xs, I64 n) Try.underlying46 c30 (fun _ _ _ h => openI Try.underlying30 Try.underlying3 c3 h) h0
  obtain ⟨u1, ws, e1, hws, _⟩ := openI Try.underlying30 Try.underlying3 c3 h1
  simp only [Value.cells, List.cons.injEq, and_true] at e0 e1
  subst e0 e1
  refine (walk W _ _ m ws hm hws).mono fun e W' ⟨he, hg⟩ => ⟨.bool true, he, ?_⟩
  exact law_post (by kernel_rfl) (by rw [Try.params7]; intro t ht; simp at ht; rcases ht with rfl | rfl <;> exact ⟨by kernel_rfl, of_decide_eq_true (by kernel_rfl)⟩) rfl (by kernel_rfl) Try.underlying4 hW' rfl hg
theorem over : Rows.fnExactColumnsWorstRow.holds Try.pinned (OpenSpec.ofChange Rows.fnExactColumnsWorstSpec) :=
  OpenClaim.holds_of_wide 7 Try.f7 rfl rfl rfl rfl rfl rfl rfl ⟨rfl, rfl, rfl, rfl, rfl⟩ rfl rfl rfl rfl rfl (by kernel_rfl) Try.func7 (by kernel_rfl)
    (of_decide_eq_true (by kernel_rfl)) (by unfold Func.isWrapper; first | (rw [if_pos (by decide +kernel)]; kernel_rfl) | (rw [if_neg (by decide +kernel)]; exact ⟨rfl, rfl⟩))
    (fun os started H enc _ => lifted os started H enc)
/-- THE STATEMENT -/
theorem proved : Rows.FnExactColumnsWorstSaid := over
end Go.Proofs.Ytjleohbjanlamaa.fnExactColumnsWorst
