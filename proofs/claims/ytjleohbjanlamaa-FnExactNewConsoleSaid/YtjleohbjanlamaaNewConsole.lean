/- For every number of items, 'NewConsole' of the program and of the reference are the same, the result shares no memory with another call's, and the law returns true. Conditions: none. -/
import Derived.Test.YtjleohbjanlamaaRows
import Derived.Test.YtjleohbjanlamaaTourNil
import Derived.Test.YtjleohbjanlamaaLawEnd
namespace Go.Proofs.Ytjleohbjanlamaa.fnExactNewConsole
open Go.ChangeShapes Go.WideShapes Go.ChangeAt Go.RowKit

abbrev conVal (a : Int) : Value := .agg #[.int .i64 a, .slice none 0 0, .slice none 0 0, .string ⟨#[]⟩, .string ⟨#[]⟩, .int .i64 0]
abbrev logVal : Value := .agg #[.string ⟨#[]⟩, .string ⟨#[]⟩, .int .i64 0]

theorem con_spec (a b : Int) (t : Bool) (w : World) (hT : ∀ W, Calls Try.prog 13 #[.int .i64 a] W fun e W' => e = .returned (.tuple #[tourVal b, .bool t]) ∧ W' = W.alloc (tourBlk b)) (hb : t = false → b = 0) :
    Calls Try.prog 18 #[.int .i64 a] w fun e w' => e = .returned (.tuple #[conVal b, .bool t]) ∧ Below w.heap.size w w' := by
  have hT2 := hide hT
  clear hT
  cases t
  · obtain rfl := hb rfl
    clear hb
    go_enter Try.func18, Try.ntmps18
    go_wp2_with (go_at_call 13; refine (hT2.out _).mono ?_; rintro e w' ⟨rfl, rfl⟩; dsimp only)
    exact bodyPost_ret (v := .tuple #[conVal 0, .bool false]) (by simp [results, Try.results18, go_sem]) rfl ⟨rfl, by repeat (first | exact Below.refl _ _ | apply Below.drew | refine Below.setCell ?_ (by first | (simp; done) | (simp; omega)) _ | refine Below.alloc ?_ (by first | (simp; done) | (simp; omega)) _)⟩
  · clear hb
    go_enter Try.func18, Try.ntmps18
    go_wp2_with (go_at_call 13; refine (hT2.out _).mono ?_; rintro e w' ⟨rfl, rfl⟩; dsimp only)
    exact bodyPost_ret (v := .tuple #[conVal b, .bool true]) (by simp [results, Try.results18, go_sem]) rfl ⟨rfl, by repeat (first | exact Below.refl _ _ | apply Below.drew | refine Below.setCell ?_ (by first | (simp; done) | (simp; omega)) _ | refine Below.alloc ?_ (by first | (simp; done) | (simp; omega)) _)⟩
theorem con_impl (a b : Int) (t : Bool) (w : World) (hT : ∀ W, Calls Try.prog 14 #[.int .i64 a] W fun e W' => e = .returned (.tuple #[tourVal b, .bool t]) ∧ W' = W.alloc (tourBlk b)) (hb : t = false → b = 0) :
    Calls Try.prog 19 #[.int .i64 a] w fun e w' => e = .returned (.tuple #[conVal b, .bool t]) ∧ Below w.heap.size w w' := by
  have hT2 := hide hT
  clear hT
  cases t
  · obtain rfl := hb rfl
    clear hb
    go_enter Try.func19, Try.ntmps19
    go_wp2_with (go_at_call 14; refine (hT2.out _).mono ?_; rintro e w' ⟨rfl, rfl⟩; dsimp only)
    exact bodyPost_ret (v := .tuple #[conVal 0, .bool false]) (by simp [results, Try.results19, go_sem]) rfl ⟨rfl, by repeat (first | exact Below.refl _ _ | apply Below.drew | refine Below.setCell ?_ (by first | (simp; done) | (simp; omega)) _ | refine Below.alloc ?_ (by first | (simp; done) | (simp; omega)) _)⟩
  · clear hb
    go_enter Try.func19, Try.ntmps19
    go_wp2_with (go_at_call 14; refine (hT2.out _).mono ?_; rintro e w' ⟨rfl, rfl⟩; dsimp only)
    exact bodyPost_ret (v := .tuple #[conVal b, .bool true]) (by simp [results, Try.results19, go_sem]) rfl ⟨rfl, by repeat (first | exact Below.refl _ _ | apply Below.drew | refine Below.setCell ?_ (by first | (simp; done) | (simp; omega)) _ | refine Below.alloc ?_ (by first | (simp; done) | (simp; omega)) _)⟩
theorem eqLog_nil (w : World) : Calls Try.prog 51 #[logVal, logVal] w fun e w' => e = .returned (.bool true) ∧ Below w.heap.size w w' := by
  go_enter Try.func51, Try.ntmps51
  go_wp2
  go_ret
  exact ⟨rfl, by repeat (first | exact Below.refl _ _ | apply Below.drew | refine Below.setCell ?_ (by first | (simp; done) | (simp; omega)) _ | refine Below.alloc ?_ (by first | (simp; done) | (simp; omega)) _)⟩
theorem eqCon_nil (a : Int) (w : World) : Calls Try.prog 20 #[conVal a, conVal a] w fun e w' => e = .returned (.bool true) ∧ Below w.heap.size w w' := by
  go_enter Try.func20, Try.ntmps20
  go_wp2_with (first | (go_at_call 15; refine (eqTour_nil _ _).mono ?_; rintro e w' ⟨rfl, rfl⟩; dsimp only) | (go_at_call 51; refine (eqLog_nil _).mono ?_; rintro e w' ⟨rfl, hb⟩; dsimp only))
  go_ret
  exact ⟨rfl, Below.trans (by repeat (first | exact Below.refl _ _ | apply Below.drew | refine Below.setCell ?_ (by first | (simp; done) | (simp; omega)) _ | refine Below.alloc ?_ (by first | (simp; done) | (simp; omega)) _)) (hb.mono (by simp; omega))⟩
theorem markCon_nil (a k : Int) (w : World) : Calls Try.prog 21 #[conVal a, .int .i64 k] w fun e w' => e = .returned (.int .i64 k) ∧ Below w.heap.size w w' := by
  go_enter Try.func21, Try.ntmps21
  go_wp2_with (go_at_call 16; refine (markTour_nil _ _ _).mono ?_; rintro e w' ⟨rfl, rfl⟩; dsimp only)
  go_ret
  exact ⟨rfl, by repeat (first | exact Below.refl _ _ | apply Below.drew | refine Below.setCell ?_ (by first | (simp; done) | (simp; omega)) _ | refine Below.alloc ?_ (by first | (simp; done) | (simp; omega)) _)⟩
theorem heldCon_nil (a k : Int) (h : 0 ≤ k) (w : World) : Calls Try.prog 22 #[conVal a, .int .i64 k] w fun e w' => e = .returned (.int .i64 k) ∧ Below w.heap.size w w' := by
  go_enter Try.func22, Try.ntmps22
  go_wp2_with (go_at_call 17; refine (heldTour_nil _ _ h _).mono ?_; rintro e w' ⟨rfl, rfl⟩; dsimp only)
  go_ret
  exact ⟨rfl, by repeat (first | exact Below.refl _ _ | apply Below.drew | refine Below.setCell ?_ (by first | (simp; done) | (simp; omega)) _ | refine Below.alloc ?_ (by first | (simp; done) | (simp; omega)) _)⟩

set_option maxHeartbeats 1600000 in
theorem walk_at (a b : Int) (t : Bool) (w : World) (hS : ∀ W, Calls Try.prog 18 #[.int .i64 a] W fun e W' => e = .returned (.tuple #[conVal b, .bool t]) ∧ Below W.heap.size W W')
    (hI : ∀ W, Calls Try.prog 19 #[.int .i64 a] W fun e W' => e = .returned (.tuple #[conVal b, .bool t]) ∧ Below W.heap.size W W') :
    Calls Try.prog 5 #[.int .i64 a] w fun e w' => e = .returned (.bool true) ∧ Below w.heap.size w w' := by
  have HS := hide hS
  have HI := hide hI
  clear hS hI
  have ht : (t != t) = false := by cases t <;> rfl
  go_enter Try.func5, Try.ntmps5
  go_wp2_with fail
  refine (HS.out _).mono ?_
  rintro e w1 ⟨rfl, hb1⟩
  dsimp only
  have L1 := Live.nil_ w1
  go_wp2_with fail
  refine (HI.out _).mono ?_
  rintro e w2 ⟨rfl, hb2⟩
  dsimp only
  have L2 := (L1.box [.int .i64 b, .slice none 0 0, .slice none 0 0, .string ⟨#[]⟩, .string ⟨#[]⟩, .int .i64 0] 41).next hb2
  have B2 := below_trans (hb1.alloc hb1.size _) hb2 (Nat.le_refl _)
  have c2 := L2.cells; have z2 := L2.lts; simp only [boxed, List.cons_append, List.nil_append, List.foldr_cons, List.foldr_nil, and_true, Nat.reduceAdd] at c2 z2
  go_wp2_with fail
  refine (eqCon_nil b _).mono ?_
  rintro e w3 ⟨rfl, hb3⟩
  dsimp only
  have L3 := (L2.box [.int .i64 b, .slice none 0 0, .slice none 0 0, .string ⟨#[]⟩, .string ⟨#[]⟩, .int .i64 0] 41).next hb3
  have B3 := below_trans (B2.alloc B2.size _) hb3 (Nat.le_refl _)
  clear c2 z2
  have c3 := L3.cells; have z3 := L3.lts; simp only [boxed, List.cons_append, List.nil_append, List.foldr_cons, List.foldr_nil, and_true, Nat.reduceAdd] at c3 z3
  go_wp2_with fail
  refine (markCon_nil b 1 _).mono ?_
  rintro e w4 ⟨rfl, hb4⟩
  dsimp only
  have L4 := L3.next hb4
  have B4 := below_trans B3 hb4 (Nat.le_refl _)
  clear c3 z3
  have c4 := L4.cells; have z4 := L4.lts; simp only [boxed, List.cons_append, List.nil_append, List.foldr_cons, List.foldr_nil, and_true, Nat.reduceAdd] at c4 z4
  go_wp2_with fail
  refine (heldCon_nil b 1 (by omega) _).mono ?_
  rintro e w5 ⟨rfl, hb5⟩
  dsimp only
  have L5 := L4.next hb5
  have B5 := below_trans B4 hb5 (Nat.le_refl _)
  clear c4 z4
  have c5 := L5.cells; have z5 := L5.lts; simp only [boxed, List.cons_append, List.nil_append, List.foldr_cons, List.foldr_nil, and_true, Nat.reduceAdd] at c5 z5
  go_wp2_with fail
  refine (HI.out _).mono ?_
  rintro e w6 ⟨rfl, hb6⟩
  dsimp only
  have L6 := L5.next hb6
  have B6 := below_trans B5 hb6 (Nat.le_refl _)
  clear c5 z5
  have c6 := L6.cells; have z6 := L6.lts; simp only [boxed, List.cons_append, List.nil_append, List.foldr_cons, List.foldr_nil, and_true, Nat.reduceAdd] at c6 z6
  go_wp2_with fail
  refine (eqCon_nil b _).mono ?_
  rintro e w7 ⟨rfl, hb7⟩
  dsimp only
  have L7 := (L6.box [.int .i64 b, .slice none 0 0, .slice none 0 0, .string ⟨#[]⟩, .string ⟨#[]⟩, .int .i64 0] 41).next hb7
  have B7 := below_trans (B6.alloc B6.size _) hb7 (Nat.le_refl _)
  clear c6 z6
  have c7 := L7.cells; have z7 := L7.lts; simp only [boxed, List.cons_append, List.nil_append, List.foldr_cons, List.foldr_nil, and_true, Nat.reduceAdd] at c7 z7
  go_wp2_with fail
  refine (heldCon_nil b 1 (by omega) _).mono ?_
  rintro e w8 ⟨rfl, hb8⟩
  dsimp only
  have L8 := L7.next hb8
  have B8 := below_trans B7 hb8 (Nat.le_refl _)
  clear c7 z7
  have c8 := L8.cells; have z8 := L8.lts; simp only [boxed, List.cons_append, List.nil_append, List.foldr_cons, List.foldr_nil, and_true, Nat.reduceAdd] at c8 z8
  go_wp2
  go_ret
  exact ⟨rfl, B8⟩

theorem walk (a : Int) (w : World) : Calls Try.prog 5 #[.int .i64 a] w fun e w' => e = .returned (.bool true) ∧ Below w.heap.size w w' := by
  by_cases h : 1 ≤ a ∧ a ≤ 8
  · exact walk_at a a true w (fun W => con_spec a a true W (fun W' => newT_spec_yes a W' h.1 h.2) (by simp)) (fun W => con_impl a a true W (fun W' => newT_impl_yes a W' h.1 h.2) (by simp))
  · exact walk_at a 0 false w (fun W => con_spec a 0 false W (fun W' => newT_spec_no a W' (by omega)) (by simp)) (fun W => con_impl a 0 false W (fun W' => newT_impl_no a W' (by omega)) (by simp))

theorem own : ownKnob Try.prog.godebug = none := by kernel_rfl
set_option maxRecDepth 100000 in
theorem lifted (os : Os) (started : os.Started) (H : Type) (enc : TypeId × Value → H) :
    ReturnsInHanded {} Try.checked os 5 .any (Rows.fnExactNewConsoleSpec.pre6 enc Try.prog Try.f5 Rows.fnExactNewConsoleRow.domain false) (Rows.fnExactNewConsoleSpec.post enc Try.prog Try.f5 false true false false) := by
  refine returnsInHanded_of_change (C := Try.checked) own started (by kernel_rfl) Try.func5
    (ChangeSpec.witness6 (enc := enc) (C := Try.checked) false ⟨#[], #[.int .i64 0], []⟩ 8 (by kernel_rfl) (by kernel_rfl) (by kernel_rfl) (by kernel_rfl)) ?_
  intro W base args ds gs before hval0 hW hcnd _
  have hval : ∀ (j : Nat) t v, Try.f5.params[j]? = some t → args[j]? = some v → Value.okWide Try.prog W .any base t v := hval0
  have hW' := hW
  obtain ⟨p, q, hA0, hV, rfl, hfz, hnd⟩ := hW
  have hA : DataW.TrodAll enc Try.prog W 0 (fun _ => true) true Try.f5.params.toList args.toList ds p := hA0
  rw [Try.params5] at hA hval
  obtain ⟨v0, vs0, d0, ds0, p0, q0, hargs, rfl, rfl, h0, r0⟩ := trodAll_cons hA
  obtain ⟨rfl, rfl, rfl⟩ := trodAll_nil r0
  obtain rfl : args = #[v0] := by cases args; simp_all
  obtain ⟨rfl, rfl⟩ := trodVars_none hV
  obtain ⟨a0, rfl, rfl, rfl, w0⟩ := open_int Try.underlying3 (hval 0 3 v0 rfl rfl) h0
  refine (walk a0 W).mono fun e W' ⟨he, hg⟩ => ⟨.bool true, he, ?_⟩
  exact law_post (by kernel_rfl) (by rw [Try.params5]; intro t ht; simp at ht; subst ht; exact ⟨by kernel_rfl, of_decide_eq_true (by kernel_rfl)⟩) rfl (by kernel_rfl) Try.underlying4 hW' rfl hg
theorem over : Rows.fnExactNewConsoleRow.holds Try.pinned (OpenSpec.ofChange Rows.fnExactNewConsoleSpec) :=
  OpenClaim.holds_of_wide 5 Try.f5 rfl rfl rfl rfl rfl rfl rfl ⟨rfl, rfl, rfl, rfl, rfl⟩ rfl rfl rfl rfl rfl (by kernel_rfl) Try.func5 (by kernel_rfl)
    (of_decide_eq_true (by kernel_rfl)) (by unfold Func.isWrapper; first | (rw [if_pos (by decide +kernel)]; kernel_rfl) | (rw [if_neg (by decide +kernel)]; exact ⟨rfl, rfl⟩))
    (fun os started H enc _ => lifted os started H enc)
/-- THE STATEMENT -/
theorem proved : Rows.FnExactNewConsoleSaid := over
end Go.Proofs.Ytjleohbjanlamaa.fnExactNewConsole
