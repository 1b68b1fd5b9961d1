/- From the worlds' slices to contents, and back; functions known by calls. Conditions: none. -/
import Derived.Test.YtoaecbdpkmeenaaKit
import Derived.Test.YtoaecbdpkmeenaaBase
namespace Go.Proofs.Ytoaecbdpkmeenaa
open Go Go.RowKit Am

abbrev Mem.in_ (M : Am.Mem) (w : World) : Prop := ∀ ad v, M ad = some v → w.cell? ad = some v
section
variable {M : Am.Mem} {w : World} {u : Value}
theorem si_of_sl {xs : List Int} (h : SlI w u xs) : SI w.cell? u xs := by
  obtain ⟨A, c, e, h1, h2, h3⟩ := h
  refine ⟨xs.map (Value.int .i64), ⟨A, c, e, h1, h2, h3⟩, by simp, fun j o hj ho => ?_⟩
  obtain rfl : o = 0 := by omega
  exact ⟨_, by simp [List.getElem?_eq_getElem hj]; rfl, by simp [hj]⟩
theorem sl_of_si {xs : List Int} (hm : Mem.in_ M w) (h : SI M u xs) : SlI w u xs := by
  obtain ⟨vs, ⟨A, c, e, h1, h2, h3⟩, h4, h5⟩ := h
  have hv : vs = xs.map (Value.int .i64) := List.ext_getElem? fun j => by
    by_cases hj : j < xs.length
    · obtain ⟨u', e1, e2⟩ := h5 j 0 hj (by omega)
      simp only [Nat.mul_one, Nat.add_zero] at e1
      rw [e1, e2]
      simp [hj]
    · rw [List.getElem?_eq_none (by omega), List.getElem?_eq_none (by simpa using hj)]
  subst hv
  exact ⟨A, c, e, h1, h2, fun hn => by obtain ⟨ad, e1, h6⟩ := h3 hn; exact ⟨ad, e1, fun j hj => hm _ _ (h6 j hj)⟩⟩
theorem so_of_sl {α : Type} {R : World → Value → List α → Prop} {R' : Am.Mem → Value → List α → Prop} (hR : ∀ {u x}, R w u x → R' w.cell? u x) {xs : List (List α)} (h : SlO R w u xs) : SO R' w.cell? u xs := by
  obtain ⟨A, c, us, e, h1, h2, h3, h4, h5⟩ := h
  refine ⟨us, ⟨A, c, e, h1, h2, h4⟩, by omega, fun j o hj ho => ?_⟩
  obtain rfl : o = 0 := by omega
  refine ⟨us[j], by simp [List.getElem?_eq_getElem (show j < us.length by omega)], ?_⟩
  have := hR (h5 j (by omega) hj)
  simpa [List.getD_eq_getElem?_getD, List.getElem?_eq_getElem hj] using this
theorem sl_of_so {α : Type} {R : World → Value → List α → Prop} {R' : Am.Mem → Value → List α → Prop} (hm : Mem.in_ M w) (hR : ∀ {u x}, R' M u x → R w u x) {xs : List (List α)} (h : SO R' M u xs) : SlO R w u xs := by
  obtain ⟨vs, ⟨A, c, e, h1, h2, h3⟩, h4, h5⟩ := h
  refine ⟨A, c, vs, e, h1, h2, by omega, fun hn => by obtain ⟨ad, e1, h6⟩ := h3 hn; exact ⟨ad, e1, fun j hj => hm _ _ (h6 j hj)⟩, fun j hj hj' => ?_⟩
  obtain ⟨u', e1, e2⟩ := h5 j 0 hj' (by omega)
  simp only [Nat.mul_one, Nat.add_zero, List.getElem?_eq_getElem hj, Option.some.injEq] at e1
  subst e1
  simp only [List.getD_eq_getElem?_getD, List.getElem?_eq_getElem hj', Option.getD_some] at e2
  exact hR e2
theorem sii_of_sl {xs : List (List Int)} (h : SlII w u xs) : SII w.cell? u xs := so_of_sl (fun h => si_of_sl h) h
theorem siii_of_sl {xs : List (List (List Int))} (h : SlIII w u xs) : SIII w.cell? u xs := so_of_sl (fun h => sii_of_sl h) h
theorem sl_of_sii {xs : List (List Int)} (hm : Mem.in_ M w) (h : SII M u xs) : SlII w u xs := sl_of_so hm (fun h => sl_of_si hm h) h
theorem sl_of_siii {xs : List (List (List Int))} (hm : Mem.in_ M w) (h : SIII M u xs) : SlIII w u xs := sl_of_so hm (fun h => sl_of_sii hm h) h
end
theorem args_nil {M : Am.Mem} : ArgsRel M [] [] := ⟨rfl, fun j hj => by simp at hj⟩
theorem args_cons {M : Am.Mem} {x : AV} {xs : List AV} {u : Value} {us : List Value} (h : x.rel noφ M u) (k : ArgsRel M xs us) : ArgsRel M (x :: xs) (u :: us) :=
  ⟨by simp [k.1], fun j hj hj' => by
    match j with
    | 0 => exact h
    | j + 1 => exact k.2 j (by simpa using hj) (by simpa using hj')⟩
theorem args_inv {M : Am.Mem} {x : AV} {xs : List AV} {us : List Value} (h : ArgsRel M (x :: xs) us) : ∃ u us', us = u :: us' ∧ x.rel noφ M u ∧ ArgsRel M xs us' := by
  obtain ⟨h1, h2⟩ := h
  match us, h1 with
  | u :: us, h1 => exact ⟨u, us, rfl, h2 0 (by simp) (by simp), by simpa using h1, fun j hj hj' => h2 (j + 1) (by simpa using hj) (by simpa using hj')⟩
theorem args_inv0 {M : Am.Mem} {us : List Value} (h : ArgsRel M [] us) : us = [] := List.length_eq_zero_iff.1 h.1
theorem ls_two {φ : Nat → Value} {M : Am.Mem} {x y : Lf} {u : Value} (h : (AV.tv (.agg [x, y])).rel φ M u) : ∃ a b, u = .agg #[a, b] ∧ x.rel φ M a ∧ y.rel φ M b := by
  obtain ⟨us, rfl, h1, h2⟩ := h
  match us, h1 with
  | [a, b], _ => exact ⟨a, b, rfl, h2 0 (by simp) (by simp), h2 1 (by simp) (by simp)⟩
theorem two_ls {φ : Nat → Value} {M : Am.Mem} {x y : Lf} {a b : Value} (h1 : x.rel φ M a) (h2 : y.rel φ M b) : (AV.tv (.agg [x, y])).rel φ M (.agg #[a, b]) :=
  ⟨[a, b], rfl, rfl, fun j hj hj' => by
    match j with
    | 0 => exact h1
    | 1 => exact h2
    | j + 2 => exact absurd hj (by simp)⟩
/-- a function known by its calls, whose value has no part in memory -/
theorem does_val {P : Program} {f : Nat} {args : List AV} {v : Value} (hent : ∀ (av : Array Value) (W : World), (callFunc f av).run P W = .ok (.enter f av) W)
    (h : ∀ (M : Am.Mem) (w : World) (us : List Value), Mem.in_ M w → ArgsRel M args us → Calls P f us.toArray w fun e w' => e = .returned v ∧ Below w.heap.size w w') : Does P f args (.imm (.val v)) := by
  refine ⟨hent, fun M w us hm ha => (h M w us hm ha).mono fun e w' ⟨h1, h2⟩ => ⟨v, M, h1, Am.Mem.le_refl _, fun ad u hu => ⟨?_, .inl hu⟩, rfl, h2⟩⟩
  have h3 := hm ad u hu
  exact (h2.cell (block_lt h3)).trans h3
/-- a call, out of what its function does -/
theorem calls_val {P : Program} {f : Nat} {args : List AV} {v : Value} (h : Does P f args (.imm (.val v))) {w : World} {us : List Value} (ha : ArgsRel w.cell? args us) : Calls P f us.toArray w fun e w' => e = .returned v ∧ Below w.heap.size w w' :=
  (h.2 w.cell? w us (fun _ _ h => h) ha).mono fun e w' ⟨u, M', h1, _, _, h4, h5⟩ => ⟨by rw [h1, show u = v from h4], h5⟩
abbrev prA (m s : List (List Int)) : AV := .tv (.agg [.b (.sl (.ii m)), .b (.sl (.ii s))])
abbrev mixA (ws : List Int) (ags : List (List (List Int))) : AV := .tv (.agg [.b (.sl (.ints ws)), .b (.sl (.iii ags))])
abbrev chA (ws : List Int) (qs : List (List Int)) : AV := .tv (.agg [.b (.sl (.ints ws)), .b (.sl (.ii qs))])
abbrev frA (a : Int × Int) : AV := .tv (.agg [.b (.val (.int .i64 a.1)), .b (.val (.int .i64 a.2))])
end Go.Proofs.Ytoaecbdpkmeenaa
