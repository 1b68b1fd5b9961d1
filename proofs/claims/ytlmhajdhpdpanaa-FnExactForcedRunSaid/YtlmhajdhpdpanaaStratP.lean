/- Runs of strategies: the plain laws. Conditions: games that are whole. -/
import Derived.Test.YtlmhajdhpdpanaaStrat
set_option linter.all false
set_option linter.unusedSimpArgs false
set_option linter.unusedVariables false
namespace Go.Proofs.Ytlmhajdhpdpanaa

def chRow (g : GmT) (a r : Nat) : List (List Int) := (g.ch.getD a []).getD r []
/-- the choice that a strategy takes -/
def chSel (g : GmT) (q : List (List Int)) (a r : Nat) : List Int := (chRow g a r).getD (chAt (chRow g a r) ((q.getD a []).getD r 0)).toNat []
def stepR (g : GmT) (q : List (List Int)) (a : Nat) (r : Int) : Nat := ((chSel g q a r.toNat).getD 1 0).toNat
def rAt (g : GmT) (q : List (List Int)) : Nat → List Int → Nat
  | a, [] => a
  | a, r :: rs => rAt g q (stepR g q a r) rs
def rOut (g : GmT) (q : List (List Int)) : Nat → List Int → List Int
  | _, [] => []
  | a, r :: rs => (chSel g q a r.toNat).getD 5 0 :: rOut g q (stepR g q a r) rs
def rSum (g : GmT) (q : List (List Int)) : Nat → List Int → Int
  | _, [] => 0
  | a, r :: rs => (chSel g q a r.toNat).getD 2 0 + rSum g q (stepR g q a r) rs
section
variable {g : GmT} {q : List (List Int)}
theorem rAt_app : ∀ (a : Nat) (us vs : List Int), rAt g q a (us ++ vs) = rAt g q (rAt g q a us) vs
  | _, [], _ => rfl
  | _, _ :: us, vs => rAt_app _ us vs
theorem rOut_app : ∀ (a : Nat) (us vs : List Int), rOut g q a (us ++ vs) = rOut g q a us ++ rOut g q (rAt g q a us) vs
  | _, [], _ => rfl
  | _, _ :: us, vs => by simp only [List.cons_append, rOut, rAt, rOut_app _ us vs]
theorem rSum_app : ∀ (a : Nat) (us vs : List Int), rSum g q a (us ++ vs) = rSum g q a us + rSum g q (rAt g q a us) vs
  | _, [], _ => by simp [rSum, rAt]
  | _, _ :: us, vs => by
    simp only [List.cons_append, rSum, rAt, rSum_app _ us vs]
    omega
theorem rOut_len : ∀ (a : Nat) (rs : List Int), (rOut g q a rs).length = rs.length
  | _, [] => rfl
  | _, _ :: rs => by simp [rOut, rOut_len _ rs]
theorem rAt_take {a k : Nat} {rs : List Int} (h : k < rs.length) : rAt g q a (rs.take (k + 1)) = stepR g q (rAt g q a (rs.take k)) (rs.getD k 0) := by
  rw [take_getD h 0, rAt_app]
  rfl
theorem rOut_take {a k : Nat} {rs : List Int} (h : k < rs.length) : rOut g q a (rs.take (k + 1)) = rOut g q a (rs.take k) ++ [(chSel g q (rAt g q a (rs.take k)) (rs.getD k 0).toNat).getD 5 0] := by
  rw [take_getD h 0, rOut_app]
  rfl
theorem rSum_take {a k : Nat} {rs : List Int} (h : k < rs.length) : rSum g q a (rs.take (k + 1)) = rSum g q a (rs.take k) + (chSel g q (rAt g q a (rs.take k)) (rs.getD k 0).toNat).getD 2 0 := by
  rw [take_getD h 0, rSum_app]
  simp [rSum]
end
structure SelOK (m : List (List Int)) (g : GmT) (q : List (List Int)) (a r k : Nat) : Prop where
  at_ : chAt (chRow g a r) ((q.getD a []).getD r 0) = k
  lt : k < (chRow g a r).length
  eq : chSel g q a r = (chRow g a r).getD k []
  el : elOK m g.list.length a r (chSel g q a r)
  rl : (q.getD a []).length = (g.ch.getD a []).length
theorem sel_ok {m s : List (List Int)} {g : GmT} {q : List (List Int)} (hg : GmFull m s g) (hq : stratB m s g q = true) {a r : Nat} (ha : a < g.list.length) (hr : r < s.length) : ∃ k, SelOK m g q a r k := by
  unfold stratB at hq
  simp only [Bool.and_eq_true, beq_iff_eq] at hq
  obtain ⟨h1, h2⟩ := hq
  have ha' : a < q.length := by omega
  have h3 := List.all_eq_true.1 h2 (q.getD a []) (by rw [getD_in ha']; exact List.getElem_mem ha')
  unfold servB at h3
  simp only [Bool.and_eq_true, beq_iff_eq] at h3
  have h4 := allLt_iff.1 h3.2 r (by omega)
  have hac : a < g.ch.length := by rw [hg.clen]; exact ha
  have hrow := hg.c.row a r hac hr
  have h5 := (chAt_ok hrow ((q.getD a []).getD r 0)).2 h4
  obtain ⟨k, hk, h6, h7⟩ := idxOf_lt h5
  have h6 : chAt (chRow g a r) ((q.getD a []).getD r 0) = k := h6
  have h8 : chSel g q a r = (chRow g a r).getD k [] := by unfold chSel; rw [h6, Int.toNat_natCast]
  exact ⟨k, h6, hk, h8, by rw [h8, getD_in (d := []) (show k < (chRow g a r).length from hk)]; exact hrow.el _ (List.getElem_mem hk), by rw [hg.c.len a hac, h3.1]⟩
theorem sel_step {m s : List (List Int)} {g : GmT} {q : List (List Int)} (hg : GmFull m s g) (hq : stratB m s g q = true) {a : Nat} {r : Nat} (ha : a < g.list.length) (hr : r < s.length) : (chSel g q a r).getD 1 0 = (stepR g q a r : Nat) ∧ stepR g q a r < g.list.length ∧ 0 ≤ (chSel g q a r).getD 2 0 ∧ (chSel g q a r).getD 2 0 ≤ 119 := by
  obtain ⟨k, h⟩ := sel_ok hg hq ha hr
  obtain ⟨k', u, c, b, h1, h2, h3, h4, h5, h6, h7⟩ := h.el
  have e : stepR g q a r = k' := by
    unfold stepR
    rw [Int.toNat_natCast, h1]
    simp
  rw [e, h1]
  exact ⟨rfl, h2, h4, h5⟩
theorem rAt_lt {m s : List (List Int)} {g : GmT} {q : List (List Int)} (hg : GmFull m s g) (hq : stratB m s g q = true) : ∀ (rs : List Int) (a : Nat), a < g.list.length → reqsB s.length rs → rAt g q a rs < g.list.length
  | [], a, ha, _ => ha
  | r :: rs, a, ha, h => by
    have h1 := h r (by simp)
    have h2 := (sel_step hg hq ha (r := r.toNat) (by omega)).2.1
    rw [show ((r.toNat : Nat) : Int) = r by omega] at h2
    exact rAt_lt hg hq rs _ h2 fun v hv => h v (by simp [hv])
theorem rSum_bd {m s : List (List Int)} {g : GmT} {q : List (List Int)} (hg : GmFull m s g) (hq : stratB m s g q = true) : ∀ (rs : List Int) (a : Nat), a < g.list.length → reqsB s.length rs → 0 ≤ rSum g q a rs ∧ rSum g q a rs ≤ 119 * rs.length
  | [], a, ha, _ => by simp [rSum]
  | r :: rs, a, ha, h => by
    have h1 := h r (by simp)
    obtain ⟨-, h2, h3, h4⟩ := sel_step hg hq ha (r := r.toNat) (by omega)
    rw [show ((r.toNat : Nat) : Int) = r by omega] at h2
    have ih := rSum_bd hg hq rs _ h2 fun v hv => h v (by simp [hv])
    simp only [rSum, List.length_cons]
    omega
end Go.Proofs.Ytlmhajdhpdpanaa
