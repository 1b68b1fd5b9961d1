/- Cells of values, and lists that are written into. Conditions: those that each names. -/
import Derived.Test.YtoaecbdpkmeenaaAm1
import Derived.Laws.Tables
namespace Go.Proofs.Ytoaecbdpkmeenaa
namespace Am
open Go
section
variable {φ : Nat → Value} {M : Mem}
def litV : Value → Bool
  | .agg _ => false
  | .tuple _ => false
  | _ => true
theorem cells_one {u : Value} (h : litV u = true) : u.cells = #[u] := by cases u <;> first | rfl | simp [litV] at h
theorem one_cells {x : Lf} {u : Value} (h : x.rel φ M u) (hl : litV u = true) : LsRel φ M [x] u.cells.toList := by
  rw [cells_one hl]
  exact ⟨rfl, fun j hj hj' => by match j, hj with | 0, _ => exact h⟩
def splice {α : Type} : List α → Nat → List α → List α
  | cs, _, [] => cs
  | [], _, _ => []
  | _ :: cs, 0, v :: vs => v :: splice cs 0 vs
  | c :: cs, o + 1, v :: vs => c :: splice cs o (v :: vs)
theorem splice_length {α : Type} : ∀ (cs : List α) (o : Nat) (vs : List α), (splice cs o vs).length = cs.length
  | cs, o, [] => by cases cs <;> cases o <;> rfl
  | [], o, v :: vs => by cases o <;> rfl
  | c :: cs, 0, v :: vs => by simp [splice, splice_length cs 0 vs]
  | c :: cs, o + 1, v :: vs => by simp [splice, splice_length cs o (v :: vs)]
theorem splice_get {α : Type} : ∀ (cs : List α) (o : Nat) (vs : List α), o + vs.length ≤ cs.length → ∀ k, (splice cs o vs)[k]? = if o ≤ k ∧ k < o + vs.length then vs[k - o]? else cs[k]?
  | cs, o, [], h, k => by
    have : splice cs o [] = cs := by cases cs <;> cases o <;> rfl
    rw [this, if_neg (by simp only [List.length_nil]; omega)]
  | [], o, v :: vs, h, k => by simp at h
  | c :: cs, 0, v :: vs, h, k => by
    simp only [splice]
    cases k with
    | zero => simp
    | succ k =>
      have := splice_get cs 0 vs (by simpa using h) k
      simp only [List.getElem?_cons_succ, this, List.length_cons, Nat.zero_le, true_and, Nat.zero_add, Nat.sub_zero]
      by_cases hk : k < vs.length
      · rw [if_pos hk, if_pos (by omega)]
      · rw [if_neg hk, if_neg (by omega)]
  | c :: cs, o + 1, v :: vs, h, k => by
    simp only [splice]
    cases k with
    | zero => simp
    | succ k =>
      have := splice_get cs o (v :: vs) (by simp at h ⊢; omega) k
      simp only [List.getElem?_cons_succ, this]
      by_cases hk : o ≤ k ∧ k < o + (v :: vs).length
      · rw [if_pos hk, if_pos (by omega)]
        congr 1
        omega
      · rw [if_neg hk, if_neg (by omega)]
theorem splice_set {α : Type} : ∀ (cs : List α) (o : Nat) (v : α) (vs : List α), splice (cs.set o v) (o + 1) vs = splice cs o (v :: vs) ∨ cs.length ≤ o
  | [], o, v, vs => .inr (Nat.zero_le _)
  | c :: cs, 0, v, vs => by
    left
    cases vs with
    | nil => cases cs <;> rfl
    | cons v' vs => simp [splice]
  | c :: cs, o + 1, v, vs => by
    rcases splice_set cs o v vs with h | h
    · left
      cases vs with
      | nil => simpa [splice] using h
      | cons v' vs => simpa [splice] using h
    · right; simpa using h
theorem splice_nil {α : Type} (cs : List α) (o : Nat) : splice cs o [] = cs := by cases cs <;> cases o <;> rfl
theorem splice_app {α : Type} (cs us vs : List α) (o : Nat) (h : o + us.length + vs.length ≤ cs.length) : splice (splice cs o us) (o + us.length) vs = splice cs o (us ++ vs) := by
  refine List.ext_getElem? fun k => ?_
  rw [splice_get _ _ _ (by rw [splice_length]; omega), splice_get _ _ _ (by omega), splice_get _ _ _ (by simp; omega)]
  simp only [List.length_append]
  by_cases h1 : o + us.length ≤ k ∧ k < o + us.length + vs.length
  · rw [if_pos h1, if_pos (by omega), List.getElem?_append_right (by omega)]
    congr 1
    omega
  · rw [if_neg h1]
    by_cases h2 : o ≤ k ∧ k < o + us.length
    · rw [if_pos h2, if_pos (by omega), List.getElem?_append_left (by omega)]
    · rw [if_neg h2, if_neg (by omega)]
theorem splice_all {α : Type} (cs vs : List α) (h : vs.length = cs.length) : splice cs 0 vs = vs := by
  refine List.ext_getElem? fun k => ?_
  rw [splice_get _ _ _ (by omega)]
  by_cases h1 : k < vs.length
  · rw [if_pos (by omega)]; rfl
  · rw [if_neg (by omega), List.getElem?_eq_none (by omega), List.getElem?_eq_none (by omega)]
theorem foldl_splice : ∀ (vs : List Value) (j off : Nat) (cs : Array Value), off + j + vs.length ≤ cs.size → ((vs.zipIdx j).foldl (fun cs (p : Value × Nat) => cs.setIfInBounds (off + p.2) p.1) cs).toList = splice cs.toList (off + j) vs
  | [], j, off, cs, _ => by simp [splice_nil]
  | v :: vs, j, off, cs, h => by
    simp only [List.zipIdx_cons, List.foldl_cons]
    rw [foldl_splice vs (j + 1) off _ (by simp at h ⊢; omega), Array.toList_setIfInBounds, ← Nat.add_assoc]
    rcases splice_set cs.toList (off + j) v vs with e | e
    · exact e
    · simp at h e; omega
/-- what lies in one cell -/
def Lf.oneB (H : List Ob) : Lf → Bool
  | .b (.val v) => litV v
  | .b (.sl _) => true
  | .ptr _ _ => true
  | .ip _ _ => true
  | .own i => match H[i]? with
    | some (.row _ _) => true
    | _ => false
  | _ => false
theorem oneB_lit {φ : Nat → Value} {M : Mem} {H : List Ob} {w : World} (hH : HI φ M H w) {x : Lf} {u : Value} (hx : x.oneB H = true) (h : x.rel φ M u) : litV u = true := by
  cases x with
  | b x =>
    cases x with
    | val v => rw [show u = v from h]; exact hx
    | sl c =>
      obtain ⟨vs, ⟨A, c, e, _⟩, _⟩ := B.rel_sl.1 h
      rw [e]; rfl
  | ptr i o => obtain ⟨g, _, e⟩ := h; rw [e]; rfl
  | ip xs o => obtain ⟨ad, e, _⟩ := h; rw [e]; rfl
  | own i =>
    simp only [Lf.oneB] at hx
    split at hx
    · rename_i hi
      obtain ⟨vs, h1, _⟩ := hH.ob i _ hi
      rw [show u = φ i from h]
      rcases h1.2 with ⟨h2, _⟩ | ⟨g, cap, cur, h2, _⟩ <;> rw [h2] <;> rfl
    · cases hx
  | _ => cases hx
/-- the cells of a value -/
def TV.cs : TV → List Lf
  | .one x => [x]
  | .agg xs => xs
theorem tv_cells {v : TV} {u : Value} (h : v.rel φ M u) (hl : ∀ x, v = .one x → litV u = true) : LsRel φ M v.cs u.cells.toList := by
  cases v with
  | one x => exact one_cells h (hl x rfl)
  | agg xs =>
    obtain ⟨us, rfl, h1⟩ := h
    exact h1
theorem splice_mem {α : Type} : ∀ {cs : List α} {o : Nat} {vs : List α} {y : α}, y ∈ splice cs o vs → y ∈ cs ∨ y ∈ vs
  | cs, o, [], y, h => .inl (by rw [splice_nil] at h; exact h)
  | [], o, v :: vs, y, h => by cases o <;> simp [splice] at h
  | c :: cs, 0, v :: vs, y, h => by
    simp only [splice, List.mem_cons] at h ⊢
    rcases h with h | h
    · exact .inr (.inl h)
    · rcases splice_mem h with h | h
      · exact .inl (.inr h)
      · exact .inr (.inr h)
  | c :: cs, o + 1, v :: vs, y, h => by
    simp only [splice, List.mem_cons] at h ⊢
    rcases h with h | h
    · exact .inl (.inl h)
    · rcases splice_mem h with h | h
      · exact .inl (.inr h)
      · exact .inr (by simpa using h)
theorem LsRel.splice {cs vs : List Lf} {us ws : List Value} {off : Nat} (h : LsRel φ M cs us) (k : LsRel φ M vs ws) (hb : off + vs.length ≤ cs.length) : LsRel φ M (splice cs off vs) (splice us off ws) := by
  have hus := h.1
  have hws := k.1
  refine ⟨by simp [splice_length, h.1], fun j hj hj' => ?_⟩
  have e1 := splice_get cs off vs hb j
  have e2 := splice_get us off ws (by omega) j
  rw [List.getElem?_eq_getElem hj] at e1
  rw [List.getElem?_eq_getElem hj'] at e2
  by_cases hc : off ≤ j ∧ j < off + vs.length
  · rw [if_pos hc, List.getElem?_eq_getElem (by omega)] at e1
    rw [if_pos (by omega), List.getElem?_eq_getElem (by omega)] at e2
    simp only [Option.some.injEq] at e1 e2
    rw [e1, e2]
    exact k.2 _ _ _
  · rw [if_neg hc] at e1
    rw [if_neg (by omega)] at e2
    rw [splice_length] at hj hj'
    rw [List.getElem?_eq_getElem hj] at e1
    rw [List.getElem?_eq_getElem hj'] at e2
    simp only [Option.some.injEq] at e1 e2
    rw [e1, e2]
    exact h.2 _ _ _
theorem fill_foldl {place : Nat → Option (Nat × Nat)} : ∀ (ps : List (Nat × Value)) (cs : Array Value), (∀ p ∈ ps, ∃ off, place p.1 = some (off, p.2.cells.size) ∧ off + p.2.cells.size ≤ cs.size) →
    ∃ r, Instr.fill place cs ps = some r ∧ r.size = cs.size ∧ r.toList = ps.foldl (fun l p => splice l ((place p.1).getD (0, 0)).1 p.2.cells.toList) cs.toList
  | [], cs, _ => ⟨cs, rfl, rfl, rfl⟩
  | (i, v) :: ps, cs, h => by
    obtain ⟨off, h1, h2⟩ := h (i, v) List.mem_cons_self
    simp only at h1 h2
    have h3 := foldl_splice v.cells.toList 0 off cs (by simpa using h2)
    have hz : v.cells.zipIdx.foldl (fun cs (p : Value × Nat) => cs.setIfInBounds (off + p.2) p.1) cs = (v.cells.toList.zipIdx 0).foldl (fun cs (p : Value × Nat) => cs.setIfInBounds (off + p.2) p.1) cs := by
      rw [← Array.foldl_toList, Array.toList_zipIdx]
    have hsz : (v.cells.zipIdx.foldl (fun cs (p : Value × Nat) => cs.setIfInBounds (off + p.2) p.1) cs).size = cs.size := by
      have := congrArg List.length h3
      rw [splice_length] at this
      rw [hz]
      simpa using this
    obtain ⟨r, r1, r2, r3⟩ := fill_foldl (place := place) ps (v.cells.zipIdx.foldl (fun cs (p : Value × Nat) => cs.setIfInBounds (off + p.2) p.1) cs) (fun p hp => by
      obtain ⟨o, k1, k2⟩ := h p (List.mem_cons_of_mem _ hp)
      exact ⟨o, k1, by rw [hsz]; exact k2⟩)
    refine ⟨r, ?_, r2.trans hsz, ?_⟩
    · unfold Instr.fill
      simp only [h1]
      rw [if_neg (by simp; omega)]
      exact r1
    · rw [r3, hz, h3]
      simp [h1]
end
end Am
end Go.Proofs.Ytoaecbdpkmeenaa
