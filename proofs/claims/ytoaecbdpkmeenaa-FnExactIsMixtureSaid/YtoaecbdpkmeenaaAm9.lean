/- Literals of slices, and a slice that is given away. Conditions: those that each names. -/
import Derived.Test.YtoaecbdpkmeenaaAm8
namespace Go.Proofs.Ytoaecbdpkmeenaa
namespace Am
open Go Go.RowKit

theorem fill_seq {place : Nat → Option (Nat × Nat)} : ∀ (ps : List (Nat × Value)) (k : Nat) (cs : Array Value), (∀ (j : Nat) p, ps[j]? = some p → place p.1 = some (k + ((ps.take j).flatMap fun q => q.2.cells.toList).length, p.2.cells.size)) → k + (ps.flatMap fun q => q.2.cells.toList).length ≤ cs.size →
    ∃ r, Instr.fill place cs ps = some r ∧ r.toList = splice cs.toList k (ps.flatMap fun q => q.2.cells.toList)
  | [], k, cs, _, _ => ⟨cs, rfl, by simp [splice_nil]⟩
  | (i, v) :: ps, k, cs, hp, hl => by
    have h0 := hp 0 (i, v) rfl
    simp only [List.take_zero, List.flatMap_nil, List.length_nil, Nat.add_zero] at h0
    simp only [List.flatMap_cons, List.length_append, Array.length_toList] at hl
    have h1 := foldl_splice v.cells.toList 0 k cs (by simp; omega)
    have hz : v.cells.zipIdx.foldl (fun cs (p : Value × Nat) => cs.setIfInBounds (k + p.2) p.1) cs = (v.cells.toList.zipIdx 0).foldl (fun cs (p : Value × Nat) => cs.setIfInBounds (k + p.2) p.1) cs := by
      rw [← Array.foldl_toList, Array.toList_zipIdx]
    obtain ⟨r, h2, h3⟩ := fill_seq (place := place) ps (k + v.cells.size) (v.cells.zipIdx.foldl (fun cs (p : Value × Nat) => cs.setIfInBounds (k + p.2) p.1) cs) (fun j p hj => by
      have := hp (j + 1) p (by simpa using hj)
      rw [this]
      simp [Nat.add_assoc]) (by
      have e : (v.cells.zipIdx.foldl (fun cs (p : Value × Nat) => cs.setIfInBounds (k + p.2) p.1) cs).toList.length = cs.toList.length := by rw [hz, h1, splice_length]
      simp only [Array.length_toList] at e
      rw [e]
      omega)
    refine ⟨r, ?_, ?_⟩
    · unfold Instr.fill
      simp only [h0]
      rw [if_neg (by simp; omega)]
      exact h2
    · rw [h3, hz, h1, List.flatMap_cons, ← splice_app _ _ _ _ (by simp only [Array.length_toList]; omega)]
      simp

/-- a literal's content, element by element -/
def litN : List TV → Option Cn
  | [] => none
  | [v] => lit1 v
  | v :: vs => match lit1 v, litN vs with
    | some c, some d => c.app d
    | _, _ => none
theorem litN_rel {φ : Nat → Value} {M : Mem} : ∀ {vs : List TV} {c : Cn} {us : List Value}, litN vs = some c → us.length = vs.length → (∀ j (h : j < vs.length) (h' : j < us.length), LsRel φ M vs[j].cs us[j].cells.toList) → c.rel M (us.flatMap fun u => u.cells.toList) ∧ c.len = vs.length
  | [], c, us, h, _, _ => by cases h
  | [v], c, us, h, hl, hr => by
    match us, hl with
    | [u], _ =>
      obtain ⟨h1, h2⟩ := lit1_rel (φ := φ) (M := M) h (hr 0 (by simp) (by simp))
      simpa [h2] using h1
  | v :: v2 :: vs, c, us, h, hl, hr => by
    match us, hl with
    | u :: us, hl =>
      simp only [litN] at h
      split at h
      · rename_i c1 d h1 h2
        obtain ⟨k1, k2⟩ := lit1_rel (φ := φ) (M := M) h1 (hr 0 (by simp) (by simp))
        obtain ⟨k3, k4⟩ := litN_rel (φ := φ) (M := M) (vs := v2 :: vs) (us := us) h2 (by simpa using hl) fun j hj hj' => hr (j + 1) (by simpa using hj) (by simpa using hj')
        obtain ⟨e1, -⟩ := app_spec h
        refine ⟨?_, by rw [e1, k2, k4]; simp; omega⟩
        rw [List.flatMap_cons]
        exact app_rel h k1 k3
      · cases h

/-- the memory M, and all that is new in w' -/
def Mem.ext (M : Mem) (w w' : World) : Mem := fun ad => if ad.block < w.heap.size then M ad else w'.cell? ad
/-- an own slice that is only read from here on -/
def Lf.frz (i : Nat) (c : Cn) : Lf → Lf
  | .own j => bif Nat.beq j i then .b (.sl c) else .own j
  | .ptr j o => bif Nat.beq j i then .und else .ptr j o
  | .oa j w k o => bif Nat.beq j i then .und else .oa j w k o
  | x => x
theorem frz_lt {i n : Nat} {c : Cn} {x : Lf} (h : x.ltB n = true) : (x.frz i c).ltB n = true := by
  cases x <;> simp only [Lf.frz] <;> first | exact h | (cases Nat.beq _ i <;> first | rfl | exact h)
section
variable {P : Program} {cf : Cfg} {M0 : Mem} {w0 : World} {N : Nat} {φ : Nat → Value} {M : Mem} {T : Tm} {H : List Ob} {a : Act} {w w' : World}
variable {ops : Array Oper} {o : Oper} {Q : Exit → Act → World → Prop} {rest : List Oper}
theorem cell_lt {ad : Addr} {v : Value} (h : w.cell? ad = some v) : ad.block < w.heap.size := by
  unfold World.cell? at h
  split at h
  · rename_i h'; exact (Array.getElem?_eq_some_iff.1 h').1
  · cases h
theorem RA.ext (h : RA P cf M0 w0 N φ M ⟨T, H⟩ a w) (hb : Below w.heap.size w w') : M.le (M.ext w w') ∧ RA P cf M0 w0 N φ (M.ext w w') ⟨T, H⟩ a w' := by
  have hm : M.le (M.ext w w') := fun ad v e => by
    unfold Mem.ext
    rw [if_pos (mem_lt h.hi e)]
    exact e
  have hn : ∀ ad v, M.ext w w' ad = some v → w'.cell? ad = some v ∧ (M ad = some v ∨ w.heap.size ≤ ad.block) := fun ad v e => by
    unfold Mem.ext at e
    by_cases hlt : ad.block < w.heap.size
    · rw [if_pos hlt] at e
      exact ⟨(h.hi.below hb).mem ad v e, .inl e⟩
    · rw [if_neg hlt] at e
      exact ⟨e, .inr (by omega)⟩
  refine ⟨hm, h.cf, Mem.le_trans h.le hm, fun ad v e => ?_, h.hi.more hb hm hn, fun t => ⟨fun ht => AV.rel_mono hm ((h.t t).1 ht), (h.t t).2⟩, h.lt, h.own, h.size, h.below.trans (hb.mono h.below.size), h.defers⟩
  rcases (hn ad v e).2 with h9 | h9
  · exact h.new ad v h9
  · exact .inr (Nat.le_trans h.below.size h9)
/-- an own slice is given away -/
theorem RA.freeze (h : RA P cf M0 w0 N φ M ⟨T, H⟩ a w) {i e : Nat} {c : Cn} (hi : H[i]? = some (.row e c)) : ∃ M', RA P cf M0 w0 N φ M' ⟨T.map (Lf.frz i c), (H.map (Ob.map (Lf.frz i c))).set i .gone⟩ a w := by
  have hil : i < H.length := (List.getElem?_eq_some_iff.1 hi).1
  obtain ⟨vs, k1, k2⟩ := h.hi.ob i _ hi
  let M' : Mem := fun ad => if blk (φ i) = some ad.block then w.cell? ad else M ad
  have hm : M.le M' := fun ad v e => by
    show (if _ then _ else _) = _
    rw [if_neg fun e2 => h.hi.off i _ ad.block hi trivial e2 ad v e rfl]
    exact e
  have hn : ∀ ad v, M' ad = some v → w.cell? ad = some v ∧ (M ad = some v ∨ blk (φ i) = some ad.block) := fun ad v e => by
    by_cases hb : blk (φ i) = some ad.block
    · have e' : (if blk (φ i) = some ad.block then w.cell? ad else M ad) = some v := e
      rw [if_pos hb] at e'
      exact ⟨e', .inr hb⟩
    · have e' : (if blk (φ i) = some ad.block then w.cell? ad else M ad) = some v := e
      rw [if_neg hb] at e'
      exact ⟨h.hi.mem ad v e', .inl e'⟩
  have hsl : (B.sl c).rel M' (φ i) := by
    refine B.rel_sl.2 ⟨vs, ?_, Cn.rel_mono hm k2⟩
    rcases k1.2 with ⟨h3, h4⟩ | ⟨g, cap, cur, h3, _, _, h4, h5, _⟩
    · refine ⟨none, 0, by rw [h3, h4], by omega, by omega, fun hn => (hn ?_).elim⟩
      have := k1.1
      rw [h4] at this
      simpa using this
    · refine ⟨_, cap, h3, h4, by simpa [maxLen] using h5, fun _ => ⟨_, rfl, fun j hj => ?_⟩⟩
      rw [lit_add, Nat.zero_add]
      show (if blk (φ i) = some g then _ else _) = _
      rw [if_pos (by rw [h3]; rfl)]
      rw [h3] at k1
      exact own_cell k1 (by rw [List.getElem?_eq_getElem hj])
  have hf : ∀ (x : Lf) (u : Value), x.rel φ M u → (x.frz i c).rel φ M' u := fun x u hx => by
    cases x with
    | own j =>
      simp only [Lf.frz]
      cases e : Nat.beq j i with
      | true =>
        have := Nat.eq_of_beq_eq_true e
        subst this
        rw [show u = φ j from hx]
        exact hsl
      | false => exact hx
    | ptr j o => simp only [Lf.frz]; cases Nat.beq j i <;> first | trivial | exact hx
    | oa j w k o => simp only [Lf.frz]; cases Nat.beq j i <;> first | trivial | exact hx
    | und => trivial
    | b x => exact Lf.rel_mono (φ := φ) hm (x := .b x) hx
    | ea c j o => exact Lf.rel_mono (φ := φ) hm (x := .ea c j o) hx
    | ip xs o => exact Lf.rel_mono (φ := φ) hm (x := .ip xs o) hx
  have hlen : ((H.map (Ob.map (Lf.frz i c))).set i .gone).length = H.length := by simp
  have hcase : ∀ (j : Nat) (p : Ob), ((H.map (Ob.map (Lf.frz i c))).set i .gone)[j]? = some p → (j ≠ i ∧ ∃ q, H[j]? = some q ∧ p = q.map (Lf.frz i c)) ∨ (j = i ∧ p = .gone) := fun j p hj => by
    simp only [List.getElem?_set] at hj
    split at hj
    · rename_i e
      subst e
      simp [hil] at hj
      exact .inr ⟨rfl, hj.symm⟩
    · rename_i e
      rw [List.getElem?_map] at hj
      simp only [Option.map_eq_some_iff] at hj
      obtain ⟨q, h1, h2⟩ := hj
      exact .inl ⟨fun k => e k.symm, q, h1, h2.symm⟩
  refine ⟨M', h.cf, Mem.le_trans h.le hm, fun ad v e => ?_, ⟨fun ad v e => (hn ad v e).1, fun j p hj => ?_, fun j p g hj hp hg ad u e => ?_, fun j k p q g hj hp hk hq hg hg' => ?_, fun j p hj => ?_⟩, fun t => ⟨fun ht => AV.map_rel ((h.t t).1 ht) fun y _ u hu => hf y u hu, (h.t t).2⟩, fun t => ?_, fun j p g hj hp hg => ?_, h.size, h.below, h.defers⟩
  · rcases (hn ad v e).2 with h9 | h9
    · exact h.new ad v h9
    · exact .inr (h.own i _ ad.block hi trivial h9)
  · rcases hcase j p hj with ⟨hne, q, h1, rfl⟩ | ⟨rfl, rfl⟩
    · exact Ob.map_rel hm (h.hi.ob j q h1) hf
    · trivial
  · rcases hcase j p hj with ⟨hne, q, h1, rfl⟩ | ⟨rfl, rfl⟩
    · rcases (hn ad u e).2 with h9 | h9
      · exact h.hi.off j q g h1 (Ob.map_live.1 hp) hg ad u h9
      · intro e2
        exact hne (h.hi.inj j i q _ g h1 (Ob.map_live.1 hp) hi trivial hg (by rw [h9, e2]))
    · exact hp.elim
  · rcases hcase j p hj with ⟨hne, q1, h1, rfl⟩ | ⟨rfl, rfl⟩
    · rcases hcase k q hk with ⟨kne, q2, k1, rfl⟩ | ⟨rfl, rfl⟩
      · exact h.hi.inj j k q1 q2 g h1 (Ob.map_live.1 hp) k1 (Ob.map_live.1 hq) hg hg'
      · exact hq.elim
    · exact hp.elim
  · rw [hlen]
    rcases hcase j p hj with ⟨hne, q, h1, rfl⟩ | ⟨rfl, rfl⟩
    · have := h.hi.wf j q h1
      cases q with
      | box cs =>
        intro y hy
        simp only [List.mem_map] at hy
        obtain ⟨z, hz, rfl⟩ := hy
        exact frz_lt (this z hz)
      | _ => trivial
    · trivial
  · rw [hlen]
    exact AV.map_lt (h.lt t) fun y hy => frz_lt hy
  · rcases hcase j p hj with ⟨hne, q, h1, rfl⟩ | ⟨rfl, rfl⟩
    · exact h.own j q g h1 (Ob.map_live.1 hp) hg
    · exact hp.elim
end
end Am
end Go.Proofs.Ytoaecbdpkmeenaa
