/- Memory that the call owns: new variables, slices made, appended to, stored into, and given away. Conditions: those that each names. -/
import Derived.Test.YtoaecbdpkmeenaaAm5
namespace Go.Proofs.Ytoaecbdpkmeenaa
namespace Am
open Go Go.RowKit

theorem ltB_mono {n m : Nat} (h : n ≤ m) {x : Lf} (hx : x.ltB n = true) : x.ltB m = true := by
  cases x <;> simp [Lf.ltB] at hx ⊢ <;> omega
theorem AV.lt_mono {n m : Nat} (h : n ≤ m) {x : AV} (hx : x.lt n) : x.lt m := fun y hy => ltB_mono h (hx y hy)
theorem Ob.lt_mono {n m : Nat} (h : n ≤ m) {o : Ob} (ho : o.lt n) : o.lt m := by
  cases o with
  | box cs => exact fun y hy => ltB_mono h (ho y hy)
  | _ => trivial
def upd (φ : Nat → Value) (i : Nat) (v : Value) : Nat → Value := fun j => bif Nat.beq j i then v else φ j
theorem upd_same (φ : Nat → Value) (i : Nat) (v : Value) : upd φ i v i = v := by simp [upd]
theorem upd_ne (φ : Nat → Value) {i j : Nat} (v : Value) (h : j ≠ i) : upd φ i v j = φ j := by
  have : Nat.beq j i = false := by rw [Bool.eq_false_iff]; exact fun k => h (Nat.eq_of_beq_eq_true k)
  simp [upd, this]
theorem Ob.rel_phi {φ φ' : Nat → Value} {M : Mem} {w : World} {n : Nat} {u : Value} {o : Ob} (hl : o.lt n) (hφ : ∀ i, i < n → φ' i = φ i) (h : o.rel φ M w u) : o.rel φ' M w u := by
  cases o with
  | gone => trivial
  | box cs =>
    obtain ⟨g, arr, t, h1, h2, h3⟩ := h
    exact ⟨g, arr, t, h1, h2, h3.imp fun x hx u hu => Lf.rel_phi (hl x hx) hφ hu⟩
  | row e c => exact h

section
variable {P : Program} {cf : Cfg} {M0 : Mem} {w0 : World} {N : Nat} {φ : Nat → Value} {M : Mem} {T : Tm} {H : List Ob} {a : Act} {w w' : World}
theorem mem_lt (hH : HI φ M H w) {ad : Addr} {v : Value} (h : M ad = some v) : ad.block < w.heap.size := by
  have := hH.mem ad v h
  unfold World.cell? at this
  split at this
  · rename_i h'; exact (Array.getElem?_eq_some_iff.1 h').1
  · cases this
/-- a new thing that the call owns -/
theorem RA.grow (h : RA P cf M0 w0 N φ M ⟨T, H⟩ a w) (hb : Below w.heap.size w w') {o : Ob} {v : Value} (hv : ∀ g, blk v = some g → w.heap.size ≤ g) (ho : o.rel φ M w' v) (hl : o.lt H.length) :
    RA P cf M0 w0 N (upd φ H.length v) M ⟨T, H ++ [o]⟩ a w' := by
  have hφ : ∀ i, i < H.length → upd φ H.length v i = φ i := fun i hi => upd_ne φ v (by omega)
  have hcase : ∀ (i : Nat) (p : Ob), (H ++ [o])[i]? = some p → (i < H.length ∧ H[i]? = some p ∧ upd φ H.length v i = φ i) ∨ (i = H.length ∧ p = o ∧ upd φ H.length v i = v) := fun i p hi => by
    rcases Nat.lt_or_ge i H.length with hlt | hge
    · rw [List.getElem?_append_left hlt] at hi
      exact .inl ⟨hlt, hi, hφ i hlt⟩
    · rw [List.getElem?_append_right hge] at hi
      have : i - H.length = 0 := by
        cases e : i - H.length with
        | zero => rfl
        | succ n => rw [e] at hi; simp at hi
      have e : i = H.length := by omega
      subst e
      simp at hi
      exact .inr ⟨rfl, hi.symm, upd_same φ _ v⟩
  have hlen : (H ++ [o]).length = H.length + 1 := by simp
  refine ⟨h.cf, h.le, h.new, ⟨(h.hi.below hb).mem, fun i p hi => ?_, fun i p g hi hp hg ad u e => ?_, fun i j p q g hi hp hj hq hg hg' => ?_, fun i p hi => ?_⟩, fun t => ⟨fun ht => AV.rel_imp ((h.t t).1 ht) fun y hy u hu => Lf.rel_phi (h.lt t y hy) hφ hu, (h.t t).2⟩, fun t => AV.lt_mono (by rw [hlen]; exact Nat.le_succ _) (h.lt t), fun i p g hi hp hg => ?_, h.size, h.below.trans (hb.mono h.below.size), h.defers⟩
  · rcases hcase i p hi with ⟨hlt, h1, h2⟩ | ⟨rfl, rfl, h2⟩
    · rw [h2]
      exact Ob.rel_phi (h.hi.wf i p h1) hφ (Ob.rel_below (h.hi.ob i p h1) hb)
    · rw [h2]
      exact Ob.rel_phi hl hφ ho
  · have hlt := mem_lt h.hi e
    rcases hcase i p hi with ⟨_, h1, h2⟩ | ⟨rfl, rfl, h2⟩
    · rw [h2] at hg
      exact h.hi.off i p g h1 hp hg ad u e
    · rw [h2] at hg
      have := hv g hg
      omega
  · rcases hcase i p hi with ⟨_, h1, h2⟩ | ⟨rfl, rfl, h2⟩ <;> rcases hcase j q hj with ⟨_, k1, k2⟩ | ⟨rfl, rfl, k2⟩
    · rw [h2] at hg
      rw [k2] at hg'
      exact h.hi.inj i j p q g h1 hp k1 hq hg hg'
    · rw [h2] at hg
      rw [k2] at hg'
      have := Ob.blk_lt (h.hi.ob i p h1) hp hg
      have := hv g hg'
      omega
    · rw [h2] at hg
      rw [k2] at hg'
      have := Ob.blk_lt (h.hi.ob j q k1) hq hg'
      have := hv g hg
      omega
    · rfl
  · rw [hlen]
    rcases hcase i p hi with ⟨_, h1, h2⟩ | ⟨rfl, rfl, h2⟩
    · exact Ob.lt_mono (Nat.le_succ _) (h.hi.wf i p h1)
    · exact Ob.lt_mono (Nat.le_succ _) hl
  · rcases hcase i p hi with ⟨_, h1, h2⟩ | ⟨rfl, rfl, h2⟩
    · rw [h2] at hg
      exact h.own i p g h1 hp hg
    · rw [h2] at hg
      exact Nat.le_trans h.below.size (hv g hg)

theorem Ob.rel_keep {u : Value} {o : Ob} (h : o.rel φ M w u) (hk : ∀ g, blk u = some g → w'.heap[g]? = w.heap[g]?) : o.rel φ M w' u := by
  cases o with
  | gone => trivial
  | box cs =>
    obtain ⟨g, arr, t, rfl, h2, h3⟩ := h
    exact ⟨g, arr, t, rfl, (hk g rfl).trans h2, h3⟩
  | row e c =>
    obtain ⟨vs, ⟨h1, h2⟩, h3⟩ := h
    refine ⟨vs, ⟨h1, ?_⟩, h3⟩
    rcases h2 with h2 | ⟨g, cap, cur, rfl, hg, hh, r⟩
    · exact .inl h2
    · exact .inr ⟨g, cap, cur, rfl, hg, (hk g rfl).trans hh, r⟩
/-- one thing that the call owns has turned, in its own place -/
theorem RA.set (h : RA P cf M0 w0 N φ M ⟨T, H⟩ a w) {i : Nat} {o o' : Ob} (hi : H[i]? = some o) (hl : o.live) (hw : w.grownBy w' (blk (φ i))) (ho : o'.rel φ M w' (φ i)) (hlt : o'.lt H.length) :
    RA P cf M0 w0 N φ M ⟨T, H.set i o'⟩ a w' := by
  have hil : i < H.length := (List.getElem?_eq_some_iff.1 hi).1
  have hcase : ∀ (j : Nat) (p : Ob), (H.set i o')[j]? = some p → (j ≠ i ∧ H[j]? = some p) ∨ (j = i ∧ p = o') := fun j p hj => by
    rw [List.getElem?_set] at hj
    split at hj
    · rename_i e
      subst e
      simp [hil] at hj
      exact .inr ⟨rfl, hj.symm⟩
    · rename_i e
      exact .inl ⟨fun k => e k.symm, hj⟩
  have hlive : ∀ (j : Nat) (p : Ob), (H.set i o')[j]? = some p → p.live → ∃ q, H[j]? = some q ∧ q.live := fun j p hj hp => by
    rcases hcase j p hj with ⟨_, h1⟩ | ⟨rfl, _⟩
    · exact ⟨p, h1, hp⟩
    · exact ⟨o, hi, hl⟩
  have hlen : (H.set i o').length = H.length := by simp
  refine ⟨h.cf, h.le, h.new, ⟨fun ad u e => ?_, fun j p hj => ?_, fun j p g hj hp hg ad u e => ?_, fun j k p q g hj hp hk hq hg hg' => ?_, fun j p hj => ?_⟩, h.t, fun t => by rw [hlen]; exact h.lt t, fun j p g hj hp hg => ?_, h.size, ?_, h.defers⟩
  · have h1 := h.hi.mem ad u e
    have h2 := mem_lt h.hi e
    rw [World.cell?_of_block (hw.block ad.block h2 fun e2 => h.hi.off i o ad.block hi hl e2.symm ad u e rfl)]
    exact h1
  · rcases hcase j p hj with ⟨hne, h1⟩ | ⟨rfl, rfl⟩
    · have hob := h.hi.ob j p h1
      by_cases hp : p.live
      · refine Ob.rel_keep hob fun g hg => hw.block g (Ob.blk_lt hob hp hg) fun e => hne (h.hi.inj j i p o g h1 hp hi hl hg e.symm)
      · cases p <;> first | trivial | exact (hp trivial).elim
    · exact ho
  · obtain ⟨q, h1, h2⟩ := hlive j p hj hp
    exact h.hi.off j q g h1 h2 hg ad u e
  · obtain ⟨p', h1, h2⟩ := hlive j p hj hp
    obtain ⟨q', k1, k2⟩ := hlive k q hk hq
    exact h.hi.inj j k p' q' g h1 h2 k1 k2 hg hg'
  · rw [hlen]
    rcases hcase j p hj with ⟨_, h1⟩ | ⟨rfl, rfl⟩
    · exact h.hi.wf j p h1
    · exact hlt
  · obtain ⟨q, h1, h2⟩ := hlive j p hj hp
    exact h.own j q g h1 h2 hg
  · refine ⟨hw.os.trans h.below.os, hw.tape.trans h.below.tape, hw.output.trans h.below.output, Nat.le_trans h.below.size hw.size, fun k hk => ?_⟩
    rw [hw.block k (Nat.lt_of_lt_of_le hk h.below.size) fun e => by have := h.own i o k hi hl e.symm; omega]
    exact h.below.block k hk

/-! ### operations that make or turn memory -/
/-- the cells of a value -/
def cellsOf : AV → Option (List Lf)
  | .tv (.agg xs) => some xs
  | .tv (.one (.b (.val v))) => bif litV v then some [.b (.val v)] else none
  | .tv (.one (.b (.sl c))) => some [.b (.sl c)]
  | .tv (.one (.own i)) => some [.own i]
  | .tv (.one (.ptr i o)) => some [.ptr i o]
  | .tv (.one (.ip xs o)) => some [.ip xs o]
  | _ => none
theorem cellsOf_rel {v : AV} {cs : List Lf} {u : Value} (e : cellsOf v = some cs) (h : v.rel φ M u) (hS : HI φ M H w) (hlt : v.lt H.length) (hliv : ∀ i, v = .tv (.one (.own i)) → ∃ e c, H[i]? = some (.row e c)) : LsRel φ M cs u.cells.toList := by
  unfold cellsOf at e
  split at e
  · cases e
    obtain ⟨us, rfl, h1⟩ := h
    exact h1
  · rename_i v'
    cases hv : litV v' with
    | false => rw [hv] at e; cases e
    | true =>
      rw [hv] at e
      cases e
      have : u = v' := h
      subst this
      exact one_cells h hv
  · cases e
    refine one_cells h ?_
    obtain ⟨vs, ⟨A, c, e, _⟩, _⟩ := B.rel_sl.1 h
    rw [e]
    rfl
  · rename_i i
    cases e
    refine one_cells h ?_
    obtain ⟨e, c, hi⟩ := hliv i rfl
    obtain ⟨vs, h1, _⟩ := hS.ob i _ hi
    rw [show u = φ i from h]
    rcases h1.2 with ⟨h2, _⟩ | ⟨g, cap, cur, h2, _⟩ <;> rw [h2] <;> rfl
  · cases e
    refine one_cells h ?_
    obtain ⟨g, _, e⟩ := h
    rw [e]
    rfl
  · cases e
    refine one_cells h ?_
    obtain ⟨ad, e, _⟩ := h
    rw [e]
    rfl
  · cases e
theorem cellsOf_lt {v : AV} {cs : List Lf} {n : Nat} (e : cellsOf v = some cs) (h : v.lt n) : ∀ y ∈ cs, y.ltB n = true := by
  unfold cellsOf at e
  split at e
  · cases e; exact h
  · rename_i v'
    cases hv : litV v' with
    | false => rw [hv] at e; cases e
    | true => rw [hv] at e; cases e; exact h
  · cases e; exact h
  · cases e; exact h
  · cases e; exact h
  · cases e; exact h
  · cases e
/-- every name of an own slice in a value names one -/
def ownsB (H : List Ob) : AV → Bool
  | .tv (.one (.own i)) => match H[i]? with
    | some (.row _ _) => true
    | _ => false
  | _ => true
theorem ownsB_spec {v : AV} (h : ownsB H v = true) : ∀ i, v = .tv (.one (.own i)) → ∃ e c, H[i]? = some (.row e c) := fun i e => by
  subst e
  simp only [ownsB] at h
  split at h
  · rename_i e c hc; exact ⟨e, c, hc⟩
  · cases h

variable {ops : Array Oper} {o : Oper} {Q : Exit → Act → World → Prop} {rest : List Oper}
theorem below_alloc (w : World) (ob : Obj) : Below w.heap.size w (w.alloc ob) := (Below.refl _ _).alloc (Nat.le_refl _) _
/-- a new variable -/
theorem ef_new (h : RA P cf M0 w0 N φ M ⟨T, H⟩ a w) (hg : o.guard = none) (hd : o.dst.all (Nat.blt · N) = true) {cs : List Lf} {arr : Array Value} {t : Nat} (hrun : (execOp a.eval o).run P w = .ok (.value (.pointer (some ⟨w.heap.size, 0, none⟩))) (w.alloc (.cells arr t))) (hcs : LsRel φ M cs arr.toList) (hlt : ∀ y ∈ cs, y.ltB H.length = true)
    (K : ∀ φ' a' w', RA P cf M0 w0 N φ' M ⟨T.put o.dst (true, .lf (.ptr H.length 0)), H ++ [.box cs]⟩ a' w' → wpList P ops Q rest a' w') : wpList P ops Q (o :: rest) a w := by
  refine wpList_plain hg fun K' hK => ?_
  unfold Oper.wp
  rw [hrun]
  have h1 := h.grow (below_alloc w (.cells arr t)) (o := .box cs) (v := .pointer (some ⟨w.heap.size, 0, none⟩)) (fun g hg => by simp [blk] at hg; omega) ⟨w.heap.size, arr, t, rfl, heap_alloc_new w _, hcs⟩ hlt
  exact hK _ _ (K _ _ _ (h1.put (d := o.dst) hd (Mem.le_refl _) h1.new h1.hi h1.below ⟨fun _ => ⟨w.heap.size, upd_same _ _ _, rfl⟩, fun hf => by cases hf⟩ (AV.lt_one.2 (by simp [Lf.ltB]))))
theorem ef_box (h : RA P cf M0 w0 N φ M ⟨T, H⟩ a w) (hg : o.guard = none) (hd : o.dst.all (Nat.blt · N) = true) {t : Nat} {x : Operand} (ho : o.op = .box t x) {v : AV} (hx : look T x = (true, v)) {cs : List Lf} (hcs : cellsOf v = some cs) (hown : ownsB H v = true)
    (K : ∀ φ' a' w', RA P cf M0 w0 N φ' M ⟨T.put o.dst (true, .lf (.ptr H.length 0)), H ++ [.box cs]⟩ a' w' → wpList P ops Q rest a' w') : wpList P ops Q (o :: rest) a w := by
  have hr := h.ctx.t x (by rw [hx])
  rw [hx] at hr
  have hl := look_lt h.lt x
  rw [hx] at hl
  exact ef_new h hg hd (t := t) (by simp [execOp, ho, Instr.box, newVar, newRow]) (cellsOf_rel hcs hr h.hi hl (ownsB_spec hown)) (cellsOf_lt hcs hl) K
theorem ef_alloc (h : RA P cf M0 w0 N φ M ⟨T, H⟩ a w) (hg : o.guard = none) (hd : o.dst.all (Nat.blt · N) = true) {t : Nat} (ho : o.op = .alloc t) (hz : cf.sz t ≠ 0)
    (K : ∀ φ' a' w', RA P cf M0 w0 N φ' M ⟨T.put o.dst (true, .lf (.ptr H.length 0)), H ++ [.box ((cf.zero t).map fun v => .b (.val v))]⟩ a' w' → wpList P ops Q rest a' w') : wpList P ops Q (o :: rest) a w := by
  obtain ⟨i, hi, -, -, z, hz1, hz2, -⟩ := h.cf.info t hz
  have hzv : (zeroValue t).run P w = .ok z w := by
    unfold zeroValue
    simp [run_typeInfo _ hi, hz1]
  refine ef_new h hg hd (t := t) (arr := z.cells) ?_ ?_ ?_ K
  · simp [execOp, ho, Instr.alloc, hzv, newVar, newRow]
  · rw [hz2]
    exact ⟨by simp, fun j hj hj' => by simp [Lf.rel, B.rel]⟩
  · intro y hy
    simp at hy
    obtain ⟨v, _, rfl⟩ := hy
    rfl
end

/-! ### stores -/
theorem grownBy_refl (w : World) (r : Option Nat) : w.grownBy w r := ⟨rfl, rfl, rfl, Nat.le_refl _, fun _ _ _ => rfl⟩
theorem run_cells_store {P : Program} {g t off : Nat} : ∀ (vs : List Value) (i : Nat) (w : World) (arr : Array Value), w.heap[g]? = some (.cells arr t (0, 0)) → (∀ v ∈ vs, litV v = true) → off + i + vs.length ≤ arr.size →
    ∃ w', (storeCells ⟨g, off, none⟩ vs i).run P w = .ok () w' ∧ w'.heap[g]? = some (.cells (splice arr.toList (off + i) vs).toArray t (0, 0)) ∧ w.grownBy w' (some g)
  | [], i, w, arr, hg, _, _ => ⟨w, rfl, by
      have : splice arr.toList (off + i) [] = arr.toList := by cases arr.toList <;> cases off + i <;> rfl
      rw [this]; simpa using hg, grownBy_refl _ _⟩
  | v :: vs, i, w, arr, hg, hv, hl => by
    have hlt : off + i < arr.size := by simp at hl; omega
    have hs : (store ⟨g, off + i, none⟩ v).run P w = .ok () (w.setCell ⟨g, off + i, none⟩ v) := by
      rw [run_store P w _ v .plain (by have := hv v (by simp); cases v <;> first | rfl | exact this)]
      rw [cell_row hg, List.getElem?_eq_getElem (by simpa using hlt)]
      simp only [frozen_of_row w g _ arr t hg]
      rfl
    have h1 := heap_setCell_same w g (off + i) arr t v hg
    obtain ⟨w', h2, h3, h4⟩ := run_cells_store (P := P) (t := t) (g := g) (off := off) vs (i + 1) (w.setCell ⟨g, off + i, none⟩ v) (arr.setIfInBounds (off + i) v) h1 (fun u hu => hv u (by simp [hu])) (by simp at hl ⊢; omega)
    refine ⟨w', ?_, ?_, ?_⟩
    · unfold storeCells
      rw [lit_add]
      simp only [Sem.run_bind, hs, Result.andThen_ok]
      exact h2
    · rw [h3, Array.toList_setIfInBounds, ← Nat.add_assoc]
      rcases splice_set arr.toList (off + i) v vs with e | e
      · rw [e]
      · simp at e; omega
    · exact ⟨h4.os, h4.tape, h4.output, by have := h4.size; simpa using this, fun k hk hne => (h4.block k (by simpa using hk) hne).trans (heap_setCell_other w _ k v fun e => hne (by rw [e]))⟩
section
variable {P : Program} {cf : Cfg} {M0 : Mem} {w0 : World} {N : Nat} {φ : Nat → Value} {M : Mem} {T : Tm} {H : List Ob} {a : Act} {w w' : World}
variable {ops : Array Oper} {o : Oper} {Q : Exit → Act → World → Prop} {rest : List Oper}
theorem run_storeAt (hcf : CfgOK P cf) {t g off tt : Nat} {u : Value} {arr : Array Value} (hz : cf.sz t ≠ 0) (hg : w.heap[g]? = some (.cells arr tt (0, 0))) (hsz : u.cells.toList.length = cf.sz t) (hl : ∀ v ∈ u.cells.toList, litV v = true) (hb : off + cf.sz t ≤ arr.size) :
    ∃ w', (Instr.storeAt t (.pointer (some ⟨g, off, none⟩)) u).run P w = .ok () w' ∧ w'.heap[g]? = some (.cells (splice arr.toList off u.cells.toList).toArray tt (0, 0)) ∧ w.grownBy w' (some g) := by
  obtain ⟨i, hi, h1, -⟩ := hcf.info t hz
  obtain ⟨w', h2, h3, h4⟩ := run_cells_store (P := P) (t := tt) (off := off) u.cells.toList 0 w arr hg hl (by omega)
  refine ⟨w', ?_, h3, h4⟩
  have hs : (sizeOf t).run P w = .ok u.cells.size w := by
    unfold sizeOf
    simp only [Sem.run_bind, run_typeInfo _ hi, Result.andThen_ok, Sem.run_pure, h1, ← hsz, Array.length_toList]
  simp only [Instr.storeAt, Instr.sureAddr, Sem.run_bind, Sem.run_pure, Result.andThen_ok, storeVar, hs, ne_eq, not_true_eq_false, if_false]
  exact h2
theorem ef_store_box (h : RA P cf M0 w0 N φ M ⟨T, H⟩ a w) (hg : o.guard = none) (hd : o.dst = none) {t : Nat} {x y : Operand} (ho : o.op = .store t x y) (hz : cf.sz t ≠ 0) {i off : Nat} (hx : look T x = (true, .lf (.ptr i off))) {cs : List Lf} (hi : H[i]? = some (.box cs))
    {v : AV} (hy : look T y = (true, v)) {us : List Lf} (hus : cellsOf v = some us) (hown : ownsB H v = true) (hone : us.all (Lf.oneB H) = true) (hsz : us.length = cf.sz t) (hb : off + us.length ≤ cs.length)
    (K : ∀ a' w', RA P cf M0 w0 N φ M ⟨T, H.set i (.box (splice cs off us))⟩ a' w' → wpList P ops Q rest a' w') : wpList P ops Q (o :: rest) a w := by
  have hrx := h.ctx.t x (by rw [hx])
  rw [hx] at hrx
  obtain ⟨g, h1, h2⟩ := hrx
  have hry := h.ctx.t y (by rw [hy])
  rw [hy] at hry
  have hly := look_lt h.lt y
  rw [hy] at hly
  have hcr := cellsOf_rel hus hry h.hi hly (ownsB_spec hown)
  obtain ⟨g', arr, tt, h3, h4, h5, h6⟩ := h.hi.ob i _ hi
  rw [h1] at h3
  cases h3
  have hlit : ∀ v ∈ (a.eval y).cells.toList, litV v = true := fun v hv => by
    obtain ⟨j, hj, rfl⟩ := List.getElem_of_mem hv
    have hj' : j < us.length := by have := hcr.1; omega
    exact oneB_lit h.hi (List.all_eq_true.1 hone _ (List.getElem_mem hj')) (hcr.2 j hj' hj)
  obtain ⟨w', h7, h8, h9⟩ := run_storeAt h.cf (w := w) (off := off) (u := a.eval y) hz h4 (by rw [hcr.1, hsz]) hlit (by rw [← hsz]; have := h5; simp at this; omega)
  refine wpList_plain hg fun K' hK => ?_
  unfold Oper.wp
  have hrun : (execOp a.eval o).run P w = .ok .skip w' := by
    simp only [execOp, ho, h2, Sem.run_bind, h7, Result.andThen_ok, Sem.run_pure]
  rw [hrun]
  have hput : a.put o.dst undef = a := by rw [hd]; rfl
  refine hK _ _ ?_
  rw [hput]
  refine K a w' (h.set hi trivial (by rw [h1]; exact h9) ?_ ?_)
  · refine ⟨g, _, tt, h1, h8, ?_, fun j hj hj' => ?_⟩
    · simp [splice_length, h5]
    · have e1 := splice_get cs off us hb j
      have e2 := splice_get arr.toList off (a.eval y).cells.toList (by rw [hcr.1]; have := h5; omega) j
      simp only [splice_length] at hj hj'
      rw [List.getElem?_eq_getElem (by rw [splice_length]; omega)] at e1 e2
      by_cases hk : off ≤ j ∧ j < off + us.length
      · rw [if_pos hk, List.getElem?_eq_getElem (by omega)] at e1
        rw [if_pos (by rw [hcr.1]; exact hk), List.getElem?_eq_getElem (by rw [hcr.1]; omega)] at e2
        simp only [Option.some.injEq] at e1 e2
        rw [e1, e2]
        exact hcr.2 _ _ _
      · rw [if_neg hk, List.getElem?_eq_getElem (by omega)] at e1
        rw [if_neg (by rw [hcr.1]; exact hk), List.getElem?_eq_getElem (by omega)] at e2
        simp only [Option.some.injEq] at e1 e2
        rw [e1, e2]
        exact h6 _ _ _
  · intro y' hy'
    obtain ⟨j, hj, rfl⟩ := List.getElem_of_mem hy'
    have e1 := splice_get cs off us hb j
    rw [List.getElem?_eq_getElem hj] at e1
    by_cases hk : off ≤ j ∧ j < off + us.length
    · rw [if_pos hk] at e1
      exact cellsOf_lt hus hly _ (List.mem_of_getElem? e1.symm)
    · rw [if_neg hk] at e1
      exact h.hi.wf i _ hi _ (List.mem_of_getElem? e1.symm)
end
end Am
end Go.Proofs.Ytoaecbdpkmeenaa
