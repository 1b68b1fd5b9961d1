/- Calls inside a region, and regions in whatever order, where nothing that the call owns turns. Conditions: those that each names. -/
import Derived.Test.YtoaecbdpkmeenaaAm3
namespace Go.Proofs.Ytoaecbdpkmeenaa
namespace Am
open Go Go.RowKit

theorem mapM_some {α β : Type} {f : α → Option β} : ∀ {xs : List α} {ys : List β}, xs.mapM f = some ys → ys.length = xs.length ∧ ∀ j (h : j < xs.length) (h' : j < ys.length), f xs[j] = some ys[j]
  | [], ys, h => by simp at h; subst h; exact ⟨rfl, fun j h => by simp at h⟩
  | x :: xs, ys, h => by
    rw [List.mapM_cons] at h
    cases e : f x with
    | none => simp [e] at h
    | some y =>
      cases e2 : xs.mapM f with
      | none => simp [e, e2] at h
      | some zs =>
        simp [e, e2] at h
        subst h
        obtain ⟨h1, h2⟩ := mapM_some e2
        refine ⟨by simp [h1], fun j hj hj' => ?_⟩
        match j with
        | 0 => exact e
        | j + 1 => simpa using h2 j (by simpa using hj) (by simpa using hj')

section
variable {φ : Nat → Value} {M : Mem} {H : List Ob} {w : World}
theorem row_sl (hH : HI φ M H w) {i e : Nat} {c : Cn} (hi : H[i]? = some (.row e c)) : (B.sl c).rel w.cell? (φ i) := by
  obtain ⟨vs, h1, h2⟩ := hH.ob i _ hi
  refine B.rel_sl.2 ⟨vs, ?_, Cn.rel_mono (fun _ _ h => hH.mem _ _ h) h2⟩
  rcases h1.2 with ⟨h3, h4⟩ | ⟨g, cap, cur, h3, _, _, h4, h5, _⟩
  · refine ⟨none, 0, by rw [h3, h4], by omega, by omega, fun hn => (hn ?_).elim⟩
    have := h1.1
    rw [h4] at this
    simpa using this
  · refine ⟨_, cap, h3, h4, by simpa [maxLen] using h5, fun hn => ⟨_, rfl, fun j hj => ?_⟩⟩
    rw [lit_add, Nat.zero_add]
    rw [h3] at h1
    exact own_cell h1 (by rw [List.getElem?_eq_getElem hj])
theorem viewB_rel (hH : HI φ M H w) {x : Lf} {y : B} {u : Value} (e : viewB H x = some y) (h : x.rel φ M u) : y.rel w.cell? u := by
  cases x <;> simp only [viewB] at e <;> first | (cases e; done) | skip
  case b x => cases e; exact B.rel_mono (fun _ _ h => hH.mem _ _ h) h
  case own i =>
    split at e
    · rename_i hi
      cases e
      rw [show u = φ i from h]
      exact row_sl hH hi
    · cases e
theorem view_rel (hH : HI φ M H w) {x y : Lf} {u : Value} (e : view H x = some y) (h : x.rel φ M u) : y.rel noφ w.cell? u := by
  cases x <;> simp only [view] at e <;> first | (cases e; done) | skip
  case b x => cases e; exact B.rel_mono (fun _ _ h => hH.mem _ _ h) h
  case own i =>
    split at e
    · rename_i hi
      cases e
      rw [show u = φ i from h]
      exact row_sl hH hi
    · cases e
  case ptr i o =>
    split at e
    · rename_i cs hi
      cases e2 : cs.mapM (viewB H) with
      | none => simp [e2] at e
      | some xs =>
        simp [e2] at e
        subst e
        obtain ⟨g, h1, h2⟩ := h
        obtain ⟨g', arr, t, h3, h4, h5, h6⟩ := hH.ob i _ hi
        rw [h1] at h3
        cases h3
        obtain ⟨h7, h8⟩ := mapM_some e2
        refine ⟨⟨g, 0, none⟩, by rw [h2, lit_add, Nat.zero_add], fun t ht => ?_⟩
        have ht1 : t < cs.length := by omega
        have ht2 : t < arr.toList.length := by omega
        exact ⟨arr.toList[t], by rw [lit_add, Nat.zero_add, cell_row h4, List.getElem?_eq_getElem ht2], viewB_rel hH (h8 t ht1 ht) (h6 t ht1 ht2)⟩
    · cases e
  case ip xs o =>
    cases e
    exact Lf.rel_mono (φ := noφ) (fun _ _ h => hH.mem _ _ h) h
theorem viewL_rel (hH : HI φ M H w) {xs ys : List Lf} {us : List Value} (e : xs.mapM (view H) = some ys) (h : LsRel φ M xs us) : LsRel noφ w.cell? ys us := by
  obtain ⟨h1, h2⟩ := mapM_some e
  exact ⟨h.1.trans h1.symm, fun j hj hj' => view_rel hH (h2 j (by omega) hj) (h.2 j (by omega) hj')⟩
theorem viewA_rel (hH : HI φ M H w) {x y : AV} {u : Value} (e : viewA H x = some y) (h : x.rel φ M u) : y.rel noφ w.cell? u := by
  cases x with
  | tv x =>
    cases x with
    | one x =>
      simp only [viewA, Option.map_eq_some_iff] at e
      obtain ⟨y', e1, rfl⟩ := e
      exact view_rel hH e1 h
    | agg xs =>
      simp only [viewA, Option.map_eq_some_iff] at e
      obtain ⟨y', e1, rfl⟩ := e
      obtain ⟨us, e2, h2⟩ := h
      exact ⟨us, e2, viewL_rel hH e1 h2⟩
  | clo f xs =>
    simp only [viewA, Option.map_eq_some_iff] at e
    obtain ⟨y', e1, rfl⟩ := e
    obtain ⟨us, e2, h2⟩ := h
    exact ⟨us, e2, viewL_rel hH e1 h2⟩
  | tup xs => simp [viewA] at e

/-- a value without part in memory is what it is, wherever -/
theorem TV.val_rel {φ' : Nat → Value} {M' : Mem} {x : TV} {u : Value} (hv : x.valB = true) (h : x.rel φ M u) : x.rel φ' M' u := by
  refine TV.rel_imp h fun y hy u hu => ?_
  cases x with
  | one x =>
    simp only [TV.leaves, List.mem_singleton] at hy
    subst hy
    cases y <;> simp [TV.valB] at hv
    rename_i z
    cases z <;> simp [TV.valB] at hv
    exact hu
  | agg xs =>
    simp only [TV.valB, List.all_eq_true] at hv
    have := hv y hy
    split at this
    · exact hu
    · cases this
theorem AV.val_rel {φ' : Nat → Value} {M' : Mem} {x : AV} {u : Value} (hv : x.valB = true) (h : x.rel φ M u) : x.rel φ' M' u := by
  cases x with
  | tv x => exact TV.val_rel hv h
  | clo f xs => simp [AV.valB] at hv
  | tup xs =>
    obtain ⟨us, e, h1, h2⟩ := h
    simp only [AV.valB, List.all_eq_true] at hv
    exact ⟨us, e, h1, fun j hj hj' => TV.val_rel (hv _ (List.getElem_mem hj)) (h2 j hj hj')⟩
theorem free_rel {φ' : Nat → Value} {x : AV} {u : Value} (hv : x.free = true) (h : x.rel φ M u) : x.rel φ' M u := by
  refine AV.rel_imp h fun y hy u hu => ?_
  exact Lf.rel_phi (n := 0) (List.all_eq_true.1 hv y hy) (fun i hi => by omega) hu
theorem free_lt {x : AV} (hv : x.free = true) (n : Nat) : x.lt n := fun y hy => by
  have := List.all_eq_true.1 hv y hy
  cases y <;> simp_all [Lf.ltB]

theorem ownsRow_below {w' : World} {e size n : Nat} {u : Value} {vs : List Value} (h : w.ownsRow 0 e size u n vs) (hb : Below w.heap.size w w') : w'.ownsRow 0 e size u n vs := by
  obtain ⟨h1, h2⟩ := h
  refine ⟨h1, ?_⟩
  rcases h2 with h2 | ⟨g, cap, cur, rfl, hg, hh, r⟩
  · exact .inl h2
  · exact .inr ⟨g, cap, cur, rfl, hg, (hb.block g (Array.getElem?_eq_some_iff.1 hh).1).trans hh, r⟩
theorem Ob.rel_below {w' : World} {u : Value} {o : Ob} (h : o.rel φ M w u) (hb : Below w.heap.size w w') : o.rel φ M w' u := by
  cases o with
  | gone => trivial
  | box cs =>
    obtain ⟨g, arr, t, h1, h2, h3⟩ := h
    exact ⟨g, arr, t, h1, (hb.block g (Array.getElem?_eq_some_iff.1 h2).1).trans h2, h3⟩
  | row e c =>
    obtain ⟨vs, h1, h2⟩ := h
    exact ⟨vs, ownsRow_below h1 hb, h2⟩
theorem Ob.rel_mono {M' : Mem} (hm : M.le M') {u : Value} {o : Ob} (h : o.rel φ M w u) : o.rel φ M' w u := by
  cases o with
  | gone => trivial
  | box cs =>
    obtain ⟨g, arr, t, h1, h2, h3⟩ := h
    exact ⟨g, arr, t, h1, h2, h3.imp fun _ _ _ h => Lf.rel_mono hm h⟩
  | row e c =>
    obtain ⟨vs, h1, h2⟩ := h
    exact ⟨vs, h1, Cn.rel_mono hm h2⟩
theorem Ob.blk_lt {u : Value} {o : Ob} {g : Nat} (h : o.rel φ M w u) (hl : o.live) (hg : blk u = some g) : g < w.heap.size := by
  cases o with
  | gone => exact hl.elim
  | box cs =>
    obtain ⟨g', arr, t, h1, h2, h3⟩ := h
    rw [h1] at hg
    simp only [blk, Option.some.injEq] at hg
    subst hg
    exact (Array.getElem?_eq_some_iff.1 h2).1
  | row e c =>
    obtain ⟨vs, h1, h2⟩ := h
    rcases h1.2 with ⟨h3, _⟩ | ⟨g', cap, cur, h3, _, h4, _⟩
    · rw [h3] at hg
      simp [blk] at hg
    · rw [h3] at hg
      simp only [blk, Option.some.injEq] at hg
      subst hg
      exact (Array.getElem?_eq_some_iff.1 h4).1
/-- what is owned stays, whatever new memory there is -/
theorem HI.below {w' : World} (h : HI φ M H w) (hb : Below w.heap.size w w') : HI φ M H w' :=
  ⟨fun a v e => (hb.cell (p := a) (by have := h.mem a v e; unfold World.cell? at this; split at this <;> first | (rename_i h' ; exact (Array.getElem?_eq_some_iff.1 h').1) | cases this)).trans (h.mem a v e),
   fun i o hi => Ob.rel_below (h.ob i o hi) hb, h.off, h.inj, h.wf⟩
theorem HI.more {w' : World} {M' : Mem} (h : HI φ M H w) (hb : Below w.heap.size w w') (hm : M.le M') (hn : ∀ ad v, M' ad = some v → w'.cell? ad = some v ∧ (M ad = some v ∨ w.heap.size ≤ ad.block)) : HI φ M' H w' :=
  ⟨fun a v e => (hn a v e).1, fun i o hi => Ob.rel_mono hm (Ob.rel_below (h.ob i o hi) hb), fun i o g hi hl hg a v e => by
    rcases (hn a v e).2 with h1 | h1
    · exact h.off i o g hi hl hg a v h1
    · have := Ob.blk_lt (h.ob i o hi) hl hg
      omega, h.inj, h.wf⟩
end

/-! ### one operation -/
/-- is an operation wanted: a condition, and the answer -/
def guardOf (ops : Array Oper) (o : Oper) (T : Tm) : Prop × Bool := match o.guard with
  | none => (True, true)
  | some (j, want) => match (ops[j]?).bind (·.dst) with
    | some d => match T d with
      | (g, .tv (.one (.b (.val (.bool b))))) => (True, g && (b == want))
      | _ => (False, true)
    | none => (False, true)
/-- a call's arguments, and what its function has captured -/
def calleeOf (T : Tm) (c : Call) : Option (Bool × Nat × List Lf) := match c.callee with
  | .value x => match look T x with
    | (g, .clo f xs) => some (g, f, xs)
    | _ => none
  | _ => none
def argsOf (H : List Ob) (T : Tm) (c : Call) (xs : List Lf) : Option (List AV) := (c.args.toList.mapM fun x => viewA H (look T x).2).bind fun vs => (xs.mapM (view H)).map fun ys => vs ++ ys.map fun y => .tv (.one y)
def callOK (P : Program) (H : List Ob) (T : Tm) (g : Bool) (c : Call) (r : AV) : Prop := ∃ gc f xs vs, calleeOf T c = some (gc, f, xs) ∧ need g gc ∧ (∀ x ∈ c.args.toList, need g (look T x).1) ∧ argsOf H T c xs = some vs ∧ (g = true → Does P f vs (.imm r)) ∧
  (r.valB = true ∨ (r.free = true ∧ (∀ x ∈ c.args.toList, (look T x).2.free = true) ∧ ∀ x ∈ xs, x.ltB 0 = true))
def opOK (P : Program) (cf : Cfg) (H : List Ob) (N : Nat) (ops : Array Oper) (o : Oper) (T : Tm) (v : Bool × AV) : Prop :=
  o.dst.all (Nat.blt · N) = true ∧ (guardOf ops o T).1 ∧ v.1 = (guardOf ops o T).2 ∧
    ((∃ c, o.op = .call c ∧ callOK P H T v.1 c v.2) ∨ ((qev cf H T v.1 o.op).1 ∧ v.2 = (qev cf H T v.1 o.op).2))

section
variable {P : Program} {cf : Cfg} {M0 : Mem} {w0 : World} {N : Nat} {φ : Nat → Value} {M : Mem} {T : Tm} {H : List Ob} {a : Act} {w : World} {ops : Array Oper} {o : Oper}
theorem wanted_eq (h : RA P cf M0 w0 N φ M ⟨T, H⟩ a w) (hg : (guardOf ops o T).1) : Region.wanted o (yielded ops a.tmps) = (guardOf ops o T).2 := by
  unfold Region.wanted
  simp only [guardOf] at hg ⊢
  cases e : o.guard with
  | none => rfl
  | some p =>
    obtain ⟨j, want⟩ := p
    rw [e] at hg
    simp only at hg ⊢
    cases e1 : (ops[j]?).bind (·.dst) with
    | none => rw [e1] at hg; exact hg.elim
    | some d =>
      rw [e1] at hg
      simp only at hg ⊢
      split at hg
      · rename_i g b hT
        have ht := h.t d
        simp only [hT] at ht
        have hy : yielded ops a.tmps j = if g then some b else none := by
          unfold yielded
          rw [e1]
          simp only [Option.bind_some]
          cases g with
          | true =>
            have h1 := ht.1 rfl
            have h2 : a.tmps.getD d undef = .bool b := h1
            rw [Array.getD_eq_getD_getElem?] at h2
            cases e2 : a.tmps[d]? with
            | none => rw [e2] at h2; simp [undef] at h2
            | some u => rw [e2] at h2; simp at h2; rw [h2]; rfl
          | false =>
            have h2 := ht.2 rfl
            rw [Array.getD_eq_getD_getElem?] at h2
            cases e2 : a.tmps[d]? with
            | none => rfl
            | some u => rw [e2] at h2; simp at h2; rw [h2]; rfl
        rw [hy]
        cases g <;> cases b <;> cases want <;> rfl
      · exact hg.elim
theorem view_free {x y : Lf} (hx : x.ltB 0 = true) (e : view H x = some y) : y = x := by
  cases x <;> simp [view, Lf.ltB] at e hx <;> first | exact e.symm | skip
theorem viewL_free {xs ys : List Lf} (hx : ∀ x ∈ xs, x.ltB 0 = true) (e : xs.mapM (view H) = some ys) : ys = xs := by
  obtain ⟨h1, h2⟩ := mapM_some e
  refine List.ext_getElem h1 fun j hj hj' => ?_
  exact view_free (hx _ (List.getElem_mem hj')) (h2 j hj' hj)
theorem viewA_free {x y : AV} (hx : x.free = true) (e : viewA H x = some y) : y = x := by
  simp only [AV.free, List.all_eq_true] at hx
  cases x with
  | tv x =>
    cases x with
    | one x =>
      simp only [viewA, Option.map_eq_some_iff] at e
      obtain ⟨y', e1, rfl⟩ := e
      rw [view_free (hx x (by simp [AV.leaves, TV.leaves])) e1]
    | agg xs =>
      simp only [viewA, Option.map_eq_some_iff] at e
      obtain ⟨y', e1, rfl⟩ := e
      rw [viewL_free hx e1]
      rfl
  | clo f xs =>
    simp only [viewA, Option.map_eq_some_iff] at e
    obtain ⟨y', e1, rfl⟩ := e
    rw [viewL_free hx e1]
    rfl
  | tup xs => simp [viewA] at e
theorem val_lt {x : AV} (hv : x.valB = true) (n : Nat) : x.lt n := by
  intro y hy
  have hT : ∀ (z : TV), z.valB = true → ∀ y ∈ z.leaves, y.ltB n = true := fun z hz y hy => by
    cases z with
    | one x =>
      simp only [TV.leaves, List.mem_singleton] at hy
      subst hy
      cases y <;> simp [TV.valB] at hz
      rfl
    | agg xs =>
      simp only [TV.valB, List.all_eq_true] at hz
      have := hz y hy
      split at this
      · rfl
      · cases this
  cases x with
  | tv x => exact hT x hv y hy
  | clo f xs => simp [AV.valB] at hv
  | tup xs =>
    simp only [AV.valB, List.all_eq_true] at hv
    simp only [AV.leaves, List.mem_flatMap] at hy
    obtain ⟨z, hz, hy⟩ := hy
    exact hT z (hv z hz) y hy

theorem argsRel_of {R : Mem} {ρ : Operand → Value} {as : List Operand} {xs : List Lf} {us : List Value} {vs : List AV} {ys : List Lf} (h1 : as.mapM (fun x => viewA H (look T x).2) = some vs) (h2 : xs.mapM (view H) = some ys)
    (ha : ∀ (x : Operand) (y : AV), x ∈ as → viewA H (look T x).2 = some y → y.rel noφ R (ρ x)) (hl : us.length = xs.length) (hc : ∀ j (h : j < xs.length) (h' : j < us.length) (y : Lf), view H xs[j] = some y → y.rel noφ R us[j]) :
    ArgsRel R (vs ++ ys.map fun y => .tv (.one y)) (as.map ρ ++ us) := by
  obtain ⟨k1, k2⟩ := mapM_some h1
  obtain ⟨k3, k4⟩ := mapM_some h2
  refine ⟨by simp [k1, k3, hl], fun j hj hj' => ?_⟩
  by_cases hlt : j < as.length
  · rw [List.getElem_append_left (by omega), List.getElem_append_left (by simpa using hlt), List.getElem_map]
    exact ha _ _ (List.getElem_mem hlt) (k2 j hlt (by omega))
  · have hl2 : (as.map ρ).length = as.length := by simp
    rw [List.getElem_append_right (by omega), List.getElem_append_right (by omega), List.getElem_map]
    simp only [List.length_append, List.length_map] at hj hj'
    simp only [hl2, k1]
    exact hc (j - as.length) (by omega) (by omega) _ (k4 (j - as.length) (by omega) (by omega))

theorem exec_call {ρ : Operand → Value} {c : Call} {x : Operand} {f : Nat} {us : List Value} (ho : o.op = .call c) (hc : c.callee = .value x) (hx : ρ x = .func (.func f) #[] us.toArray) (he : ∀ (av : Array Value) (W : World), (callFunc f av).run P W = .ok (.enter f av) W) :
    (execOp ρ o).run P w = .ok (.enter f (c.args.toList.map ρ ++ us).toArray) w := by
  have e : c.args.map ρ ++ us.toArray = (c.args.toList.map ρ ++ us).toArray := by
    apply Array.toList_inj.1
    simp
  simp only [execOp, ho, resolve, hc, hx, Deferred.ofValue, Sem.run_bind, Sem.run_pure, Result.andThen_ok, invoke, Array.empty_append, he]
  rw [e]

/-- one operation that turns nothing that the call owns -/
theorem op_step (h : RA P cf M0 w0 N φ M ⟨T, H⟩ a w) {v : Bool × AV} (hok : opOK P cf H N ops o T v) {K : Act → World → Prop} {Q : Exit → Act → World → Prop}
    (hK : ∀ M' a' w', M.le M' → RA P cf M0 w0 N φ M' ⟨T.put o.dst v, H⟩ a' w' → K a' w') :
    if Region.wanted o (yielded ops a.tmps) then o.wp P a w K Q else K (a.put o.dst undef) w := by
  obtain ⟨hd, hg, hv, hop⟩ := hok
  obtain ⟨g, r⟩ := v
  simp only at hv hop
  rw [wanted_eq h hg, ← hv]
  have hlt : r.lt H.length := by
    rcases hop with ⟨c, hc, _, _, _, _, _, _, _, _, _, hr | hr⟩ | ⟨_, hr⟩
    · exact val_lt hr _
    · exact free_lt hr.1 _
    · rw [hr]
      exact q_lt h.hi.wf h.lt _
  cases g with
  | false =>
    rw [if_neg (by simp)]
    exact hK M _ _ (Mem.le_refl _) (h.put hd (Mem.le_refl _) h.new h.hi h.below ⟨(fun hf => by cases hf), fun _ => rfl⟩ hlt)
  | true =>
    rw [if_pos rfl]
    rcases hop with ⟨c, hc, gc, f, xs, vs, h1, h2, h3, h4, h5, h6⟩ | ⟨hs, hr⟩
    · have hspec := h5 rfl
      simp only [calleeOf] at h1
      split at h1
      · rename_i x hcx
        split at h1
        · rename_i gc' f' xs' hx
          cases h1
          have hρ := h.ctx.t x (by rw [hx]; exact h2 rfl)
          rw [hx] at hρ
          obtain ⟨us, hus, hl, hcap⟩ := hρ
          have hex := exec_call (P := P) (w := w) hc hcx hus hspec.1
          simp only [argsOf, Option.bind_eq_some_iff, Option.map_eq_some_iff] at h4
          obtain ⟨vs1, h7, ys, h8, rfl⟩ := h4
          unfold Oper.wp
          rw [hex]
          simp only [Oper.upon]
          rcases h6 with hval | ⟨hfr, hfa, hfx⟩
          · have hAR : ArgsRel w.cell? (vs1 ++ ys.map fun y => .tv (.one y)) (c.args.toList.map a.eval ++ us) :=
              argsRel_of h7 h8 (fun x y hx hy => viewA_rel h.hi hy (h.ctx.t x (h3 x hx rfl))) hl (fun j hj hj' y hy => view_rel h.hi hy (hcap j hj hj'))
            refine (hspec.2 w.cell? w _ (fun _ _ e => e) hAR).mono ?_
            rintro e w' ⟨u, M', rfl, -, -, hrel, hb⟩
            exact hK M _ _ (Mem.le_refl _) (h.put hd (Mem.le_refl _) h.new (h.hi.below hb) (h.below.trans (hb.mono h.below.size)) ⟨fun _ => AV.val_rel hval hrel, fun hf => by cases hf⟩ hlt)
          · have hAR : ArgsRel M (vs1 ++ ys.map fun y => .tv (.one y)) (c.args.toList.map a.eval ++ us) :=
              argsRel_of h7 h8 (fun x y hx hy => by rw [viewA_free (hfa x hx) hy]; exact free_rel (hfa x hx) (h.ctx.t x (h3 x hx rfl))) hl
                (fun j hj hj' y hy => by rw [view_free (hfx _ (List.getElem_mem hj)) hy]; exact Lf.rel_phi (hfx _ (List.getElem_mem hj)) (fun i hi => by omega) (hcap j hj hj'))
            refine (hspec.2 M w _ h.hi.mem hAR).mono ?_
            rintro e w' ⟨u, M', rfl, hm, hn, hrel, hb⟩
            refine hK M' _ _ hm (h.put hd hm (fun ad v e => ?_) (h.hi.more hb hm hn) (h.below.trans (hb.mono h.below.size)) ⟨fun _ => free_rel hfr hrel, fun hf => by cases hf⟩ hlt)
            rcases (hn ad v e).2 with h9 | h9
            · exact h.new ad v h9
            · exact .inr (Nat.le_trans h.below.size h9)
        · cases h1
      · cases h1
    · obtain ⟨u, hu, hrel⟩ := q_sound (o := o) h.ctx hs
      unfold Oper.wp
      rw [hu]
      exact hK M _ _ (Mem.le_refl _) (h.put hd (Mem.le_refl _) h.new h.hi h.below ⟨fun _ => by rw [hr]; exact hrel, fun hf => by cases hf⟩ hlt)
end
end Am
end Go.Proofs.Ytoaecbdpkmeenaa
