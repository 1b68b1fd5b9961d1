/- States of the abstract machine, and regions whose operations turn no memory that the call owns. Conditions: those that each names. -/
import Derived.Test.YtoaecbdpkmeenaaAm2
namespace Go.Proofs.Ytoaecbdpkmeenaa
namespace Am
open Go Go.RowKit

/-! ### names stay below -/
theorem AV.lt_one {n : Nat} {x : Lf} : AV.lt n (.tv (.one x)) ↔ x.ltB n = true := by simp [AV.lt, AV.leaves, TV.leaves]
theorem AV.lt_val {n : Nat} {v : Value} : AV.lt n (.tv (.one (.b (.val v)))) := by simp [AV.lt, AV.leaves, TV.leaves, Lf.ltB]
theorem look_lt {T : Tm} {n : Nat} (hT : ∀ t, (T t).2.lt n) (x : Operand) : (look T x).2.lt n := by
  cases x with
  | tmp t => exact hT t
  | const v => exact AV.lt_val
  | func f => intro y hy; simp [look, AV.leaves] at hy
  | global g => simp [look, AV.lt, AV.leaves, TV.leaves, Lf.ltB]
theorem und_lt {n : Nat} : AV.lt n .und := by simp [AV.lt, AV.leaves, TV.leaves, Lf.ltB]
theorem adr_lt {H : List Ob} {n : Nat} (hw : ∀ (i : Nat) (o : Ob), H[i]? = some o → o.lt n) {l : Lf} {s : Prop} {wd o : Nat} {cell : Nat → Lf} (ha : adr H l = some (s, wd, o, cell)) : ∀ t, (cell t).ltB n = true := by
  intro t
  cases l with
  | und => simp [adr] at ha
  | b x => simp [adr] at ha
  | own i => simp [adr] at ha
  | ptr i o' =>
    simp only [adr] at ha
    split at ha
    · rename_i cs hcs
      simp only [Option.some.injEq, Prod.mk.injEq] at ha
      obtain ⟨rfl, rfl, rfl, rfl⟩ := ha
      show (cs.getD t .und).ltB n = true
      rw [List.getD_eq_getElem?_getD]
      cases h : cs[t]? with
      | none => rfl
      | some y => exact hw i _ hcs y (List.mem_of_getElem? h)
    · cases ha
  | ea c j o' =>
    simp only [adr, Option.some.injEq, Prod.mk.injEq] at ha
    obtain ⟨rfl, rfl, rfl, rfl⟩ := ha
    rfl
  | oa i wd' j o' =>
    simp only [adr] at ha
    split at ha
    · simp only [Option.some.injEq, Prod.mk.injEq] at ha
      obtain ⟨rfl, rfl, rfl, rfl⟩ := ha
      rfl
    · cases ha
  | ip xs o' =>
    simp only [adr, Option.some.injEq, Prod.mk.injEq] at ha
    obtain ⟨rfl, rfl, rfl, rfl⟩ := ha
    rfl
theorem step1_lt {n off : Nat} {l l' : Lf} (h : l.ltB n = true) (e : step1 off l = some l') : l'.ltB n = true := by
  cases l <;> simp [step1] at e <;> subst e <;> exact h
theorem mapM_mem {α β : Type} {f : α → Option β} : ∀ {xs : List α} {ys : List β}, xs.mapM f = some ys → ∀ y ∈ ys, ∃ x ∈ xs, f x = some y
  | [], ys, h, y, hy => by simp at h; subst h; simp at hy
  | x :: xs, ys, h, y, hy => by
    rw [List.mapM_cons] at h
    cases e : f x with
    | none => simp [e] at h
    | some z =>
      cases e2 : xs.mapM f with
      | none => simp [e, e2] at h
      | some zs =>
        simp [e, e2] at h
        subst h
        rcases List.mem_cons.1 hy with rfl | hy
        · exact ⟨x, List.mem_cons_self, e⟩
        · obtain ⟨x', h1, h2⟩ := mapM_mem e2 y hy
          exact ⟨x', List.mem_cons_of_mem _ h1, h2⟩
theorem fold_splice_mem {y : Lf} : ∀ {ps : List (Bool × Nat × Nat × TV)} {cs : List Lf}, y ∈ ps.foldl (fun l p => splice l p.2.1 p.2.2.2.cs) cs → y ∈ cs ∨ ∃ p ∈ ps, y ∈ p.2.2.2.cs
  | [], cs, h => .inl h
  | p :: ps, cs, h => by
    rw [List.foldl_cons] at h
    rcases fold_splice_mem h with h | ⟨q, h1, h2⟩
    · rcases splice_mem h with h | h
      · exact .inl h
      · exact .inr ⟨p, List.mem_cons_self, h⟩
    · exact .inr ⟨q, List.mem_cons_of_mem _ h1, h2⟩
theorem q_lt {cf : Cfg} {H : List Ob} {T : Tm} {g : Bool} {n : Nat} (hw : ∀ (i : Nat) (o : Ob), H[i]? = some o → o.lt n) (hT : ∀ t, (T t).2.lt n) (op : Op) : (qev cf H T g op).2.lt n := by
  have hl := look_lt hT
  cases op <;> simp only [qev] <;> try exact und_lt
  case move x => exact hl x
  case assign x => exact hl x
  case nilCheck x =>
    have := hl x
    split <;> first | exact und_lt | (rename_i e; rw [e] at this; exact this)
  case pick c a b => split <;> first | exact und_lt | exact AV.lt_val
  case load t x =>
    split
    · split
      · rename_i ha
        have h := adr_lt hw ha
        cases (cf.ty t).agg
        · exact AV.lt_one.2 (h _)
        · intro y hy
          simp [AV.leaves, TV.leaves] at hy
          obtain ⟨j, _, rfl⟩ := hy
          exact h _
      · exact und_lt
    · exact und_lt
  case binOp op t x y t' =>
    split
    · cases op <;> first | exact AV.lt_val | exact und_lt
    · cases op <;> first | exact AV.lt_val | exact und_lt
    · exact und_lt
  case unOp op t x => split <;> first | exact und_lt | exact AV.lt_val
  case makeFunc fn first cap =>
    split
    · intro y hy
      simp only [AV.leaves, List.mem_map] at hy
      obtain ⟨x, _, rfl⟩ := hy
      have := hl x
      split
      · rename_i e; rw [e] at this; exact AV.lt_one.1 this
      · rfl
    · exact und_lt
  case fieldAddr s x f =>
    have := hl x
    split
    · rename_i e
      rw [e] at this
      split
      · split
        · rename_i hl'
          have h1 := AV.lt_one.1 this
          exact AV.lt_one.2 (step1_lt h1 hl')
        · exact und_lt
      · exact und_lt
    · exact und_lt
  case indexAddr t x ix =>
    have := hl x
    split
    · split <;> first | exact und_lt | exact AV.lt_one.2 rfl
    · rename_i e _
      rw [e] at this
      split <;> first | exact und_lt | (have h2 := AV.lt_one.1 this; exact AV.lt_one.2 (by simpa [Lf.ltB] using h2))
    · exact und_lt
  case build t parts =>
    split
    · rename_i ps hps
      intro y hy
      rcases fold_splice_mem hy with h | ⟨p, h1, h2⟩
      · simp only [List.mem_map] at h
        obtain ⟨v, _, rfl⟩ := h
        rfl
      · obtain ⟨q, h3, h4⟩ := mapM_mem hps p h1
        unfold partA at h4
        have := hl q.2
        split at h4
        · rename_i gx v hv
          rw [hv] at this
          split at h4
          · cases h4
            refine this y ?_
            cases v with
            | one x => simpa [AV.leaves, TV.leaves, TV.cs] using h2
            | agg xs => simpa [AV.leaves, TV.leaves, TV.cs] using h2
          · cases h4
        · cases h4
    · exact und_lt
  case extract x j =>
    have := hl x
    split
    · rename_i e
      rw [e] at this
      split
      · rename_i xs y hy
        intro z hz
        refine this z ?_
        simp only [AV.leaves, List.mem_flatMap] at hz ⊢
        exact ⟨y, List.mem_of_getElem? hy, hz⟩
      · exact und_lt
    · exact und_lt
  case call c =>
    split
    · split
      · split <;> first | exact und_lt | exact AV.lt_val
      · exact und_lt
    · split <;> first | exact und_lt | exact AV.lt_val
    · split <;> first | exact und_lt | exact AV.lt_val
    · exact und_lt

/-! ### states -/
structure St where
  T : Tm
  H : List Ob
def Tm.put (T : Tm) (d : Option Nat) (v : Bool × AV) : Tm := match d with
  | some t => fun s => bif Nat.beq s t then v else T s
  | none => T
theorem put_tab (L : List (Nat × Bool × AV)) (t : Nat) (v : Bool × AV) : (tab L).put (some t) v = tab ((t, v) :: L) := rfl
theorem put_none (T : Tm) (v : Bool × AV) : T.put none v = T := rfl

/-- what the state X stands for; M0, w0: the memory and the world of the call's beginning -/
structure RA (P : Program) (cf : Cfg) (M0 : Mem) (w0 : World) (N : Nat) (φ : Nat → Value) (M : Mem) (X : St) (a : Act) (w : World) : Prop where
  cf : CfgOK P cf
  le : M0.le M
  new : ∀ ad v, M ad = some v → M0 ad = some v ∨ w0.heap.size ≤ ad.block
  hi : HI φ M X.H w
  t : ∀ t, ((X.T t).1 = true → (X.T t).2.rel φ M (a.tmps.getD t undef)) ∧ ((X.T t).1 = false → a.tmps.getD t undef = undef)
  lt : ∀ t, (X.T t).2.lt X.H.length
  own : ∀ (i : Nat) (o : Ob) g, X.H[i]? = some o → o.live → blk (φ i) = some g → w0.heap.size ≤ g
  size : a.tmps.size = N
  below : Below w0.heap.size w0 w
  defers : a.defers = []
def R (P : Program) (cf : Cfg) (M0 : Mem) (w0 : World) (N : Nat) (X : St) (a : Act) (w : World) : Prop := ∃ φ M, RA P cf M0 w0 N φ M X a w

section
variable {P : Program} {cf : Cfg} {M0 : Mem} {w0 : World} {N : Nat} {φ : Nat → Value} {M : Mem} {X : St} {a : Act} {w : World}

theorem RA.ctx (h : RA P cf M0 w0 N φ M X a w) : Ctx P cf φ M X.H w X.T a := ⟨h.cf, h.hi, fun x hx => by
  cases x with
  | tmp t => exact (h.t t).1 hx
  | const v => rfl
  | func f => exact ⟨[], rfl, rfl, fun j hj => by simp at hj⟩
  | global g => trivial⟩
theorem getD_put {d : Option Nat} {u : Value} (hd : d.all (Nat.blt · a.tmps.size) = true) (t : Nat) : ((a.put d u).tmps.getD t undef) = if d = some t then u else a.tmps.getD t undef := by
  cases d with
  | none => simp [Act.put]
  | some s =>
    simp only [Option.all_some, Nat.blt_eq] at hd
    by_cases h : s = t
    · subst h
      simp [Act.put, hd]
    · simp [Act.put, h]
theorem size_put {d : Option Nat} {u : Value} : (a.put d u).tmps.size = a.tmps.size := by cases d <;> simp [Act.put]
theorem defers_put {d : Option Nat} {u : Value} : (a.put d u).defers = a.defers := by cases d <;> simp [Act.put]
/-- an operation has left the value v in its variable, and memory as it was, but for more of it -/
theorem RA.put (h : RA P cf M0 w0 N φ M X a w) {d : Option Nat} (hd : d.all (Nat.blt · N) = true) {g : Bool} {v : AV} {u : Value} {M' : Mem} {w' : World} (hm : M.le M') (hn : ∀ ad v, M' ad = some v → M0 ad = some v ∨ w0.heap.size ≤ ad.block) (hi : HI φ M' X.H w') (hb : Below w0.heap.size w0 w') (hv : (g = true → v.rel φ M' u) ∧ (g = false → u = undef)) (hl : v.lt X.H.length) :
    RA P cf M0 w0 N φ M' ⟨X.T.put d (g, v), X.H⟩ (a.put d u) w' := by
  refine ⟨h.cf, Mem.le_trans h.le hm, hn, hi, fun t => ?_, fun t => ?_, h.own, size_put.trans h.size, hb, defers_put.trans h.defers⟩
  · rw [getD_put (by rw [h.size]; exact hd)]
    cases d with
    | none => exact ⟨fun ht => AV.rel_mono hm ((h.t t).1 ht), (h.t t).2⟩
    | some s =>
      simp only [Tm.put]
      by_cases e : t = s
      · subst e
        simp only [Nat.beq_refl, cond_true, if_true]
        exact hv
      · have e1 : Nat.beq t s = false := by rw [Bool.eq_false_iff]; exact fun h => e (Nat.eq_of_beq_eq_true h)
        rw [e1]
        rw [if_neg (by simpa using Ne.symm e)]
        exact ⟨fun ht => AV.rel_mono hm ((h.t t).1 ht), (h.t t).2⟩
  · cases d with
    | none => exact h.lt t
    | some s =>
      simp only [Tm.put]
      by_cases e : t = s
      · subst e
        simpa using hl
      · have e1 : Nat.beq t s = false := by rw [Bool.eq_false_iff]; exact fun h => e (Nat.eq_of_beq_eq_true h)
        rw [e1]
        exact h.lt t
/-- the same memory, a world that has drawn -/
theorem RA.draw (h : RA P cf M0 w0 N φ M X a w) : RA P cf M0 w0 N φ M X a { w with drawn := w.drawn + 1 } :=
  ⟨h.cf, h.le, h.new, ⟨h.hi.mem, h.hi.ob, h.hi.off, h.hi.inj, h.hi.wf⟩, h.t, h.lt, h.own, h.size, ⟨h.below.os, h.below.tape, h.below.output, h.below.size, h.below.block⟩, h.defers⟩
end

/-! ### what functions come to -/
def noφ : Nat → Value := fun _ => undef
def ArgsRel (M : Mem) (xs : List AV) (us : List Value) : Prop := us.length = xs.length ∧ ∀ j (h : j < xs.length) (h' : j < us.length), xs[j].rel noφ M us[j]
/-- what a call hands back: a value that lies in memory that does not turn, or a slice of the caller's own -/
inductive Res
  | imm (r : AV)
  | own (e : Nat) (c : Cn)
def Res.rel (M : Mem) (w w' : World) (u : Value) : Res → Prop
  | .imm r => r.rel noφ M u
  | .own e c => ∃ vs, w'.ownsRow w.heap.size e c.w u c.len vs ∧ c.rel M vs ∧ ∀ ad v, M ad = some v → blk u ≠ some ad.block
/-- the call f(args) comes to r, and turns nothing that was there -/
def Does (P : Program) (f : Nat) (args : List AV) (r : Res) : Prop := (∀ (av : Array Value) (W : World), (callFunc f av).run P W = .ok (.enter f av) W) ∧ ∀ (M : Mem) (w : World) (us : List Value), (∀ ad v, M ad = some v → w.cell? ad = some v) → ArgsRel M args us →
  Calls P f us.toArray w fun e w' => ∃ u M', e = .returned u ∧ M.le M' ∧ (∀ ad v, M' ad = some v → w'.cell? ad = some v ∧ (M ad = some v ∨ w.heap.size ≤ ad.block)) ∧ r.rel M' w w' u ∧ Below w.heap.size w w'

/-- an own slice or box as one that is only read -/
def viewB (H : List Ob) : Lf → Option B
  | .b x => some x
  | .own i => match H[i]? with
    | some (.row _ c) => some (.sl c)
    | _ => none
  | _ => none
def view (H : List Ob) : Lf → Option Lf
  | .b x => some (.b x)
  | .own i => match H[i]? with
    | some (.row _ c) => some (.b (.sl c))
    | _ => none
  | .ptr i o => match H[i]? with
    | some (.box cs) => (cs.mapM (viewB H)).map fun xs => .ip xs o
    | _ => none
  | .ip xs o => some (.ip xs o)
  | _ => none
def viewA (H : List Ob) : AV → Option AV
  | .tv (.one x) => (view H x).map fun y => .tv (.one y)
  | .tv (.agg xs) => (xs.mapM (view H)).map fun ys => .tv (.agg ys)
  | .clo f xs => (xs.mapM (view H)).map fun ys => .clo f ys
  | .tup _ => none
def TV.valB : TV → Bool
  | .one (.b (.val _)) => true
  | .agg xs => xs.all fun x => match x with | .b (.val _) => true | _ => false
  | _ => false
/-- a value that has no part in memory -/
def AV.valB : AV → Bool
  | .tv x => x.valB
  | .tup xs => xs.all TV.valB
  | .clo _ _ => false
/-- a value without names of owned memory -/
def AV.free (x : AV) : Bool := x.leaves.all (Lf.ltB 0)
end Am
end Go.Proofs.Ytoaecbdpkmeenaa
