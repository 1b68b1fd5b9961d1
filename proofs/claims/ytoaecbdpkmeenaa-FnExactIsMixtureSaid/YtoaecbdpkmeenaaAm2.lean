/- Operations that turn no memory, reckoned on values without addresses. Conditions: those that each names. -/
import Derived.Test.YtoaecbdpkmeenaaAm1b
namespace Go.Proofs.Ytoaecbdpkmeenaa
namespace Am
open Go

inductive Ty
  | bad
  | int
  | bool
  | plain
  | slice (e : Nat)
  | struct (fs : List (Nat × Nat))
  | arr (n e : Nat)
def Ty.agg : Ty → Bool
  | .struct _ => true
  | .arr _ _ => true
  | _ => false
/-- what is known of a program's types: a type's kind, its cells, its bytes, its zero value's cells -/
structure Cfg where
  ty : Nat → Ty
  sz : Nat → Nat
  bytes : Nat → Nat
  zero : Nat → List Value
def Ty.is (P : Program) (t : Nat) : Ty → Prop
  | .bad => True
  | .int => P.underlying t = some (.int .i64)
  | .bool => P.underlying t = some .bool
  | .plain => ∃ d, P.underlying t = some d ∧ (∀ F, d ≠ .struct F) ∧ ∀ n e, d ≠ .array n e
  | .slice e => P.underlying t = some (.slice e)
  | .struct fs => ∃ F : Array Field, P.underlying t = some (.struct F) ∧ F.size = fs.length ∧ ∀ i off t' : Nat, fs[i]? = some (off, t') → ∃ f : Field, F[i]? = some f ∧ f.offset = off ∧ f.type = t' ∧ ∃ j, P.info? t' = some j ∧ j.size ≠ 0
  | .arr n e => P.underlying t = some (.array n e)
structure CfgOK (P : Program) (cf : Cfg) : Prop where
  ty : ∀ t, (cf.ty t).is P t
  info : ∀ t, cf.sz t ≠ 0 → ∃ i, P.info? t = some i ∧ i.size = cf.sz t ∧ i.bytes = cf.bytes t ∧ ∃ z, i.zero = some z ∧ z.cells.toList = cf.zero t ∧ z.cells.size = cf.sz t

def I64 (n : Int) : Prop := -9223372036854775808 ≤ n ∧ n ≤ 9223372036854775807
theorem I64.wrap {n : Int} (h : I64 n) : IntKind.i64.wrap n = n := IntWalk.i64_in _ h

/-! ### the variables -/
abbrev Tm := Nat → Bool × AV
def tab : List (Nat × Bool × AV) → Tm
  | [], _ => (true, .und)
  | (s, v) :: L, t => bif Nat.beq t s then v else tab L t
def look (T : Tm) : Operand → Bool × AV
  | .tmp t => T t
  | .const v => (true, .val v)
  | .func f => (true, .clo f [])
  | .global _ => (true, .und)
def need (g x : Bool) : Prop := g = true → x = true

/-- what an address reaches: a condition, how many cells, at which of them, and what they hold -/
def adr (H : List Ob) : Lf → Option (Prop × Nat × Nat × (Nat → Lf))
  | .ptr i o => match H[i]? with
    | some (.box cs) => some (True, cs.length, o, fun t => cs.getD t .und)
    | _ => none
  | .ea c j o => some (True, c.w, o, fun t => .b (c.cell j t))
  | .oa i w j o => match H[i]? with
    | some (.row _ c) => some (w = c.w ∧ j < c.len, c.w, o, fun t => .b (c.cell j t))
    | _ => none
  | .ip xs o => some (True, xs.length, o, fun t => .b (xs.getD t (.val undef)))
  | _ => none
def step1 (off : Nat) : Lf → Option Lf
  | .ptr i o => some (.ptr i (o + off))
  | .ea c j o => some (.ea c j (o + off))
  | .oa i w j o => some (.oa i w j (o + off))
  | .ip xs o => some (.ip xs (o + off))
  | _ => none
/-- how many elements -/
def lenOf (H : List Ob) : AV → Option Nat
  | .tv (.one (.b (.sl c))) => some c.len
  | .tv (.one (.own i)) => match H[i]? with
    | some (.row _ c) => some c.len
    | _ => none
  | .tv (.one (.b (.val (.slice _ n _)))) => some n
  | _ => none
def arith (op : BinOp) (a b : Int) : Prop × AV :=
  match op with
  | .add => (I64 (a + b), .int (a + b))
  | .sub => (I64 (a - b), .int (a - b))
  | .mul => (I64 (a * b), .int (a * b))
  | .quo => (I64 a ∧ 0 ≤ a ∧ 0 < b, .int (a / b))
  | .rem => (0 ≤ a ∧ 0 < b, .int (a % b))
  | .lss => (True, .bool (decide (a < b)))
  | .leq => (True, .bool (decide (a ≤ b)))
  | .gtr => (True, .bool (decide (b < a)))
  | .geq => (True, .bool (decide (b ≤ a)))
  | .eql => (True, .bool (decide (a = b)))
  | .neq => (True, .bool (!decide (a = b)))
  | _ => (False, .und)
/-- where in a value of type t its part i lies, and how many cells it has -/
def placeA (cf : Cfg) (t i : Nat) : Option (Nat × Nat) := match cf.ty t with
  | .struct fs => match fs[i]? with
    | some f => some (f.1, cf.sz f.2)
    | none => none
  | .arr n e => bif Nat.blt i n then some (i * cf.sz e, cf.sz e) else none
  | _ => none
def buildOK (cf : Cfg) (t : Nat) : Prop := match cf.ty t with
  | .struct _ => True
  | .arr _ e => cf.sz e ≠ 0
  | _ => False
/-- a part of a literal: is it known, where it lies, how many cells, and what -/
def partA (cf : Cfg) (T : Tm) (t : Nat) (p : Nat × Operand) : Option (Bool × Nat × Nat × TV) := match look T p.2 with
  | (gx, .tv v) => match placeA cf t p.1 with
    | some (off, sz) => some (gx, off, sz, v)
    | none => none
  | _ => none
def qev (cf : Cfg) (H : List Ob) (T : Tm) (g : Bool) : Op → Prop × AV
  | .move x | .assign x => (need g (look T x).1, (look T x).2)
  | .nilCheck x => match look T x with
    | (gx, .tv (.one (.ptr i o))) => (need g gx, .tv (.one (.ptr i o)))
    | (gx, .tv (.one (.ip xs o))) => (need g gx, .tv (.one (.ip xs o)))
    | _ => (False, .und)
  | .pick c a b => match look T c, look T a, look T b with
    | (gc, .tv (.one (.b (.val (.bool x))))), (ga, .tv (.one (.b (.val (.bool va))))), (gb, .tv (.one (.b (.val (.bool vb))))) => (need g gc ∧ (g = true → x = true → ga = true) ∧ (g = true → x = false → gb = true), .bool (bif x then va else vb))
    | _, _, _ => (False, .und)
  | .load t x => match look T x with
    | (gx, .tv (.one l)) => match adr H l with
      | some (s, wd, o, cell) => bif (cf.ty t).agg
          then (need g gx ∧ (g = true → s ∧ cf.sz t ≠ 0 ∧ o + cf.sz t ≤ wd), .tv (.agg ((List.range (cf.sz t)).map fun j => cell (o + j))))
          else (need g gx ∧ (g = true → s ∧ (match cf.ty t with | .bad => False | _ => True) ∧ o < wd), .tv (.one (cell o)))
      | none => (False, .und)
    | _ => (False, .und)
  | .fieldAddr s x f => match cf.ty s, look T x with
    | .struct fs, (gx, .tv (.one l)) => match fs[f]? with
      | some (off, _) => match step1 off l with
        | some l' => (need g gx, .tv (.one l'))
        | none => (False, .und)
      | none => (False, .und)
    | _, _ => (False, .und)
  | .indexAddr t x ix => match look T x, look T ix with
    | (gx, .tv (.one (.b (.sl c)))), (gi, .tv (.one (.b (.val (.int .i64 n))))) => match cf.ty t with
      | .slice e => (need g gx ∧ need g gi ∧ (g = true → cf.sz e = c.w ∧ cf.sz e ≠ 0 ∧ 0 ≤ n ∧ n < c.len), .tv (.one (.ea c n.toNat 0)))
      | _ => (False, .und)
    | (gx, .tv (.one (.own i))), (gi, .tv (.one (.b (.val (.int .i64 n))))) => match cf.ty t, H[i]? with
      | .slice e, some (.row _ c) => (need g gx ∧ need g gi ∧ (g = true → cf.sz e = c.w ∧ cf.sz e ≠ 0 ∧ 0 ≤ n ∧ n < c.len), .tv (.one (.oa i c.w n.toNat 0)))
      | _, _ => (False, .und)
    | _, _ => (False, .und)
  | .binOp op t x y _ => match look T x, look T y with
    | (gx, .tv (.one (.b (.val (.int .i64 a))))), (gy, .tv (.one (.b (.val (.int .i64 b))))) => (need g gx ∧ need g gy ∧ (g = true → (arith op a b).1), (arith op a b).2)
    | (gx, .tv (.one (.b (.val (.bool a))))), (gy, .tv (.one (.b (.val (.bool b))))) => match op with
      | .eql => (need g gx ∧ need g gy ∧ (g = true → cf.ty t = .bool), .bool (a == b))
      | .neq => (need g gx ∧ need g gy ∧ (g = true → cf.ty t = .bool), .bool (a != b))
      | _ => (False, .und)
    | _, _ => (False, .und)
  | .unOp op _ x => match op, look T x with
    | .not, (gx, .tv (.one (.b (.val (.bool v))))) => (need g gx, .bool (!v))
    | .neg, (gx, .tv (.one (.b (.val (.int .i64 n))))) => (need g gx ∧ (g = true → I64 (-n)), .int (-n))
    | _, _ => (False, .und)
  | .build t parts => match parts.toList.mapM (partA cf T t) with
    | some ps => ((∀ p ∈ ps, need g p.1 ∧ (g = true → p.2.2.2.cs.length = p.2.2.1 ∧ p.2.2.1 ≠ 0 ∧ p.2.2.2.cs.all (Lf.oneB H) = true ∧ p.2.1 + p.2.2.1 ≤ cf.sz t)) ∧ (g = true → cf.sz t ≠ 0 ∧ buildOK cf t), .tv (.agg (ps.foldl (fun l p => splice l p.2.1 p.2.2.2.cs) ((cf.zero t).map fun v => .b (.val v)))))
    | none => (False, .und)
  | .extract x j => match look T x with
    | (gx, .tup xs) => match xs[j]? with
      | some y => (need g gx, .tv y)
      | none => (False, .und)
    | _ => (False, .und)
  | .makeFunc fn first cap => match fn, first.toList with
    | .func f, [] => ((∀ x ∈ cap.toList, need g (look T x).1 ∧ ∃ l, (look T x).2 = .tv (.one l)), .clo f (cap.toList.map fun x => match (look T x).2 with | .tv (.one l) => l | _ => .und))
    | _, _ => (False, .und)
  | .call c => match c.callee, c.args.toList, c.argTypes.toList with
    | .builtin .len, [x], [t] => match look T x, cf.ty t with
      | (gx, v), .slice _ => match lenOf H v with
        | some n => (need g gx, .int n)
        | none => (False, .und)
      | _, _ => (False, .und)
    | .builtin .max, [x, y], _ => match look T x, look T y with
      | (gx, .tv (.one (.b (.val (.int .i64 a))))), (gy, .tv (.one (.b (.val (.int .i64 b))))) => (need g gx ∧ need g gy, .int (max a b))
      | _, _ => (False, .und)
    | .builtin .min, [x, y], _ => match look T x, look T y with
      | (gx, .tv (.one (.b (.val (.int .i64 a))))), (gy, .tv (.one (.b (.val (.int .i64 b))))) => (need g gx ∧ need g gy, .int (min a b))
      | _, _ => (False, .und)
    | _, _, _ => (False, .und)
  | _ => (False, .und)

section
variable {P : Program} {cf : Cfg} {φ : Nat → Value} {M : Mem} {H : List Ob} {w : World} {T : Tm} {a : Act}

theorem run_lv {t : Nat} (hcf : CfgOK P cf) {ad : Addr} (hag : (cf.ty t).agg = true) (hz : cf.sz t ≠ 0) (us : List Value) (hl : us.length = cf.sz t) (hc : ∀ j (h : j < us.length), w.cell? (ad.add j) = some us[j]) :
    (Instr.loadAt t (.pointer (some ad))).run P w = .ok (.agg us.toArray) w := by
  obtain ⟨i, hi, h1, -⟩ := hcf.info t hz
  have hty := hcf.ty t
  have hA : (isAgg t).run P w = .ok true w := by
    unfold isAgg
    cases e : cf.ty t <;> rw [e] at hag hty <;> simp [Ty.agg] at hag
    · obtain ⟨F, h, -⟩ := hty
      simp [run_underlying h]
    · simp [run_underlying (show P.underlying t = _ from hty)]
  have hs : (sizeOf t).run P w = .ok us.length w := by
    unfold sizeOf
    simp [run_typeInfo _ hi, hl, h1]
  have hlc := run_loadCells_list (P := P) (w := w) ad us (fun j v hv => by
    obtain ⟨hj, e⟩ := List.getElem?_eq_some_iff.1 hv
    rw [hc j hj, e])
  simp [Instr.loadAt, Instr.sureAddr, loadVar, hA, hs, hlc]
theorem run_lv1 {t : Nat} (hcf : CfgOK P cf) {ad : Addr} (hb : match cf.ty t with | .bad => False | _ => True) (hag : (cf.ty t).agg = false) {u : Value} (hc : w.cell? ad = some u) :
    (Instr.loadAt t (.pointer (some ad))).run P w = .ok u w := by
  have hty := hcf.ty t
  have hA : (isAgg t).run P w = .ok false w := by
    unfold isAgg
    cases e : cf.ty t <;> rw [e] at hag hty hb <;> simp [Ty.agg] at hag hb
    all_goals first
      | (simp [run_underlying (show P.underlying t = _ from hty)]; done)
      | skip
    obtain ⟨d, h1, h2, h3⟩ := hty
    simp only [Sem.run_bind, run_underlying h1, Result.andThen_ok]
    cases d <;> first | rfl | (exact (h2 _ rfl).elim) | (exact (h3 _ _ rfl).elim)
  simp [Instr.loadAt, Instr.sureAddr, loadVar, hA, hc]

theorem lit_add (g o n : Nat) : (⟨g, o, none⟩ : Addr).add n = ⟨g, o + n, none⟩ := by
  unfold Addr.add
  by_cases h : n = 0 <;> simp [h]
theorem add2 (ad : Addr) (i j : Nat) : (ad.add i).add j = ad.add (i + j) := by
  unfold Addr.add
  by_cases hi : i = 0 <;> by_cases hj : j = 0 <;> simp [hi, hj, Nat.add_assoc]
theorem cell_row {g j : Nat} {arr : Array Value} {t : TypeId} (h : w.heap[g]? = some (.cells arr t (0, 0))) : w.cell? ⟨g, j, none⟩ = arr.toList[j]? := by
  unfold World.cell?
  simp [h]
theorem RdM.at_ {ad : Addr} {vs : List Value} (h : RdM M (some ad) vs) {j : Nat} {u : Value} (hj : vs[j]? = some u) : M (ad.add j) = some u := by
  obtain ⟨hj', e⟩ := List.getElem?_eq_some_iff.1 hj
  obtain ⟨ad', e1, hc⟩ := h (by rintro rfl; simp at hj)
  cases e1
  rw [hc j hj', e]
theorem own_cell {g n cap e size k : Nat} {vs : List Value} (h : w.ownsRow 0 e size (.slice (some ⟨g, 0, none⟩) n cap) k vs) {j : Nat} {u : Value} (hj : vs[j]? = some u) : w.cell? ⟨g, j, none⟩ = some u := by
  obtain ⟨h1, h2⟩ := h
  rcases h2 with ⟨h2, _⟩ | ⟨g', cap', cur, e1, _, hh, _, _, _, ht⟩
  · cases h2
  · cases e1
    rw [cell_row hh]
    rw [← ht, List.getElem?_take] at hj
    split at hj
    · exact hj
    · cases hj

theorem adr_sound (hH : HI φ M H w) {l : Lf} {u : Value} (hl : l.rel φ M u) {s : Prop} {wd o : Nat} {cell : Nat → Lf} (ha : adr H l = some (s, wd, o, cell)) (hs : s) :
    ∃ ad : Addr, u = .pointer (some ad) ∧ ∀ t, o + t < wd → ∃ v, w.cell? (ad.add t) = some v ∧ (cell (o + t)).rel φ M v := by
  cases l with
  | und => simp [adr] at ha
  | b x => simp [adr] at ha
  | own i => simp [adr] at ha
  | ptr i o' =>
    simp only [adr] at ha
    split at ha
    · rename_i cs hcs
      simp only [Option.some.injEq, Prod.mk.injEq] at ha
      obtain ⟨rfl, rfl, rfl, rfl⟩ := ha
      obtain ⟨g, h1, h2⟩ := hl
      obtain ⟨g', arr, t, h3, h4, h5, h6⟩ := hH.ob i _ hcs
      rw [h1] at h3
      cases h3
      refine ⟨_, h2, fun t ht => ?_⟩
      have ht' : o' + t < arr.toList.length := by rw [h5]; exact ht
      refine ⟨arr.toList[o' + t], by rw [lit_add, cell_row h4, List.getElem?_eq_getElem ht'], ?_⟩
      have := h6 (o' + t) ht ht'
      show Lf.rel φ M (cs.getD (o' + t) .und) _
      rwa [List.getD_eq_getElem?_getD, List.getElem?_eq_getElem ht]
    · cases ha
  | ea c j o' =>
    simp only [adr, Option.some.injEq, Prod.mk.injEq] at ha
    obtain ⟨rfl, rfl, rfl, rfl⟩ := ha
    obtain ⟨h0, ad, vs, h1, h2, h3⟩ := hl
    refine ⟨_, h2, fun t ht => ?_⟩
    obtain ⟨u', e, hu⟩ := h1.2.2 j (o' + t) h0 ht
    exact ⟨u', by rw [add2, Nat.add_assoc]; exact hH.mem _ _ (h3.at_ e), hu⟩
  | oa i wd' j o' =>
    simp only [adr] at ha
    split at ha
    · rename_i e c hc
      simp only [Option.some.injEq, Prod.mk.injEq] at ha
      obtain ⟨rfl, rfl, rfl, rfl⟩ := ha
      obtain ⟨rfl, hj⟩ := hs
      obtain ⟨g, n, cap, h1, h2⟩ := hl
      obtain ⟨vs, h3, h4⟩ := hH.ob i _ hc
      rw [h1] at h3
      refine ⟨_, h2, fun t ht => ?_⟩
      obtain ⟨u', e', hu⟩ := h4.2.2 j (o' + t) hj ht
      exact ⟨u', by rw [lit_add, Nat.add_assoc]; exact own_cell h3 e', hu⟩
    · cases ha
  | ip xs o' =>
    simp only [adr, Option.some.injEq, Prod.mk.injEq] at ha
    obtain ⟨rfl, rfl, rfl, rfl⟩ := ha
    obtain ⟨ad, h1, h2⟩ := hl
    refine ⟨_, h1, fun t ht => ?_⟩
    obtain ⟨u', e, hu⟩ := h2 (o' + t) ht
    refine ⟨u', by rw [add2]; exact hH.mem _ _ e, ?_⟩
    show B.rel M (xs.getD (o' + t) _) u'
    rwa [List.getD_eq_getElem?_getD, List.getElem?_eq_getElem ht]

/-- what an operation that turns no memory comes to -/
def QRun (P : Program) (a : Act) (w : World) (o : Oper) (φ : Nat → Value) (M : Mem) (v : AV) : Prop := ∃ u, (execOp a.eval o).run P w = .ok (.value u) w ∧ v.rel φ M u

structure Ctx (P : Program) (cf : Cfg) (φ : Nat → Value) (M : Mem) (H : List Ob) (w : World) (T : Tm) (a : Act) : Prop where
  cf : CfgOK P cf
  hi : HI φ M H w
  t : ∀ x, (look T x).1 = true → (look T x).2.rel φ M (a.eval x)
section
variable {o : Oper}

theorem q_load (C : Ctx P cf φ M H w T a) {t : Nat} {x : Operand} (ho : o.op = .load t x) (hs : (qev cf H T true (.load t x)).1) : QRun P a w o φ M (qev cf H T true (.load t x)).2 := by
  have hx := C.t x
  simp only [qev] at hs ⊢
  split at hs
  · rename_i gx l hl
    rw [hl] at hx
    split at hs
    · rename_i s wd of cell ha
      cases hag : (cf.ty t).agg
      · simp only [hag, cond_false] at hs ⊢
        obtain ⟨h1, h2⟩ := hs
        obtain ⟨hs1, hb, ho1⟩ := h2 trivial
        have hr := hx (h1 rfl)
        obtain ⟨ad, e, hc⟩ := adr_sound C.hi hr ha hs1
        obtain ⟨v, hv, hrel⟩ := hc 0 (by omega)
        refine ⟨v, ?_, by show Lf.rel φ M _ v; simpa using hrel⟩
        have := run_lv1 C.cf hb hag (w := w) (ad := ad) (u := v) hv
        simp only [execOp, ho, e, Sem.run_bind, this, Result.andThen_ok, Sem.run_pure]
      · simp only [hag, cond_true] at hs ⊢
        obtain ⟨h1, h2⟩ := hs
        obtain ⟨hs1, hz, ho1⟩ := h2 trivial
        have hr := hx (h1 rfl)
        obtain ⟨ad, e, hc⟩ := adr_sound C.hi hr ha hs1
        have hx' : ∀ j : Fin (cf.sz t), ∃ v, w.cell? (ad.add j.1) = some v ∧ (cell (of + j.1)).rel φ M v := fun j => hc j.1 (by have := j.2; omega)
        let us : List Value := List.ofFn fun j => (hx' j).choose
        have hus : ∀ j (h : j < us.length), w.cell? (ad.add j) = some us[j] ∧ (cell (of + j)).rel φ M us[j] := fun j h => by
          have h' : j < cf.sz t := by simpa [us] using h
          have := (hx' ⟨j, h'⟩).choose_spec
          simpa [us] using this
        have hr2 := run_lv C.cf (w := w) (ad := ad) hag hz us (by simp [us]) fun j h => (hus j h).1
        refine ⟨_, by simp only [execOp, ho, e, Sem.run_bind, hr2, Result.andThen_ok, Sem.run_pure], us, rfl, by simp [us], fun j h h' => ?_⟩
        simpa using (hus j h').2
    · exact hs.elim
  · exact hs.elim

theorem q_move (C : Ctx P cf φ M H w T a) {x : Operand} (ho : o.op = .move x ∨ o.op = .assign x) (hs : (look T x).1 = true) : QRun P a w o φ M (look T x).2 := by
  refine ⟨a.eval x, ?_, C.t x hs⟩
  rcases ho with ho | ho <;> simp [execOp, ho]
theorem q_nil (C : Ctx P cf φ M H w T a) {x : Operand} (ho : o.op = .nilCheck x) (hs : (qev cf H T true (.nilCheck x)).1) : QRun P a w o φ M (qev cf H T true (.nilCheck x)).2 := by
  have hx := C.t x
  simp only [qev] at hs ⊢
  split at hs
  · rename_i gx i of hl
    rw [hl] at hx
    have hr := hx (hs rfl)
    refine ⟨a.eval x, ?_, hr⟩
    obtain ⟨g, _, e⟩ := hr
    simp [execOp, ho, e]
  · rename_i gx i of hl
    rw [hl] at hx
    have hr := hx (hs rfl)
    refine ⟨a.eval x, ?_, hr⟩
    obtain ⟨g, e, _⟩ := hr
    simp [execOp, ho, e]
  · exact hs.elim
theorem q_pick (C : Ctx P cf φ M H w T a) {c x y : Operand} (ho : o.op = .pick c x y) (hs : (qev cf H T true (.pick c x y)).1) : QRun P a w o φ M (qev cf H T true (.pick c x y)).2 := by
  have hc := C.t c
  have hx := C.t x
  have hy := C.t y
  simp only [qev] at hs ⊢
  split at hs
  · rename_i gc b ga va gb vb e1 e2 e3
    rw [e1] at hc
    rw [e2] at hx
    rw [e3] at hy
    obtain ⟨h1, h2, h3⟩ := hs
    have rc : a.eval c = .bool b := hc (h1 rfl)
    cases b
    · have ry : a.eval y = .bool vb := hy (h3 trivial rfl)
      exact ⟨.bool vb, by simp [execOp, ho, rc, ry, asBool], rfl⟩
    · have rx : a.eval x = .bool va := hx (h2 trivial rfl)
      exact ⟨.bool va, by simp [execOp, ho, rc, rx, asBool], rfl⟩
  · exact hs.elim
theorem q_field (C : Ctx P cf φ M H w T a) {s f : Nat} {x : Operand} (ho : o.op = .fieldAddr s x f) (hs : (qev cf H T true (.fieldAddr s x f)).1) : QRun P a w o φ M (qev cf H T true (.fieldAddr s x f)).2 := by
  have hx := C.t x
  have hty := C.cf.ty s
  simp only [qev] at hs ⊢
  split at hs
  · rename_i fs gx l e1 e2
    rw [e2] at hx
    rw [e1] at hty
    split at hs
    · rename_i off t' hf
      split at hs
      · rename_i l' hl'
        have hr := hx (hs rfl)
        obtain ⟨F, h1, -, h2⟩ := hty
        obtain ⟨fd, hF, hoff, hft, j, hj, hz⟩ := h2 f off t' hf
        have hadd : ∃ ad : Addr, a.eval x = .pointer (some ad) ∧ l'.rel φ M (.pointer (some (ad.add off))) := by
          cases l <;> simp [step1] at hl' <;> subst hl'
          · obtain ⟨g, h3, h4⟩ := hr
            exact ⟨_, h4, g, h3, by rw [lit_add]⟩
          · obtain ⟨h0, ad, vs, h3, h4, h5⟩ := hr
            exact ⟨_, h4, h0, ad, vs, h3, by rw [add2, Nat.add_assoc], h5⟩
          · obtain ⟨g, n, cap, h3, h4⟩ := hr
            exact ⟨_, h4, g, n, cap, h3, by rw [lit_add, Nat.add_assoc]⟩
          · obtain ⟨ad, h3, h4⟩ := hr
            exact ⟨_, h3, ad, by rw [add2], h4⟩
        obtain ⟨ad, e, hl2⟩ := hadd
        refine ⟨_, ?_, hl2⟩
        have hu := run_underlying h1 w
        have hsz : (sizeOf fd.type).run P w = .ok j.size w := by
          unfold sizeOf
          simp [run_typeInfo _ (hft ▸ hj)]
        simp [execOp, ho, Instr.fieldAt, hu, hF, e, Instr.sureAddr, fieldPlace, hsz, hz, hoff]
      · exact hs.elim
    · exact hs.elim
  · exact hs.elim
theorem run_equal_bool {t : Nat} (h : P.underlying t = some .bool) (a b : Bool) : (Op.equal t (.bool a) (.bool b)).run P w = .ok (a == b) w := by
  have aux : ∀ d, (Op.equalIn (d + 1) t (.bool a) (.bool b)).run P w = .ok (a == b) w := fun d => by
    unfold Op.equalIn
    simp only [Sem.run_bind, run_underlying h, Result.andThen_ok, Sem.run_pure]
  have e : Op.maxDepth = (Op.maxDepth - 1) + 1 := rfl
  unfold Op.equal
  rw [e]
  exact aux _
theorem q_bin (C : Ctx P cf φ M H w T a) {op : BinOp} {t t' : Nat} {x y : Operand} (ho : o.op = .binOp op t x y t') (hs : (qev cf H T true (.binOp op t x y t')).1) : QRun P a w o φ M (qev cf H T true (.binOp op t x y t')).2 := by
  have hx := C.t x
  have hy := C.t y
  simp only [qev] at hs ⊢
  split at hs
  · rename_i gx n gy m e1 e2
    rw [e1] at hx
    rw [e2] at hy
    obtain ⟨h1, h2, h3⟩ := hs
    have rx : a.eval x = .int .i64 n := hx (h1 rfl)
    have ry : a.eval y = .int .i64 m := hy (h2 rfl)
    have h4 := h3 trivial
    have hrun : ∃ u, (binOp op t (.int .i64 n) (.int .i64 m)).run P w = .ok u w ∧ (arith op n m).2.rel φ M u := by
      cases op <;> simp only [arith] at h4 ⊢ <;> first | exact h4.elim | skip
      · exact ⟨_, by rw [binOp_add]; simp only [Op.intArith, h4.wrap, Sem.run_pure], rfl⟩
      · exact ⟨_, by rw [binOp_sub]; simp only [Op.intArith, h4.wrap, Sem.run_pure], rfl⟩
      · exact ⟨_, by rw [binOp_mul]; simp only [Op.intArith, h4.wrap, Sem.run_pure], rfl⟩
      · obtain ⟨k1, k2, k3⟩ := h4
        have e : n.tdiv m = n / m := Int.tdiv_eq_ediv_of_nonneg k2
        have e2 : IntKind.i64.wrap (n / m) = n / m := IntWalk.i64_in _ ⟨by have := Int.ediv_nonneg k2 (Int.le_of_lt k3); omega, by have := Int.ediv_le_self m k2; have := k1.2; omega⟩
        have k4 : m ≠ 0 := by omega
        exact ⟨_, by rw [binOp_quo]; simp only [Op.intDiv, k4, e, e2, if_false, Sem.run_pure], rfl⟩
      · obtain ⟨k2, k3⟩ := h4
        have e : n.tmod m = n % m := Int.tmod_eq_emod_of_nonneg k2
        have k4 : m ≠ 0 := by omega
        exact ⟨_, by rw [binOp_rem]; simp only [Op.intDiv, k4, e, if_false, Sem.run_pure], rfl⟩
      · exact ⟨_, by rw [binOp_eql]; rfl, rfl⟩
      · exact ⟨_, by rw [binOp_neq]; rfl, rfl⟩
      · exact ⟨_, by rw [binOp_lss]; rfl, rfl⟩
      · exact ⟨_, by rw [binOp_leq]; rfl, rfl⟩
      · exact ⟨_, by rw [binOp_gtr]; rfl, rfl⟩
      · exact ⟨_, by rw [binOp_geq]; rfl, rfl⟩
    obtain ⟨u, hr, hu⟩ := hrun
    refine ⟨u, ?_, hu⟩
    simp only [execOp, ho, rx, ry, eqGuard_at_int, Sem.run_bind, Sem.run_pure, Result.andThen_ok, hr]
  · rename_i gx n gy m e1 e2
    rw [e1] at hx
    rw [e2] at hy
    have hty := C.cf.ty t
    cases op <;> first | exact hs.elim | skip
    all_goals
      obtain ⟨h1, h2, h3⟩ := hs
      have rx : a.eval x = .bool n := hx (h1 rfl)
      have ry : a.eval y = .bool m := hy (h2 rfl)
      rw [h3 trivial] at hty
      exact ⟨_, by simp only [execOp, ho, rx, ry, eqGuard_at_bool, Sem.run_bind, Sem.run_pure, Result.andThen_ok, binOp, run_equal_bool hty] <;> rfl, rfl⟩
  · exact hs.elim
theorem q_un (C : Ctx P cf φ M H w T a) {op : UnOp} {t : Nat} {x : Operand} (ho : o.op = .unOp op t x) (hs : (qev cf H T true (.unOp op t x)).1) : QRun P a w o φ M (qev cf H T true (.unOp op t x)).2 := by
  have hx := C.t x
  simp only [qev] at hs ⊢
  split at hs
  · rename_i gx v e
    rw [e] at hx
    have rx : a.eval x = .bool v := hx (hs rfl)
    exact ⟨.bool (!v), by simp [execOp, ho, rx, Op.unary], rfl⟩
  · rename_i gx n e
    rw [e] at hx
    have rx : a.eval x = .int .i64 n := hx (hs.1 rfl)
    have h4 : I64 (0 - n) := by have := hs.2 trivial; rwa [Int.zero_sub]
    exact ⟨.int .i64 (-n), by simp only [execOp, ho, rx, unary_neg, Op.intArith, h4.wrap, Sem.run_bind, Sem.run_pure, Result.andThen_ok]; simp, rfl⟩
  · exact hs.elim
theorem run_ix {P : Program} {cf : Cfg} {w : World} {t e n cap wd : Nat} {ad : Addr} {i : Nat} (hcf : CfgOK P cf) (et : cf.ty t = .slice e) (hz : cf.sz e ≠ 0) (hw : cf.sz e = wd) (hi : i < n) :
    (Instr.indexAt t (.slice (some ad) n cap) (.int .i64 i)).run P w = .ok (.pointer (some (ad.add (i * wd)))) w := by
  have hty := hcf.ty t
  rw [et] at hty
  obtain ⟨inf, hinf, hsz, -⟩ := hcf.info e hz
  have hel : P.elem t = e := by unfold Program.elem; rw [show P.underlying t = _ from hty]
  have hsize : (sizeOf e).run P w = .ok wd w := by
    unfold sizeOf
    simp [run_typeInfo _ hinf, hsz, hw]
  rw [run_indexAt_slice (P := P) (w := w) t ad n cap .i64 i (by rw [hel]; exact hty), if_pos ⟨by omega, by omega⟩, hel, hsize]
  simp
theorem q_index (C : Ctx P cf φ M H w T a) {t : Nat} {x ix : Operand} (ho : o.op = .indexAddr t x ix) (hs : (qev cf H T true (.indexAddr t x ix)).1) : QRun P a w o φ M (qev cf H T true (.indexAddr t x ix)).2 := by
  have hx := C.t x
  have hi := C.t ix
  simp only [qev] at hs ⊢
  split at hs
  · rename_i gx c gi n e1 e2
    rw [e1] at hx
    rw [e2] at hi
    split at hs
    · rename_i e et
      obtain ⟨h1, h2, h3⟩ := hs
      obtain ⟨h3', h4, h5, h6⟩ := h3 trivial
      have ri : a.eval ix = .int .i64 n := hi (h2 rfl)
      obtain ⟨vs, ⟨A, cap, e3, k1, k2, k3⟩, k4⟩ := B.rel_sl.1 (hx (h1 rfl))
      have e3' : a.eval x = .slice A c.len cap := e3
      obtain ⟨nn, rfl⟩ := Int.eq_ofNat_of_zero_le h5
      have hn : nn < c.len := by omega
      have hw : 0 < c.w := by omega
      obtain ⟨u0, e4, -⟩ := k4.2.2 nn 0 hn hw
      obtain ⟨ad, rfl, -⟩ := k3 (by rintro rfl; simp at e4)
      refine ⟨.pointer (some (ad.add (nn * c.w + 0))), ?_, by simpa using hn, ad, vs, k4, by simp, k3⟩
      simp only [execOp, ho, e3', ri, Sem.run_bind, Sem.run_pure, Result.andThen_ok, run_ix C.cf et h4 h3' hn, Nat.add_zero]
    · exact hs.elim
  · rename_i gx i gi n e1 e2
    rw [e1] at hx
    rw [e2] at hi
    split at hs
    · rename_i e e' c et hc
      obtain ⟨h1, h2, h3⟩ := hs
      obtain ⟨h3', h4, h5, h6⟩ := h3 trivial
      have ri : a.eval ix = .int .i64 n := hi (h2 rfl)
      have rx : a.eval x = φ i := hx (h1 rfl)
      obtain ⟨vs, k1, k2⟩ := C.hi.ob i _ hc
      obtain ⟨nn, rfl⟩ := Int.eq_ofNat_of_zero_le h5
      have hn : nn < c.len := by omega
      rcases k1.2 with ⟨_, k3⟩ | ⟨g, cap, cur, e3, _⟩
      · omega
      · refine ⟨.pointer (some ⟨g, nn * c.w + 0, none⟩), ?_, g, c.len, cap, e3, by simp⟩
        rw [e3] at rx
        have := run_ix (w := w) (ad := ⟨g, 0, none⟩) (n := c.len) (cap := cap) C.cf et h4 h3' hn
        rw [lit_add, Nat.zero_add] at this
        simp only [execOp, ho, rx, ri, Sem.run_bind, Sem.run_pure, Result.andThen_ok, this, Nat.add_zero]
    · exact hs.elim
  · exact hs.elim
theorem q_extract (C : Ctx P cf φ M H w T a) {j : Nat} {x : Operand} (ho : o.op = .extract x j) (hs : (qev cf H T true (.extract x j)).1) : QRun P a w o φ M (qev cf H T true (.extract x j)).2 := by
  have hx := C.t x
  simp only [qev] at hs ⊢
  split at hs
  · rename_i gx xs e
    rw [e] at hx
    split at hs
    · rename_i y hy
      obtain ⟨us, e1, h1, h2⟩ := hx (hs rfl)
      obtain ⟨hj, e2⟩ := List.getElem?_eq_some_iff.1 hy
      have e1' : a.eval x = .tuple us.toArray := e1
      have hj' : j < us.length := by omega
      refine ⟨us[j], ?_, ?_⟩
      · simp only [execOp, ho, e1', Instr.extract]
        simp [hj']
      · have := h2 j hj hj'
        rw [e2] at this
        exact this
    · exact hs.elim
  · exact hs.elim
theorem q_func (C : Ctx P cf φ M H w T a) {fn : Fn} {first cap : Array Operand} (ho : o.op = .makeFunc fn first cap) (hs : (qev cf H T true (.makeFunc fn first cap)).1) : QRun P a w o φ M (qev cf H T true (.makeFunc fn first cap)).2 := by
  simp only [qev] at hs ⊢
  split at hs
  · rename_i f e
    obtain rfl : first = #[] := Array.toList_inj.1 e
    refine ⟨.func (.func f) #[] (cap.map a.eval), by simp [execOp, ho, Instr.makeFunc], (cap.toList.map a.eval), ?_, by simp, fun j h h' => ?_⟩
    · congr 1
      apply Array.toList_inj.1
      simp
    · have hj : j < cap.toList.length := by simpa using h
      obtain ⟨h1, l, h2⟩ := hs _ (List.getElem_mem hj)
      have hr := C.t _ (h1 rfl)
      rw [h2] at hr
      simp only [List.getElem_map, h2]
      exact hr
  · exact hs.elim
theorem lenOf_sound (hH : HI φ M H w) {v : AV} {u : Value} {n : Nat} (hv : v.rel φ M u) (hn : lenOf H v = some n) : ∃ A c, u = .slice A n c := by
  unfold lenOf at hn
  split at hn
  · cases hn
    obtain ⟨vs, ⟨A, cap, e, _⟩, _⟩ := B.rel_sl.1 hv
    exact ⟨A, cap, e⟩
  · rename_i i
    split at hn
    · rename_i e c hc
      cases hn
      obtain ⟨vs, k1, k2⟩ := hH.ob i _ hc
      rcases k1.2 with ⟨k3, k4⟩ | ⟨g, cap, cur, e3, _⟩
      · exact ⟨none, 0, by rw [hv, k3, k4]⟩
      · exact ⟨_, cap, by rw [hv, e3]⟩
    · cases hn
  · cases hn
    exact ⟨_, _, hv⟩
  · cases hn
theorem exec_len {ρ : Operand → Value} {o : Oper} {x : Operand} {t : Nat} {A : Option Addr} {n cap : Nat} (ho : o.op = .call { callee := .builtin .len, args := #[x], argTypes := #[t] }) (e : ρ x = .slice A n cap) (h : P.underlying t = some (.slice (P.elem t))) :
    (execOp ρ o).run P w = .ok (.value (.int .i64 n)) w := by
  simp only [execOp, ho, resolve, invoke, List.map_toArray, List.map_cons, List.map_nil, e, Sem.run_bind, Sem.run_pure, Result.andThen_ok]
  simp only [builtin, run_len_slice _ _ _ _ _ _ h, Sem.run_bind, Sem.run_pure, Result.andThen_ok, goInt]
theorem exec_max {ρ : Operand → Value} {o : Oper} {x y : Operand} {ts : Array Nat} {n m : Int} (ho : o.op = .call { callee := .builtin .max, args := #[x, y], argTypes := ts }) (e : ρ x = .int .i64 n) (e' : ρ y = .int .i64 m) :
    (execOp ρ o).run P w = .ok (.value (.int .i64 (max n m))) w := by
  have h : (if m > n then m else n) = max n m := by rw [Int.max_def]; split <;> split <;> omega
  rw [← h]
  simp only [execOp, ho, resolve, invoke, List.map_toArray, List.map_cons, List.map_nil, e, e', Sem.run_bind, Sem.run_pure, Result.andThen_ok]
  simp only [builtin, run_max_int2, run_min_int2, Sem.run_bind, Sem.run_pure, Result.andThen_ok]
theorem exec_min {ρ : Operand → Value} {o : Oper} {x y : Operand} {ts : Array Nat} {n m : Int} (ho : o.op = .call { callee := .builtin .min, args := #[x, y], argTypes := ts }) (e : ρ x = .int .i64 n) (e' : ρ y = .int .i64 m) :
    (execOp ρ o).run P w = .ok (.value (.int .i64 (min n m))) w := by
  have h : (if m < n then m else n) = min n m := by rw [Int.min_def]; split <;> split <;> omega
  rw [← h]
  simp only [execOp, ho, resolve, invoke, List.map_toArray, List.map_cons, List.map_nil, e, e', Sem.run_bind, Sem.run_pure, Result.andThen_ok]
  simp only [builtin, run_max_int2, run_min_int2, Sem.run_bind, Sem.run_pure, Result.andThen_ok]
theorem q_call (C : Ctx P cf φ M H w T a) {c : Call} (ho : o.op = .call c) (hs : (qev cf H T true (.call c)).1) : QRun P a w o φ M (qev cf H T true (.call c)).2 := by
  obtain ⟨cl, ⟨as⟩, ⟨ts⟩⟩ := c
  simp only [qev] at hs ⊢
  split at hs
  · rename_i x t
    have hx := C.t x
    have hty := C.cf.ty t
    split at hs
    · rename_i gx v e e1 e2
      rw [e1] at hx
      rw [e2] at hty
      split at hs
      · rename_i n hn
        obtain ⟨A, cap, e3⟩ := lenOf_sound C.hi (hx (hs rfl)) hn
        have hel : P.elem t = e := by unfold Program.elem; rw [show P.underlying t = _ from hty]
        have hel2 : P.underlying t = some (.slice (P.elem t)) := by rw [hel]; exact hty
        exact ⟨.int .i64 n, exec_len ho e3 hel2, rfl⟩
      · exact hs.elim
    · exact hs.elim
  · rename_i x y
    have hx := C.t x
    have hy := C.t y
    split at hs
    · rename_i gx n gy m e1 e2
      rw [e1] at hx
      rw [e2] at hy
      have rx : a.eval x = .int .i64 n := hx (hs.1 rfl)
      have ry : a.eval y = .int .i64 m := hy (hs.2 rfl)
      exact ⟨.int .i64 (max n m), exec_max ho rx ry, rfl⟩
    · exact hs.elim
  · rename_i x y
    have hx := C.t x
    have hy := C.t y
    split at hs
    · rename_i gx n gy m e1 e2
      rw [e1] at hx
      rw [e2] at hy
      have rx : a.eval x = .int .i64 n := hx (hs.1 rfl)
      have ry : a.eval y = .int .i64 m := hy (hs.2 rfl)
      exact ⟨.int .i64 (min n m), exec_min ho rx ry, rfl⟩
    · exact hs.elim
  · exact hs.elim
/-- an operation that turns no memory -/
theorem foldl_same {α β : Type} {f g : β → α → β} : ∀ {l : List α} (b : β), (∀ b, ∀ a ∈ l, f b a = g b a) → l.foldl f b = l.foldl g b
  | [], _, _ => rfl
  | x :: l, b, h => by rw [List.foldl_cons, List.foldl_cons, h b x List.mem_cons_self]; exact foldl_same _ fun b a ha => h b a (List.mem_cons_of_mem _ ha)
theorem info_of (hcf : CfgOK P cf) {t : Nat} (hz : cf.sz t ≠ 0) {j : TypeInfo} (hj : P.info? t = some j) : j.size = cf.sz t := by
  obtain ⟨i, h1, h2, -⟩ := hcf.info t hz
  rw [h1] at hj
  cases hj
  exact h2
theorem mapM_ex {α β : Type} {f : α → Option β} : ∀ {xs : List α}, (∀ x ∈ xs, ∃ y, f x = some y) → ∃ ys, xs.mapM f = some ys ∧ ys.length = xs.length ∧ ∀ (j : Nat) (x : α), xs[j]? = some x → ∃ y, ys[j]? = some y ∧ f x = some y
  | [], _ => ⟨[], rfl, rfl, fun j x h => by simp at h⟩
  | x :: xs, h => by
    obtain ⟨y, e⟩ := h x List.mem_cons_self
    obtain ⟨ys, h1, h2, h3⟩ := mapM_ex (xs := xs) fun z hz => h z (List.mem_cons_of_mem _ hz)
    refine ⟨y :: ys, by rw [List.mapM_cons]; simp [e, h1], by simp [h2], fun j z hz => ?_⟩
    match j with
    | 0 => simp at hz; subst hz; exact ⟨y, rfl, e⟩
    | j + 1 => exact h3 j z (by simpa using hz)
theorem built_ok (hcf : CfgOK P cf) {t : Nat} (hz : cf.sz t ≠ 0) (hb : buildOK cf t) {ps : List (Nat × Value)} (hp : ∀ p ∈ ps, ∃ off, placeA cf t p.1 = some (off, p.2.cells.size) ∧ p.2.cells.size ≠ 0 ∧ off + p.2.cells.size ≤ cf.sz t) :
    ∃ r, P.built t ps = some r ∧ r.size = cf.sz t ∧ r.toList = ps.foldl (fun l p => splice l ((placeA cf t p.1).getD (0, 0)).1 p.2.cells.toList) (cf.zero t) := by
  obtain ⟨it, hit, hsz, -, z, hz1, hz2, hz3⟩ := hcf.info t hz
  have hty := hcf.ty t
  have key : ∀ place : Nat → Option (Nat × Nat), (∀ p ∈ ps, place p.1 = placeA cf t p.1) → ∃ r, Instr.fill place z.cells ps = some r ∧ r.size = cf.sz t ∧ r.toList = ps.foldl (fun l p => splice l ((placeA cf t p.1).getD (0, 0)).1 p.2.cells.toList) (cf.zero t) := fun place hpl => by
    obtain ⟨r, r1, r2, r3⟩ := fill_foldl (place := place) ps z.cells fun p hp' => by
      obtain ⟨off, k1, _, k2⟩ := hp p hp'
      exact ⟨off, by rw [hpl p hp', k1], by rw [hz3]; exact k2⟩
    refine ⟨r, r1, r2.trans hz3, ?_⟩
    rw [r3, hz2]
    exact foldl_same _ fun l p hp' => by rw [hpl p hp']
  unfold Program.built
  unfold buildOK at hb
  cases e : cf.ty t <;> rw [e] at hty hb <;> try exact hb.elim
  case struct fs =>
    obtain ⟨F, hF, hlen, hfs⟩ := hty
    have hall : ∀ f ∈ F.toList, ∃ y, ((P.info? f.type).map fun i => (f.offset, i.size)) = some y := fun f hf => by
      obtain ⟨j, hj, rfl⟩ := List.mem_iff_getElem.1 hf
      have hj' : j < fs.length := by rw [← hlen]; simpa using hj
      obtain ⟨f', h1, _, h3, i, h4, _⟩ := hfs j fs[j].1 fs[j].2 (by rw [List.getElem?_eq_getElem hj'])
      rw [← Array.getElem?_toList, List.getElem?_eq_getElem hj] at h1
      cases h1
      exact ⟨(F.toList[j].offset, i.size), by rw [h3, h4]; rfl⟩
    obtain ⟨places, m1, m2, m3⟩ := mapM_ex hall
    simp only [hit, hF, hz1, m1]
    refine key _ fun p hp' => ?_
    obtain ⟨off, k1, k2, k3⟩ := hp p hp'
    rw [k1]
    unfold placeA at k1
    rw [e] at k1
    simp only at k1
    split at k1
    · rename_i f hf
      simp only [Option.some.injEq, Prod.mk.injEq] at k1
      obtain ⟨k4, k5⟩ := k1
      obtain ⟨f', h1, h2, h3, i, h4, _⟩ := hfs p.1 f.1 f.2 hf
      rw [← Array.getElem?_toList] at h1
      obtain ⟨y, y1, y2⟩ := m3 _ _ h1
      rw [h3, h4] at y2
      simp only [Option.map_some, Option.some.injEq] at y2
      rw [← List.getElem?_toArray] at y1
      rw [y1, ← y2, h2, k4, info_of hcf (by rw [k5]; exact k2) h4, k5]
    · cases k1
  case arr n el =>
    have hu : P.underlying t = some (.array n el) := hty
    obtain ⟨ie, hie, hes, -⟩ := hcf.info el hb
    simp only [hit, hu, hz1, hie]
    refine key _ fun p hp' => ?_
    obtain ⟨off, k1, k2, k3⟩ := hp p hp'
    rw [k1]
    unfold placeA at k1
    rw [e] at k1
    simp only at k1
    cases hbl : Nat.blt p.1 n with
    | false => rw [hbl] at k1; cases k1
    | true =>
      rw [hbl] at k1
      simp only [cond_true, Option.some.injEq, Prod.mk.injEq] at k1
      rw [hes, k1.1, k1.2]
theorem part_fold (C : Ctx P cf φ M H w T a) {t n : Nat} : ∀ {l : List (Nat × Operand)} {ps : List (Bool × Nat × Nat × TV)} {cs : List Lf} {us : List Value}, l.mapM (partA cf T t) = some ps →
    (∀ p ∈ ps, need true p.1 ∧ (True → p.2.2.2.cs.length = p.2.2.1 ∧ p.2.2.1 ≠ 0 ∧ p.2.2.2.cs.all (Lf.oneB H) = true ∧ p.2.1 + p.2.2.1 ≤ n)) → cs.length = n → LsRel φ M cs us →
    (∀ q ∈ l.map (fun p => (p.1, a.eval p.2)), ∃ off, placeA cf t q.1 = some (off, q.2.cells.size) ∧ q.2.cells.size ≠ 0 ∧ off + q.2.cells.size ≤ n) ∧
      LsRel φ M (ps.foldl (fun l p => splice l p.2.1 p.2.2.2.cs) cs) ((l.map (fun p => (p.1, a.eval p.2))).foldl (fun l p => splice l ((placeA cf t p.1).getD (0, 0)).1 p.2.cells.toList) us)
  | [], ps, cs, us, hm, _, _, hr => by
    simp at hm
    subst hm
    exact ⟨fun q hq => by simp at hq, hr⟩
  | p :: l, ps, cs, us, hm, hc, hn, hr => by
    rw [List.mapM_cons] at hm
    cases e1 : partA cf T t p with
    | none => simp [e1] at hm
    | some q =>
      cases e2 : l.mapM (partA cf T t) with
      | none => simp [e1, e2] at hm
      | some qs =>
        simp [e1, e2] at hm
        subst hm
        obtain ⟨h1, h2⟩ := hc q List.mem_cons_self
        obtain ⟨h3, h4, h5, h6⟩ := h2 trivial
        unfold partA at e1
        split at e1
        · rename_i gx v hv
          split at e1
          · rename_i off sz hpl
            cases e1
            simp only at h1 h3 h4 h5 h6
            have hrel := C.t p.2 (by rw [hv]; exact h1 rfl)
            rw [hv] at hrel
            have hls := tv_cells hrel fun x ex => by
              rw [ex] at h5 hrel
              exact oneB_lit C.hi (by simpa [TV.cs] using h5) hrel
            have hsz : (a.eval p.2).cells.size = sz := by
              have := hls.1
              rw [h3] at this
              simpa using this
            obtain ⟨r1, r2⟩ := part_fold C (t := t) (n := n) (l := l) (cs := splice cs off v.cs) (us := splice us off (a.eval p.2).cells.toList) e2 (fun p hp => hc p (List.mem_cons_of_mem _ hp)) (by rw [splice_length, hn]) (hr.splice hls (by omega))
            refine ⟨fun q hq => ?_, ?_⟩
            · rcases List.mem_cons.1 hq with rfl | hq
              · exact ⟨off, by rw [hsz]; exact hpl, by rw [hsz]; exact h4, by rw [hsz]; exact h6⟩
              · exact r1 q hq
            · simpa [hpl] using r2
          · cases e1
        · cases e1
theorem q_build (C : Ctx P cf φ M H w T a) {t : Nat} {parts : Array (Nat × Operand)} (ho : o.op = .build t parts) (hs : (qev cf H T true (.build t parts)).1) : QRun P a w o φ M (qev cf H T true (.build t parts)).2 := by
  simp only [qev] at hs ⊢
  split at hs
  · rename_i ps hps
    obtain ⟨h1, h2⟩ := hs
    obtain ⟨h3, h4⟩ := h2 trivial
    obtain ⟨it, hit, hsz, -, z, hz1, hz2, hz3⟩ := C.cf.info t h3
    have hzl : (cf.zero t).length = cf.sz t := by rw [← hz2, ← hz3]; simp
    obtain ⟨r1, r2⟩ := part_fold C (n := cf.sz t) (cs := (cf.zero t).map fun v => .b (.val v)) (us := cf.zero t) hps h1 (by rw [List.length_map, hzl]) ⟨by simp, fun j hj hj' => by simp [Lf.rel, B.rel]⟩
    obtain ⟨r, k1, k2, k3⟩ := built_ok C.cf h3 h4 r1
    refine ⟨.agg r, ?_, r.toList, by simp, by rw [k3]; exact r2⟩
    have hrun := run_build (P := P) w t (parts.map fun (p : Nat × Operand) => (p.1, a.eval p.2)) r (by rw [Array.toList_map]; exact k1)
    simp only [execOp, ho, Sem.run_bind, hrun, Result.andThen_ok, Sem.run_pure]
  · exact hs.elim
theorem q_sound (C : Ctx P cf φ M H w T a) (hs : (qev cf H T true o.op).1) : QRun P a w o φ M (qev cf H T true o.op).2 := by
  cases ho : o.op
  all_goals rw [ho] at hs
  case move x => exact q_move C (.inl ho) (hs rfl)
  case assign x => exact q_move C (.inr ho) (hs rfl)
  case pick => exact q_pick C ho hs
  case load => exact q_load C ho hs
  case nilCheck => exact q_nil C ho hs
  case binOp => exact q_bin C ho hs
  case unOp => exact q_un C ho hs
  case makeFunc => exact q_func C ho hs
  case fieldAddr => exact q_field C ho hs
  case indexAddr => exact q_index C ho hs
  case extract => exact q_extract C ho hs
  case build => exact q_build C ho hs
  case call => exact q_call C ho hs
  all_goals exact hs.elim
end
end
end Am
end Go.Proofs.Ytoaecbdpkmeenaa
