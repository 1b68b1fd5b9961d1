/- Values without addresses, and what they stand for in memory. No program is named here. Conditions: none. -/
import Derived.WalkKit
import Derived.ProofKit
import Derived.Deep.QuietTactic
import Derived.BigQuiet
import Derived.Maps.AppendAt
import Derived.IntWalk
import Derived.ChangeKeysEq
namespace Go.Proofs.Ytoaecbdpkmeenaa
namespace Am
open Go

/-! ### memory that does not turn -/
abbrev Mem := Addr → Option Value
def Mem.le (M M' : Mem) : Prop := ∀ a v, M a = some v → M' a = some v
theorem Mem.le_refl (M : Mem) : M.le M := fun _ _ h => h
theorem Mem.le_trans {M M' M'' : Mem} (h : M.le M') (k : M'.le M'') : M.le M'' := fun a v e => k a v (h a v e)

/-- the cells at A are vs -/
def RdM (M : Mem) (A : Option Addr) (vs : List Value) : Prop := vs ≠ [] → ∃ ad, A = some ad ∧ ∀ j (h : j < vs.length), M (ad.add j) = some vs[j]
/-- a slice of n elements whose cells are vs -/
def ShM (M : Mem) (u : Value) (n : Nat) (vs : List Value) : Prop := ∃ A c, u = .slice A n c ∧ n ≤ c ∧ c ≤ 9223372036854775807 ∧ RdM M A vs
/-- cells of n elements, w cells each, each cell by R -/
def CG (R : Nat → Nat → Value → Prop) (n w : Nat) (vs : List Value) : Prop := vs.length = n * w ∧ ∀ j o, j < n → o < w → ∃ u, vs[j * w + o]? = some u ∧ R j o u

theorem RdM.mono {M M' : Mem} {A : Option Addr} {vs : List Value} (h : RdM M A vs) (hm : M.le M') : RdM M' A vs := fun hn => by
  obtain ⟨ad, e, hc⟩ := h hn
  exact ⟨ad, e, fun j hj => hm _ _ (hc j hj)⟩
theorem ShM.mono {M M' : Mem} {u : Value} {n : Nat} {vs : List Value} (h : ShM M u n vs) (hm : M.le M') : ShM M' u n vs := by
  obtain ⟨A, c, e, h1, h2, h3⟩ := h
  exact ⟨A, c, e, h1, h2, h3.mono hm⟩
theorem CG.mono {R R' : Nat → Nat → Value → Prop} {n w : Nat} {vs : List Value} (h : CG R n w vs) (hr : ∀ j o u, R j o u → R' j o u) : CG R' n w vs :=
  ⟨h.1, fun j o hj ho => by obtain ⟨u, e, hu⟩ := h.2 j o hj ho; exact ⟨u, e, hr _ _ _ hu⟩⟩

def at1 (xs : List Int) (j : Nat) : Int := xs.getD j 0
/-- a slice of ints -/
def SI (M : Mem) (u : Value) (xs : List Int) : Prop := ∃ vs, ShM M u xs.length vs ∧ CG (fun j _ u => u = .int .i64 (xs.getD j 0)) xs.length 1 vs
/-- a slice of elements of n ints -/
def SK (n : Nat) (M : Mem) (u : Value) (xs : List (List Int)) : Prop := (∀ x ∈ xs, x.length = n) ∧ ∃ vs, ShM M u xs.length vs ∧ CG (fun j o u => u = .int .i64 ((xs.getD j []).getD o 0)) xs.length n vs
/-- a slice of slices -/
def SO {α : Type} (R : Mem → Value → List α → Prop) (M : Mem) (u : Value) (xs : List (List α)) : Prop := ∃ vs, ShM M u xs.length vs ∧ CG (fun j _ u => R M u (xs.getD j [])) xs.length 1 vs
abbrev SII := SO SI
abbrev SIII := SO SII
abbrev SKI (n : Nat) := SO (SK n)
abbrev SKII (n : Nat) := SO (SKI n)

theorem SI.mono {M M' : Mem} {u : Value} {xs : List Int} (h : SI M u xs) (hm : M.le M') : SI M' u xs := by
  obtain ⟨vs, h1, h2⟩ := h
  exact ⟨vs, h1.mono hm, h2⟩
theorem SK.mono {n : Nat} {M M' : Mem} {u : Value} {xs : List (List Int)} (h : SK n M u xs) (hm : M.le M') : SK n M' u xs := by
  obtain ⟨h0, vs, h1, h2⟩ := h
  exact ⟨h0, vs, h1.mono hm, h2⟩
theorem SO.mono {α : Type} {R : Mem → Value → List α → Prop} (hR : ∀ {M M' : Mem} {u : Value} {x : List α}, R M u x → M.le M' → R M' u x) {M M' : Mem} {u : Value} {xs : List (List α)} (h : SO R M u xs) (hm : M.le M') : SO R M' u xs := by
  obtain ⟨vs, h1, h2⟩ := h
  exact ⟨vs, h1.mono hm, h2.mono fun _ _ _ h => hR h hm⟩

/-! ### contents of slices -/
inductive Cn
  | ints (xs : List Int)
  | ii (xs : List (List Int))
  | iii (xs : List (List (List Int)))
  | k (n : Nat) (xs : List (List Int))
  | ki (n : Nat) (xs : List (List (List Int)))
  | kii (n : Nat) (xs : List (List (List (List Int))))
def Cn.len : Cn → Nat
  | .ints xs => xs.length
  | .ii xs => xs.length
  | .iii xs => xs.length
  | .k _ xs => xs.length
  | .ki _ xs => xs.length
  | .kii _ xs => xs.length
/-- cells of one element -/
def Cn.w : Cn → Nat
  | .k n _ => n
  | _ => 1
/-- what a cell or a variable can hold that lies nowhere or in memory that does not turn -/
inductive B
  | val (v : Value)
  | sl (c : Cn)
def B.int (n : Int) : B := .val (.int .i64 n)
def B.rel (M : Mem) : B → Value → Prop
  | .val v, u => u = v
  | .sl (.ints xs), u => SI M u xs
  | .sl (.ii xs), u => SII M u xs
  | .sl (.iii xs), u => SIII M u xs
  | .sl (.k n xs), u => SK n M u xs
  | .sl (.ki n xs), u => SKI n M u xs
  | .sl (.kii n xs), u => SKII n M u xs
def Cn.ok : Cn → Prop
  | .k n xs => ∀ x ∈ xs, x.length = n
  | _ => True
def Cn.cell : Cn → Nat → Nat → B
  | .ints xs, j, _ => .val (.int .i64 (xs.getD j 0))
  | .ii xs, j, _ => .sl (.ints (xs.getD j []))
  | .iii xs, j, _ => .sl (.ii (xs.getD j []))
  | .k _ xs, j, o => .val (.int .i64 ((xs.getD j []).getD o 0))
  | .ki n xs, j, _ => .sl (.k n (xs.getD j []))
  | .kii n xs, j, _ => .sl (.ki n (xs.getD j []))
/-- the cells vs hold the content c -/
def Cn.rel (M : Mem) (c : Cn) (vs : List Value) : Prop := c.ok ∧ CG (fun j o u => (c.cell j o).rel M u) c.len c.w vs
theorem B.rel_sl {M : Mem} {c : Cn} {u : Value} : (B.sl c).rel M u ↔ ∃ vs, ShM M u c.len vs ∧ c.rel M vs := by
  cases c <;> simp only [B.rel, Cn.rel, Cn.ok, Cn.len, Cn.w, Cn.cell, true_and]
  all_goals first
    | exact Iff.rfl
    | exact ⟨fun ⟨h0, vs, h1, h2⟩ => ⟨vs, h1, h0, h2⟩, fun ⟨vs, h1, h0, h2⟩ => ⟨h0, vs, h1, h2⟩⟩
theorem B.rel_mono {M M' : Mem} (hm : M.le M') {x : B} {u : Value} (h : x.rel M u) : x.rel M' u := by
  cases x with
  | val v => exact h
  | sl c =>
    cases c with
    | ints xs => exact SI.mono h hm
    | ii xs => exact SO.mono (R := SI) (fun h hm => SI.mono h hm) h hm
    | iii xs => exact SO.mono (R := SII) (fun h hm => SO.mono (R := SI) (fun h hm => SI.mono h hm) h hm) h hm
    | k n xs => exact SK.mono h hm
    | ki n xs => exact SO.mono (R := SK n) (fun h hm => SK.mono h hm) h hm
    | kii n xs => exact SO.mono (R := SKI n) (fun h hm => SO.mono (R := SK n) (fun h hm => SK.mono h hm) h hm) h hm
theorem Cn.rel_mono {M M' : Mem} (hm : M.le M') {c : Cn} {vs : List Value} (h : c.rel M vs) : c.rel M' vs := ⟨h.1, h.2.mono fun _ _ _ h => B.rel_mono hm h⟩

/-! ### values of variables -/
inductive Lf
  | und
  | b (x : B)
  | own (i : Nat)
  | ptr (i o : Nat)
  | ea (c : Cn) (j o : Nat)
  | oa (i w j o : Nat)
  | ip (xs : List B) (o : Nat)
inductive TV
  | one (x : Lf)
  | agg (xs : List Lf)
inductive AV
  | tv (x : TV)
  | clo (f : Nat) (xs : List Lf)
  | tup (xs : List TV)
abbrev AV.lf (x : Lf) : AV := .tv (.one x)
abbrev AV.val (v : Value) : AV := .tv (.one (.b (.val v)))
abbrev AV.int (n : Int) : AV := .tv (.one (.b (.val (.int .i64 n))))
abbrev AV.bool (b : Bool) : AV := .tv (.one (.b (.val (.bool b))))
abbrev AV.sl (c : Cn) : AV := .tv (.one (.b (.sl c)))
abbrev AV.und : AV := .tv (.one .und)

/-- the cells at ad are those of xs -/
def CellsM (M : Mem) (ad : Addr) (xs : List B) : Prop := ∀ t (h : t < xs.length), ∃ u, M (ad.add t) = some u ∧ xs[t].rel M u
def Lf.rel (φ : Nat → Value) (M : Mem) : Lf → Value → Prop
  | .und, _ => True
  | .b x, u => x.rel M u
  | .own i, u => u = φ i
  | .ptr i o, u => ∃ g, φ i = .pointer (some ⟨g, 0, none⟩) ∧ u = .pointer (some ⟨g, o, none⟩)
  | .ea c j o, u => j < c.len ∧ ∃ ad vs, c.rel M vs ∧ u = .pointer (some (ad.add (j * c.w + o))) ∧ RdM M (some ad) vs
  | .oa i w j o, u => ∃ g n cap, φ i = .slice (some ⟨g, 0, none⟩) n cap ∧ u = .pointer (some ⟨g, j * w + o, none⟩)
  | .ip xs o, u => ∃ ad, u = .pointer (some (ad.add o)) ∧ CellsM M ad xs
def LsRel (φ : Nat → Value) (M : Mem) (xs : List Lf) (us : List Value) : Prop := us.length = xs.length ∧ ∀ j (h : j < xs.length) (h' : j < us.length), xs[j].rel φ M us[j]
def TV.rel (φ : Nat → Value) (M : Mem) : TV → Value → Prop
  | .one x, u => x.rel φ M u
  | .agg xs, u => ∃ us : List Value, u = .agg us.toArray ∧ LsRel φ M xs us
def TsRel (φ : Nat → Value) (M : Mem) (xs : List TV) (us : List Value) : Prop := us.length = xs.length ∧ ∀ j (h : j < xs.length) (h' : j < us.length), xs[j].rel φ M us[j]
def AV.rel (φ : Nat → Value) (M : Mem) : AV → Value → Prop
  | .tv x, u => x.rel φ M u
  | .clo f xs, u => ∃ us : List Value, u = .func (.func f) #[] us.toArray ∧ LsRel φ M xs us
  | .tup xs, u => ∃ us : List Value, u = .tuple us.toArray ∧ TsRel φ M xs us

theorem CellsM.mono {M M' : Mem} (hm : M.le M') {ad : Addr} {xs : List B} (h : CellsM M ad xs) : CellsM M' ad xs := fun t ht => by
  obtain ⟨u, e, hu⟩ := h t ht
  exact ⟨u, hm _ _ e, B.rel_mono hm hu⟩
theorem Lf.rel_mono {φ : Nat → Value} {M M' : Mem} (hm : M.le M') {x : Lf} {u : Value} (h : x.rel φ M u) : x.rel φ M' u := by
  cases x with
  | und => trivial
  | b x => exact B.rel_mono hm h
  | own i => exact h
  | ptr i o => exact h
  | ea c j o =>
    obtain ⟨h0, ad, vs, h1, h2, h3⟩ := h
    exact ⟨h0, ad, vs, Cn.rel_mono hm h1, h2, h3.mono hm⟩
  | oa i w j o => exact h
  | ip xs o =>
    obtain ⟨ad, h1, h2⟩ := h
    exact ⟨ad, h1, h2.mono hm⟩
theorem LsRel.imp {φ φ' : Nat → Value} {M M' : Mem} {xs : List Lf} {us : List Value} (h : LsRel φ M xs us) (k : ∀ x ∈ xs, ∀ u, x.rel φ M u → x.rel φ' M' u) : LsRel φ' M' xs us :=
  ⟨h.1, fun j hj hj' => k _ (List.getElem_mem hj) _ (h.2 j hj hj')⟩
/-- the leaves of a value -/
def TV.leaves : TV → List Lf
  | .one x => [x]
  | .agg xs => xs
theorem TV.rel_imp {φ φ' : Nat → Value} {M M' : Mem} {x : TV} {u : Value} (h : x.rel φ M u) (k : ∀ y ∈ x.leaves, ∀ u, y.rel φ M u → y.rel φ' M' u) : x.rel φ' M' u := by
  cases x with
  | one x => exact k x (by simp [TV.leaves]) u h
  | agg xs =>
    obtain ⟨us, e, h1⟩ := h
    exact ⟨us, e, h1.imp fun y hy u hu => k y hy u hu⟩
def AV.leaves : AV → List Lf
  | .tv x => x.leaves
  | .clo _ xs => xs
  | .tup xs => xs.flatMap TV.leaves
theorem AV.rel_imp {φ φ' : Nat → Value} {M M' : Mem} {x : AV} {u : Value} (h : x.rel φ M u) (k : ∀ y ∈ x.leaves, ∀ u, y.rel φ M u → y.rel φ' M' u) : x.rel φ' M' u := by
  cases x with
  | tv x => exact TV.rel_imp h k
  | clo f xs =>
    obtain ⟨us, e, h1⟩ := h
    exact ⟨us, e, h1.imp fun y hy u hu => k y hy u hu⟩
  | tup xs =>
    obtain ⟨us, e, h1, h2⟩ := h
    refine ⟨us, e, h1, fun j hj hj' => TV.rel_imp (h2 j hj hj') fun y hy u hu => k y ?_ u hu⟩
    simp only [AV.leaves, List.mem_flatMap]
    exact ⟨xs[j], List.getElem_mem hj, hy⟩
theorem AV.rel_mono {φ : Nat → Value} {M M' : Mem} (hm : M.le M') {x : AV} {u : Value} (h : x.rel φ M u) : x.rel φ M' u := x.rel_imp h fun _ _ _ h => Lf.rel_mono hm h

/-! ### what a call owns -/
inductive Ob
  | gone
  | box (cs : List Lf)
  | row (e : Nat) (c : Cn)
def Ob.live : Ob → Prop
  | .gone => False
  | _ => True
def blk : Value → Option Nat
  | .pointer (some a) => some a.block
  | .slice (some a) _ _ => some a.block
  | _ => none
def Ob.rel (φ : Nat → Value) (M : Mem) (w : World) (u : Value) : Ob → Prop
  | .gone => True
  | .box cs => ∃ g arr t, u = .pointer (some ⟨g, 0, none⟩) ∧ w.heap[g]? = some (.cells arr t (0, 0)) ∧ LsRel φ M cs arr.toList
  | .row e c => ∃ vs, w.ownsRow 0 e c.w u c.len vs ∧ c.rel M vs
/-- names in a value are below n -/
def Lf.ltB (n : Nat) : Lf → Bool
  | .own i => Nat.blt i n
  | .ptr i _ => Nat.blt i n
  | .oa i _ _ _ => Nat.blt i n
  | _ => true
def AV.lt (n : Nat) (x : AV) : Prop := ∀ y ∈ x.leaves, y.ltB n = true
def Ob.lt (n : Nat) : Ob → Prop
  | .box cs => ∀ y ∈ cs, y.ltB n = true
  | _ => True

structure HI (φ : Nat → Value) (M : Mem) (H : List Ob) (w : World) : Prop where
  mem : ∀ a v, M a = some v → w.cell? a = some v
  ob : ∀ (i : Nat) (o : Ob), H[i]? = some o → o.rel φ M w (φ i)
  off : ∀ (i : Nat) (o : Ob) g, H[i]? = some o → o.live → blk (φ i) = some g → ∀ a v, M a = some v → a.block ≠ g
  inj : ∀ (i j : Nat) (o p : Ob) g, H[i]? = some o → o.live → H[j]? = some p → p.live → blk (φ i) = some g → blk (φ j) = some g → i = j
  wf : ∀ (i : Nat) (o : Ob), H[i]? = some o → o.lt H.length

theorem Lf.rel_phi {φ φ' : Nat → Value} {M : Mem} {n : Nat} {x : Lf} {u : Value} (hl : x.ltB n = true) (hφ : ∀ i, i < n → φ' i = φ i) (h : x.rel φ M u) : x.rel φ' M u := by
  cases x with
  | und => trivial
  | b x => exact h
  | own i => exact h.trans (hφ i (by simpa [Lf.ltB] using hl)).symm
  | ptr i o =>
    obtain ⟨g, h1, h2⟩ := h
    exact ⟨g, (hφ i (by simpa [Lf.ltB] using hl)).trans h1, h2⟩
  | ea c j o => exact h
  | oa i w j o =>
    obtain ⟨g, n, cap, h1, h2⟩ := h
    exact ⟨g, n, cap, (hφ i (by simpa [Lf.ltB] using hl)).trans h1, h2⟩
  | ip xs o => exact h
end Am
end Go.Proofs.Ytoaecbdpkmeenaa
