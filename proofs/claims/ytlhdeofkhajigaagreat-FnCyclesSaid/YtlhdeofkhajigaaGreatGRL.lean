/- Code in the round of a range over a function, where nothing is deferred. Conditions: those that each names. -/
import Derived.OrdersIn
import Derived.TacticsIn
import Derived.RangeFuncCalls
import Derived.RangeFuncWrites
import Derived.RangeFuncLeaves
import Derived.Test.YtlhdeofkhajigaaGreatGAM
import Derived.RangeFuncNested
import Derived.LoopNIn
set_option linter.all false
set_option linter.unusedSimpArgs false
set_option linter.unusedVariables false
namespace Go.Proofs.YtlhdeofkhajigaaGreat
namespace Am
open Go Go.RowKit

/-! ### what holds outside of a round holds in one -/
section
variable {P:Program} {n l:Nat} {Q:Exit→Act→World→Prop} {K:Act→World→Prop} {ops:Array Oper} {a:Act} {w:World} {o:Oper}
abbrev inR (l:Nat):Fence:=Fence.wide.inRound l
def noDefer (o:Oper):Bool:=match o.op with
  | .defer _=>false
  | _=>true
theorem noDefer_ne (h:noDefer o=true):∀ c,o.op ≠ .defer c:=fun c e=>by
  unfold noDefer at h
  rw [e] at h
  cases h
theorem oper_in (hQ:¬ LetsOut Q) (hd:noDefer o=true) (h:o.wp P a w K Q):o.wpIn (inR l) n P a w K Q:=by
  refine ⟨fun _ _=>trivial,?_⟩
  rw [Oper.semAt_eq _ _ _ (noDefer_ne hd)]
  unfold Oper.wp at h
  generalize (execOp a.eval o).run P w=r at h
  cases r with
  | ok x w' =>
    cases x with
    | enter f args=>exact ⟨fun h=>(by cases h),(CallsIn.inRound (n:=n-1) l (callsIn_wide.2 h)).mono fun e w h=>by cases e<;>exact h⟩
    | row r args=>exact ⟨fun h=>(by cases h),fun c cs _=>by obtain ⟨v,w2,r,s⟩:=h c cs;exact ⟨v,w2,r,stepsIn_wide.2 s⟩⟩
    | _=>first | exact h | exact h.elim
  | halt x w'=>cases x<;>first | exact h | exact h.elim
theorem opIn (hQ:¬ LetsOut Q) (hd:∀ (i:Nat) o,ops[i]? = some o→noDefer o=true) {i:Nat} (h:wpOp P ops Q i K a w):wpOpIn (inR l) n P ops Q i K a w:=by
  unfold wpOp at h
  unfold wpOpIn
  split
  · rename_i ho
    simpa [ho] using h
  · rename_i o ho
    simp only [ho] at h
    split
    · rename_i hw
      rw [if_pos hw] at h
      rcases h with h | h
      · exact oper_in hQ (hd i o ho) h
      · exact (hQ h.2).elim
    · rename_i hw
      rw [if_neg hw] at h
      exact ⟨fun _ _=>trivial,h⟩
theorem anyIn (hQ:¬ LetsOut Q) (hd:∀ (i:Nat) o,ops[i]? = some o→noDefer o=true):∀ (fuel:Nat) (listed:Array Bool) (a:Act) (w:World),wpAny P .any ops Q fuel listed a w→wpAnyIn (inR l) n P .any ops Q fuel listed a w
  | 0,_,_,_,h=>h
  | fuel+1,listed,a,w,h=>⟨h.1,fun i hi=>wpOpIn_mono (fun a w h=>anyIn hQ hd fuel _ a w h) (opIn hQ hd (h.2 i hi))⟩
theorem listIn (hQ:¬ LetsOut Q):∀ (l':List Oper) (a:Act) (w:World),(∀ o∈l',noDefer o=true)→wpList P ops Q l' a w→wpListIn (inR l) n P ops Q l' a w
  | [],_,_,_,h=>h
  | o::l',a,w,hd,h=>by
    unfold wpList at h
    unfold wpListIn
    split
    · rename_i hw
      rw [if_pos hw] at h
      rcases h with h | h
      · exact oper_in hQ (hd o (by simp)) (Oper.wp_mono (fun a w h=>listIn hQ l' a w (fun o ho=>hd o (by simp [ho])) h) h)
      · exact (hQ h.2).elim
    · rename_i hw
      rw [if_neg hw] at h
      exact ⟨fun _ _=>trivial,listIn hQ l' _ w (fun o ho=>hd o (by simp [ho])) h⟩
end
/-! ### the machine in a round -/
/-- a round's code ends as Q says; it never lets out -/
def awpI (l n:Nat) (P:Program) (cf:Cfg) (b:Base) (N:Nat) (c:Code) (Q:Exit→St→Prop) (X:St):Prop :=
  ∀ a w,R P cf b N X a w→c.wpIn (inR l) n P (fun e a' w'=>e ≠ .outgrown∧∃ X',Q e X'∧R P cf b N X' a' w') a w
section
variable {l n:Nat} {P:Program} {cf:Cfg} {b:Base} {N:Nat} {Q:Exit→St→Prop} {X:St}
theorem noOut {R':Exit→Act→World→Prop}:¬ LetsOut (fun e a w=>e ≠ .outgrown∧R' e a w):=fun ⟨_,_,h,_⟩=>h rfl
theorem awpI_seq {x y:Code} (h:awpI l n P cf b N x (thenQ (awpI l n P cf b N y Q) Q) X):awpI l n P cf b N (.seq x y) Q X:=fun a w hR=>by
  refine wpIn_seq (Code.wpIn_mono (fun e a' w' hq => ?_) (h a w hR))
  obtain ⟨h0,X',h1,h2⟩:=hq
  cases e<;>first | exact h1 a' w' h2 | exact ⟨h0,X',h1,h2⟩
theorem awpI_block {id:Nat} {c:Code} (h:awpI l n P cf b N c (inBlockQ id Q) X):awpI l n P cf b N (.block id c) Q X:=fun a w hR=>by
  refine wpIn_block (Code.wpIn_mono (fun e a' w' hq => ?_) (h a w hR))
  obtain ⟨h0,X',h1,h2⟩:=hq
  cases e with
  | exit id' =>
    simp only [Exit.inBlock,inBlockQ] at h1 ⊢
    split
    · rename_i e;rw [if_pos e] at h1;exact ⟨by simp,X',h1,h2⟩
    · rename_i e;rw [if_neg e] at h1;exact ⟨by simp,X',h1,h2⟩
  | _=>exact ⟨h0,X',h1,h2⟩
theorem awpI_skip (h:Q .normal X):awpI l n P cf b N .skip Q X:=fun _ _ hR=>wpIn_skip ⟨by simp,X,h,hR⟩
theorem awpI_cond {c:Operand} {x y:Code} {v:Bool} (hc:look X.T c=(true,.bool v)) (ht:v=true→awpI l n P cf b N x Q X) (hf:v=false→awpI l n P cf b N y Q X):awpI l n P cf b N (.cond c x y) Q X:=fun a w hR=>by
  have hb:a.eval c = .bool v:=by
    obtain ⟨φ,β,M,h⟩:=hR
    have:=h.ctx.t c (by rw [hc])
    rw [hc] at this
    exact this
  exact wpIn_cond_split hb (fun e=>ht e a w hR) (fun e=>hf e a w hR)
theorem awpI_reg {id:Nat} {l':List Oper} (h:sW P cf b.fx N l'.toArray (fun X'=>Q .normal X') l' X) (hd:l'.all noDefer=true:=by rfl):awpI l n P cf b N (.region id l'.toArray false) Q X:=fun a w ⟨φ,β,M,hR⟩ =>
  wpIn_region_lit (listIn noOut l' a w (List.all_eq_true.1 hd) (wpList_of_sW (K:=fun X'=>Q .normal X') (fun φ' β' M' X' a' w' hQ hR'=>⟨by simp,_,hQ,φ',β',M',hR'⟩) l' φ β M X a w hR h))
theorem awpI_any {id:Nat} {l':List Oper} (hm:P.follows .mixedOrders=true) (hB:Region.lexB .any l'.toArray=true) (h:dR P cf X.H N l'.toArray (fun T=>Q .normal ⟨T,X.H⟩) l' X.T) (hd:l'.all noDefer=true:=by rfl):awpI l n P cf b N (.region id l'.toArray true) Q X:=fun a w ⟨φ,β,M,hR⟩=>by
  simp only [Region.lexB,Bool.and_eq_true] at hB
  refine wpIn_region_any hm (anyIn noOut (fun i o ho=>List.all_eq_true.1 hd o (by simpa using Array.mem_of_getElem? ho)) _ _ _ _ (wpAny_of_dAny (φ:=φ) (β:=β) (H:=X.H) (fun M' T' a' w' hR' hQ=>⟨by simp,_,hQ,φ,β,M',hR'⟩) _ _ M X.T a _ hR.draw ?_))
  have:=dAny_lex (P:=P) (cf:=cf) (H:=X.H) (N:=N) l' 0 (Array.replicate l'.toArray.size false) X.T (by simp) (by simpa using hB.2) (dW_of_dR _ _ h)
  simpa using this
end
end Am
end Go.Proofs.YtlhdeofkhajigaaGreat
/- Functions that hold a range over a function: their frames, and what they hand back. Conditions: those that each names. -/
set_option linter.all false
set_option linter.unusedSimpArgs false
set_option linter.unusedVariables false
namespace Go.Proofs.YtlhdeofkhajigaaGreat
namespace Am
open Go Go.RowKit

abbrev mkD (D:Nat):Deferred:={ target := .collected D,args:=#[] }
/-- b' is b behind some ranges over functions -/
structure Ext (b b':Base):Prop where
  fx:b'.fx=b.fx
  fix:∀ i,b.fx.getD i false=true→b'.φ0 i=b.φ0 i
  le:b.M0.le b'.M0
  new:∀ ad v,b'.M0 ad=some v→b.M0 ad=some v∨b.w0.heap.size≤ad.block∨b.S ad.block
  S:∀ g,b'.S g→b.w0.heap.size≤g∨b.S g
  kept:Kept b.S b.w0 b'.w0
  ds:∃ Ds:List Nat,b'.ds=Ds.map mkD++b.ds∧Ds.Nodup∧∀ D∈Ds,b.w0.heap.size≤D∧¬ b'.S D∧D<b'.w0.heap.size∧b'.w0.heap[D]? = some (.deferred (some []))
theorem Ext.refl (b:Base):Ext b b:=⟨rfl,fun _ _=>rfl,Mem.le_refl _,fun _ _ h => .inl h,fun _ h => .inr h,Kept.refl _ _,[],rfl,List.nodup_nil,fun _ h=>by cases h⟩
theorem Ext.trans {b b' b'':Base} (h:Ext b b') (k:Ext b' b''):Ext b b'':=by
  obtain ⟨Ds,d1,d2,d3⟩:=h.ds
  obtain ⟨Es,e1,e2,e3⟩:=k.ds
  refine ⟨k.fx.trans h.fx,fun i hi=>(k.fix i (by rw [h.fx];exact hi)).trans (h.fix i hi),Mem.le_trans h.le k.le,fun ad v e => ?_,fun g hg => ?_,h.kept.trans k.kept h.S,Es++Ds,by rw [e1,d1,List.map_append,List.append_assoc],List.nodup_append.2 ⟨e2,d2,fun x hx y hy e => ?_⟩,fun D hD => ?_⟩
  · rcases k.new ad v e with h1 | h1 | h1
    · exact h.new ad v h1
    · exact .inr (.inl (Nat.le_trans h.kept.size h1))
    · exact .inr (h.S _ h1)
  · rcases k.S g hg with h1 | h1
    · exact .inl (Nat.le_trans h.kept.size h1)
    · exact h.S g h1
  · have h1:=(e3 x hx).1
    have h2:=(d3 y hy).2.2.1
    omega
  · rcases List.mem_append.1 hD with h1 | h1
    · obtain ⟨k1,k2,k3,k4⟩:=e3 D h1
      exact ⟨Nat.le_trans h.kept.size k1,k2,k3,k4⟩
    · obtain ⟨k1,k2,k3,k4⟩:=d3 D h1
      refine ⟨k1,fun hs => ?_,Nat.lt_of_lt_of_le k3 k.kept.size,(k.kept.block D k3 k2).trans k4⟩
      rcases k.S D hs with h2 | h2
      · omega
      · exact k2 h2
/-! ### objects that lie in one block each -/
def Ob.one:Ob→Bool
  | .box _=>true
  | .row _ _=>true
  | _=>false
def Ob.flt:Ob→Bool
  | .gone=>true
  | .box _=>true
  | .row _ _=>true
  | _=>false
def flatH (H:List Ob):Bool:=H.all Ob.flt
/-- the block that an object's value names -/
def nb (H:List Ob) (φ:Nat→Value) (i g:Nat):Prop:=(∃ o,H[i]? = some o∧o.one=true)∧blk (φ i)=some g
theorem one_cell {φ:Nat→Value} {S:Nat→Prop} {M:Mem} {w:World} {u:Value} {o:Ob} {g:Nat} (ho:o.one=true) (h:o.rel φ S M w u) (hg:blk u=some g):S g∧∃ arr t,w.heap[g]? = some (.cells arr t (0,0)):=by
  cases o with
  | box cs =>
    obtain ⟨g',arr,t,rfl,h2,h3,h4⟩:=h
    have e:g'=g:=by simpa [blk] using hg
    subst e
    exact ⟨h4,arr,t,h2⟩
  | row e c =>
    obtain ⟨vs,h1,h2,h3⟩:=h
    refine ⟨h3 g hg,?_⟩
    rcases h1.2 with ⟨e1,_⟩ | ⟨g',cap,cur,e1,_,hh,_⟩
    · rw [e1] at hg;cases hg
    · rw [e1] at hg
      have e:g'=g:=by simpa [blk] using hg
      subst e
      exact ⟨_,_,hh⟩
  | _=>cases ho
theorem norm_rel {φ:Nat→Value} {S S':Nat→Prop} {M:Mem} {w:World} {u:Value} {o:Ob} (hf:o.flt=true) (h:o.rel φ S M w u) (hS:∀ g,o.one=true→blk u=some g→S' g):o.rel φ S' M w u:=by
  cases o with
  | gone=>trivial
  | box cs =>
    obtain ⟨g',arr,t,e,h2,h3,h4⟩:=h
    exact ⟨g',arr,t,e,h2,h3,hS g' rfl (by rw [e];rfl)⟩
  | row e c =>
    obtain ⟨vs,h1,h2,h3⟩:=h
    exact ⟨vs,h1,h2,fun g hg=>hS g rfl hg⟩
  | _=>cases hf
section
variable {P:Program} {cf:Cfg} {b b':Base} {N:Nat} {φ:Nat→Value} {β:Nat→Nat→Prop} {M:Mem} {X:St} {a:Act} {w:World}
theorem flat_at {H:List Ob} (hf:flatH H=true) {i:Nat} {o:Ob} (hi:H[i]? = some o):o.flt=true:=List.all_eq_true.1 hf o (List.mem_of_getElem? hi)
theorem RA.nbβ (h:RA P cf b N φ β M X a w) {i g:Nat} (hn:nb X.H φ i g):i<X.H.length∧β i g∧∃ arr t,w.heap[g]? = some (.cells arr t (0,0)):=by
  obtain ⟨⟨o,hi,ho⟩,hg⟩:=hn
  obtain ⟨h1,h2⟩:=one_cell ho (h.hi.ob i o hi) hg
  exact ⟨(List.getElem?_eq_some_iff.1 hi).1,h1,h2⟩
theorem RA.norm (h:RA P cf b N φ β M X a w) (hf:flatH X.H=true):RA P cf b N φ (nb X.H φ) M X a w :=
  ⟨h.cf,h.le,h.new,⟨h.hi.mem,fun i o hi=>norm_rel (flat_at hf hi) (h.hi.ob i o hi) fun g ho hg=>⟨⟨o,hi,ho⟩,hg⟩,fun i g hi hg=>h.hi.off i g hi (h.nbβ hg).2.1,fun i j g hi hj hg hg'=>h.hi.inj i j g hi hj (h.nbβ hg).2.1 (h.nbβ hg').2.1,fun i g hi hg=>h.hi.lt i g hi (h.nbβ hg).2.1,h.hi.wf⟩,
    h.t,h.lt,fun i g hi hg=>h.own i g hi (h.nbβ hg).2.1,h.size,h.below,h.fix,h.defers⟩
/-- the state, with nothing said of where its objects lie but by their values -/
def NR (P:Program) (cf:Cfg) (b:Base) (N:Nat) (X:St) (a:Act) (w:World):Prop:=∃ φ M,RA P cf b N φ (nb X.H φ) M X a w
theorem R.norm (h:R P cf b N X a w) (hf:flatH X.H=true):NR P cf b N X a w:=by
  obtain ⟨φ,β,M,h⟩:=h
  exact ⟨φ,M,h.norm hf⟩
theorem NR.r (h:NR P cf b N X a w):R P cf b N X a w:=by
  obtain ⟨φ,M,h⟩:=h
  exact ⟨φ,_,M,h⟩
/-- a block that is no cells may turn, and new ones may come -/
theorem NR.kept (h:NR P cf b N X a w) {w':World} {row:Option Nat} (hg:w.grownBy w' row) (hr:∀ r,row=some r→b.w0.heap.size≤r∧∃ o:Obj,w.heap[r]? = some o∧o.isCells=false):NR P cf b N X a w':=by
  obtain ⟨φ,M,h⟩:=h
  have hr':∀ r,row=some r→∃ o:Obj,w.heap[r]? = some o∧o.isCells=false:=fun r e=>(hr r e).2
  refine ⟨φ,M,h.cf,h.le,h.new,⟨fun ad v e=>cell_kept (h.hi.mem ad v e) hg hr',fun i o hi=>Ob.rel_keep (h.hi.ob i o hi) fun g hn => ?_,h.hi.off,h.hi.inj,fun i g hi hn=>Nat.lt_of_lt_of_le (h.hi.lt i g hi hn) hg.size,h.hi.wf⟩,h.t,h.lt,h.own,h.size,⟨hg.os.trans h.below.os,hg.tape.trans h.below.tape,hg.output.trans h.below.output,Nat.le_trans h.below.size hg.size,fun k hk hs=>(hg.block k (Nat.lt_of_lt_of_le hk h.below.size) fun e => ?_).trans (h.below.block k hk hs)⟩,h.fix,h.defers⟩
  · obtain ⟨_,_,arr,t,hc⟩:=h.nbβ hn
    exact grownBy_keeps_cells hg hr' hc rfl
  · have:=(hr k e.symm).1
    omega
/-- the state seen from here on -/
abbrev hereB (M:Mem) (w:World) (H:List Ob) (φ:Nat→Value) (fx:List Bool) (ds:List Deferred):Base:=⟨M,w,fun g=>∃ i,nb H φ i g,φ,fx,ds⟩
theorem RA.here (h:RA P cf b N φ (nb X.H φ) M X a w) (fx:List Bool) (hfx:fx.length≤X.H.length) (ds:List Deferred):RA P cf (hereB M w X.H φ fx ds) N φ (nb X.H φ) M X { a with defers:=ds } w :=
  ⟨h.cf,Mem.le_refl _,fun _ _ e => .inl e,h.hi,h.t,h.lt,fun i g _ hn => .inr ⟨i,hn⟩,h.size,Kept.refl _ _,⟨hfx,fun _ _=>rfl⟩,rfl⟩
/-- from there on, and so from the beginning on -/
theorem RA.over (h:RA P cf b N φ (nb X.H φ) M X a w) {fx:List Bool} {ds:List Deferred} {φ':Nat→Value} {β':Nat→Nat→Prop} {M':Mem} {X':St} {a':Act} {w':World} (k:RA P cf (hereB M w X.H φ fx ds) N φ' β' M' X' a' w') (hfx:b.fx.length≤X'.H.length) (hfx2:∀ i,b.fx.getD i false=true→fx.getD i false=true):RA P cf b N φ' β' M' X' { a' with defers:=b.ds } w':=by
  have hS:∀ g,(∃ i,nb X.H φ i g)→b.w0.heap.size≤g∨b.S g:=fun g ⟨i,hn⟩=>h.own i g (h.nbβ hn).1 hn
  refine ⟨h.cf,Mem.le_trans h.le k.le,fun ad v e => ?_,k.hi,k.t,k.lt,fun i g hi hg => ?_,k.size,h.below.trans k.below hS,⟨hfx,fun i hi=>(k.fix.2 i (hfx2 i hi)).trans (h.fix.2 i hi)⟩,rfl⟩
  · rcases k.new ad v e with e | e | e
    · exact h.new ad v e
    · exact .inr (.inl (Nat.le_trans h.below.size e))
    · exact .inr (hS _ e)
  · rcases k.own i g hi hg with e | e
    · exact .inl (Nat.le_trans h.below.size e)
    · exact hS _ e
/-- the first n objects are kept, and the variables are those of before -/
theorem RA.reset (h:RA P cf b N φ β M X a w) {n:Nat} {φ0:Nat→Value} {M0:Mem} {T0:Tm} {a0:Act} (hn:n≤X.H.length) (hb:b.fx.length≤n) (hφ:∀ i,i<n→φ i=φ0 i) (hM:M0.le M) (hwf:∀ (i:Nat) (o:Ob),(X.H.take n)[i]? = some o→o.lt n)
    (ht:∀ t,((T0 t).1=true→(T0 t).2.rel φ0 M0 (a0.tmps.getD t undef))∧((T0 t).1=false→a0.tmps.getD t undef=undef)) (hlt:∀ t,(T0 t).2.lt n) (hsz:a0.tmps.size=N):RA P cf b N φ β M ⟨T0,X.H.take n⟩ ⟨a0.tmps,b.ds⟩ w:=by
  have hl:(X.H.take n).length=n:=by rw [List.length_take];omega
  have hg:∀ (i:Nat) (o:Ob),(X.H.take n)[i]? = some o→X.H[i]? = some o:=fun i o hi=>by
    rw [List.getElem?_take] at hi
    split at hi
    · exact hi
    · cases hi
  refine ⟨h.cf,h.le,h.new,⟨h.hi.mem,fun i o hi=>h.hi.ob i o (hg i o hi),fun i g hi=>h.hi.off i g (by rw [hl] at hi;omega),fun i j g hi hj=>h.hi.inj i j g (by rw [hl] at hi;omega) (by rw [hl] at hj;omega),fun i g hi=>h.hi.lt i g (by rw [hl] at hi;omega),fun i o hi=>by rw [hl];exact hwf i o hi⟩,
    fun t=>⟨fun e=>AV.rel_imp ((ht t).1 e) fun y hy u hu=>Lf.rel_mono hM (Lf.rel_phi (hlt t y hy) hφ hu),(ht t).2⟩,fun t=>by show AV.lt _ _;rw [hl];exact hlt t,fun i g hi=>h.own i g (by rw [hl] at hi;omega),hsz,h.below,⟨by rw [hl];exact hb,h.fix.2⟩,rfl⟩
def shutD (w:World):List Nat→World
  | []=>w
  | D::Ds=>shutD (w.putObj D (.deferred none)) Ds
theorem NR.shut:∀ (Ds:List Nat) {w:World},NR P cf b N X a w→Ds.Nodup→(∀ D∈Ds,b.w0.heap.size≤D∧w.heap[D]? = some (.deferred (some [])))→NR P cf b N X a (Am.shutD w Ds)
  | [],_,h,_,_=>h
  | D::Ds,w,h,hn,hk=>by
    obtain ⟨k1,k2⟩:=hk D (by simp)
    refine NR.shut Ds (h.kept (grownBy_putObj' w D (.deferred none)) fun r e=>by cases e;exact ⟨k1,_,k2,rfl⟩) (List.nodup_cons.1 hn).2 fun E hE => ?_
    obtain ⟨l1,l2⟩:=hk E (by simp [hE])
    exact ⟨l1,(World.putObj_heap_other (fun e=>(List.nodup_cons.1 hn).1 (by rw [← e];exact hE))).trans l2⟩
theorem leavesM {fn:Func} {tmps:Array Value} {n:Nat} {K:Ending→World→Prop}:∀ (Ds:List Nat) {w:World},Ds.Nodup→(∀ D∈Ds,w.heap[D]? = some (.deferred (some [])))→(∃ v,(results fn tmps).run P (Am.shutD w Ds) = .ok v (Am.shutD w Ds)∧K (.returned v) (Am.shutD w Ds))→LeavesInM Fence.wide n P fn tmps K (Ds.map mkD) .returning w
  | [],_,_,_,h=>h
  | D::Ds,w,hn,hk,h=>⟨by simp,.inl ⟨D,_,rfl,run_takeDeferred (hk D (by simp)),leavesM Ds (List.nodup_cons.1 hn).2 (fun E hE=>(World.putObj_heap_other (fun e=>(List.nodup_cons.1 hn).1 (by rw [← e];exact hE))).trans (hk E (by simp [hE]))) h⟩⟩
end
/-! ### code that may hold ranges over functions -/
abbrev dep:Nat:=9
def awpL (P:Program) (cf:Cfg) (b:Base) (N:Nat) (c:Code) (Q:Exit→St→Prop) (X:St):Prop :=
  ∀ b1,Ext b b1→∀ a w,R P cf b1 N X a w→c.wpIn Fence.wide dep P (fun e a' w'=>∃ b2,Ext b b2∧∃ X',Q e X'∧R P cf b2 N X' a' w') a w
section
variable {P:Program} {cf:Cfg} {b:Base} {N:Nat} {Q:Exit→St→Prop} {X:St}
/-- code without such a range -/
theorem awpL_of {c:Code} (h:∀ M1 w1 S1 φ1 ds1,awp P cf ⟨M1,w1,S1,φ1,b.fx,ds1⟩ N c Q X):awpL P cf b N c Q X:=fun b1 h1 a w hR=>by
  refine wpIn_wide.2 (Code.wp_mono (fun e a' w' hq => ?_) (h b1.M0 b1.w0 b1.S b1.φ0 b1.ds a w (by rw [← h1.fx];exact hR)))
  obtain ⟨X',k1,k2⟩:=hq
  exact ⟨b1,h1,X',k1,by rw [← h1.fx] at k2;exact k2⟩
theorem awpL_seq {x y:Code} (h:awpL P cf b N x (thenQ (awpL P cf b N y Q) Q) X):awpL P cf b N (.seq x y) Q X:=fun b1 h1 a w hR=>by
  refine wpIn_seq (Code.wpIn_mono (fun e a' w' hq => ?_) (h b1 h1 a w hR))
  obtain ⟨b2,h2,X',h3,h4⟩:=hq
  cases e<;>first | exact h3 b2 h2 a' w' h4 | exact ⟨b2,h2,X',h3,h4⟩
theorem awpL_block {id:Nat} {c:Code} (h:awpL P cf b N c (inBlockQ id Q) X):awpL P cf b N (.block id c) Q X:=fun b1 h1 a w hR=>by
  refine wpIn_block (Code.wpIn_mono (fun e a' w' hq => ?_) (h b1 h1 a w hR))
  obtain ⟨b2,h2,X',h3,h4⟩:=hq
  cases e with
  | exit id' =>
    simp only [Exit.inBlock,inBlockQ] at h3 ⊢
    split
    · rename_i e;rw [if_pos e] at h3;exact ⟨b2,h2,X',h3,h4⟩
    · rename_i e;rw [if_neg e] at h3;exact ⟨b2,h2,X',h3,h4⟩
  | _=>exact ⟨b2,h2,X',h3,h4⟩
theorem awpL_cond {c:Operand} {x y:Code} {v:Bool} (hc:look X.T c=(true,.bool v)) (ht:v=true→awpL P cf b N x Q X) (hf:v=false→awpL P cf b N y Q X):awpL P cf b N (.cond c x y) Q X:=fun b1 h1 a w hR=>by
  have hb:a.eval c = .bool v:=by
    obtain ⟨φ,β,M,h⟩:=hR
    have:=h.ctx.t c (by rw [hc])
    rw [hc] at this
    exact this
  exact wpIn_cond_split hb (fun e=>ht e b1 h1 a w hR) (fun e=>hf e b1 h1 a w hR)
end
end Am
end Go.Proofs.YtlhdeofkhajigaaGreat
/- The statement that ranges over a function, and the loops about it. Conditions: those that each names. -/
set_option linter.all false
set_option linter.unusedSimpArgs false
set_option linter.unusedVariables false
namespace Go.Proofs.YtlhdeofkhajigaaGreat
namespace Am
open Go Go.RowKit

/-- what a round keeps -/
def KpM (M:Mem) (W W':World):Prop:=∀ ad v,M ad=some v→W.cell? ad=some v→W'.cell? ad=some v
/-- the function gf, with what it has captured, yields just these -/
def SeqD (P:Program) (gf:Nat) (xs:List Lf) {α:Type} (encs:α→Array Value) (all:List α):Prop :=
  (∀ (av:Array Value) (W:World),(callFunc gf av).run P W = .ok (.enter gf av) W)∧∀ (M:Mem) (w:World) (us:List Value),(∀ ad v,M ad=some v→w.cell? ad=some v)→LsRel noφ M xs us →
    SeqStopsK Fence.wide (dep-1) P gf us.toArray encs (KpM M) (fun ys=>ys=all) (fun pre=>pre <+: all) all.length w
section
variable {P:Program} {cf:Cfg} {b:Base} {N:Nat} {Q:Exit→St→Prop} {X:St}
theorem put_two (t:Array Value) (ds:List Deferred) (p q:Nat) (u v:Value):(((⟨t,ds⟩:Act).put (some p) u).put (some q) v)={ tmps:=((#[p,q]:Array Nat).zip #[u,v]).foldl (fun t (x:Nat×Value)=>match x with | (p,v)=>t.setIfInBounds p v) t,defers:=ds }:=by
  simp [Act.put]
theorem awpL_range {gt:Operand} {p0 p1:Nat} {assign body:Code} {α:Type} {gf:Nat} {xs:List Lf} {encs:α→Array Value} {all:List α} (hseq:SeqD P gf xs encs all)
    (hg:look X.T gt=(true,.clo gf xs)) (hx:xs.all (Lf.ltB 0)=true) (v0 v1:α→AV) (hv:∀ x φ M,∃ u0 u1,encs x=#[u0,u1]∧(v0 x).rel φ M u0∧(v1 x).rel φ M u1) (hvl:∀ x n,(v0 x).lt n∧(v1 x).lt n)
    (Hf:List α→List Ob) (Hb:α→List Ob) (T2:α→Tm) (h0:X.H=Hf []) (hlen:∀ pre,(Hf pre).length=X.H.length) (hflat:∀ pre,flatH (Hf pre)=true) (hwf:∀ pre (i:Nat) o,(Hf pre)[i]? = some o→o.lt X.H.length) (hflat2:∀ x,flatH (Hb x)=true)
    (hdet:∀ pre pre',(∀ (i:Nat) o o',(Hf pre)[i]? = some o→(Hf pre')[i]? = some o'→∃ φ φ' S S' M M' W u,o.rel φ S M W u∧o'.rel φ' S' M' W u)→Hf pre=Hf pre')
    (hp0:p0<N) (hp1:p1<N)
    (hA:∀ (b':Base) l pre x,b'.fx=List.replicate X.H.length true→awpI l 7 P cf b' N assign (fun e X'=>e = .normal∧X'.le b'.fx ⟨T2 x,Hf pre++Hb x⟩) ⟨(X.T.put (some p0) (true,v0 x)).put (some p1) (true,v1 x),Hf pre⟩)
    (hB:∀ (b':Base) l pre x,pre.length<all.length→b'.fx=List.replicate X.H.length true→awpI l 7 P cf b' N body (fun e X'=>e = .normal∧X'.H.take X.H.length=Hf (pre++[x])) ⟨T2 x,Hf pre++Hb x⟩)
    (hQ:Q .normal ⟨X.T,Hf all⟩):awpL P cf b N (.rangeFunc gt #[p0,p1] assign body) Q X:=fun b1 h1 a w hR=>by
  obtain ⟨φ,β,M,hR⟩:=hR
  have hfl:flatH X.H=true:=by rw [h0];exact hflat []
  have hR:=hR.norm hfl
  have hgv:=hR.ctx.t gt (by rw [hg])
  rw [hg] at hgv
  obtain ⟨us,hus,hls⟩:=hgv
  have hls':LsRel noφ M xs us:=⟨hls.1,fun j hj hj'=>Lf.rel_phi (List.all_eq_true.1 hx _ (List.getElem_mem hj)) (fun i hi=>by omega) (hls.2 j hj hj')⟩
  generalize hfx:List.replicate X.H.length true=fxT at hA hB
  have hfl1:fxT.length=X.H.length:=by rw [← hfx];simp
  have hfl2:∀ i,i<X.H.length→fxT.getD i false=true:=fun i hi=>by rw [← hfx,List.getD_eq_getElem?_getD,List.getElem?_replicate,if_pos hi];rfl
  obtain ⟨bR,hbR⟩:∃ bR,hereB M w X.H φ fxT []=bR:=⟨_,rfl⟩
  have hst:RA P cf bR N φ (nb X.H φ) M X { a with defers:=[] } w:=by rw [← hbR];exact hR.here fxT (by omega) []
  have hbf:bR.fx=fxT:=by rw [← hbR]
  have hbw:bR.w0=w:=by rw [← hbR]
  have hbM:bR.M0=M:=by rw [← hbR]
  have hbφ:bR.φ0=φ:=by rw [← hbR]
  have hbd:bR.ds=[]:=by rw [← hbR]
  have hcells:∀ {φ':Nat→Value} {M':Mem} {X':St} {a':Act} {b':Base} {W:World},RA P cf b' N φ' (nb X'.H φ') M' X' a' W→∀ {k:Nat} {o:Obj},(∃ i,nb X'.H φ' i k)→W.heap[k]? = some o→o.isCells=true:=fun h k o ⟨i,hn⟩ hk=>by
    obtain ⟨_,_,arr,t,hc⟩:=h.nbβ hn
    rw [hc] at hk
    cases hk
    rfl
  have hkeep:∀ {φ':Nat→Value} {M':Mem} {X' X2:St} {a' a2:Act} {W W2:World} {φ2:Nat→Value} {β2:Nat→Nat→Prop} {M2:Mem},RA P cf bR N φ' (nb X'.H φ') M' X' a' W→RA P cf (hereB M' W X'.H φ' fxT []) N φ2 β2 M2 X2 a2 W2→KeepsFrom w.heap.size W W2∧KpM M W W2:=fun h k =>
    ⟨⟨k.below.size,fun j o _ hj ho=>(k.below.block j (Array.getElem?_eq_some_iff.1 hj).1 fun hs=>by rw [hcells h hs hj] at ho;cases ho).trans hj⟩,fun ad v e _=>k.hi.mem ad v (k.le _ _ (h.le _ _ (by rw [hbM];exact e)))⟩
  have hreset:∀ {φ':Nat→Value} {M':Mem} {X2:St} {a2:Act} {W W2:World} {φ2:Nat→Value} {β2:Nat→Nat→Prop} {M2:Mem} {pre pre2:List α} {X':St} {a':Act},RA P cf bR N φ' (nb X'.H φ') M' X' a' W→RA P cf (hereB M' W X'.H φ' fxT []) N φ2 β2 M2 X2 a2 W2→X2.H.take X.H.length=Hf pre2→NR P cf bR N ⟨X.T,Hf pre2⟩ { a with defers:=[] } W2:=fun {φ' M' X2 a2 W W2 φ2 β2 M2 pre pre2 X' a'} h k e=>by
    have hl2:X.H.length≤X2.H.length:=by have:=k.fix.1;simp only at this;omega
    have k2:=h.over k (by rw [hbf];omega) (fun i hi=>by rw [← hbf];exact hi)
    have k3:=k2.reset (n:=X.H.length) (φ0:=φ) (M0:=M) (T0:=X.T) (a0:=a) hl2 (by rw [hbf];omega) (fun i hi=>by have:=k2.fix.2 i (by rw [hbf];exact hfl2 i hi);rw [hbφ] at this;exact this) (by have:=k2.le;rw [hbM] at this;exact this) (by rw [e];exact hwf _) hR.t hR.lt hR.size
    rw [e,hbd] at k3
    exact R.norm ⟨_,_,_,k3⟩ (hflat _)
  refine wpIn_rangeFunc_ownH (F:=Fence.wide) (n:=dep) rfl (by decide) (gf:=gf) (lb:=us.toArray) hus trivial hseq.1 (hseq.2 M w us hR.hi.mem hls') ?hKt ?hKb (Below.refl _ _) ?hps
    (fun pre W=>NR P cf bR N ⟨X.T,Hf pre⟩ { a with defers:=[] } W) (fun _ _ _=>False) ?hI (fun _ _ _ _ _ h _ _=>h) ?h0
    (fun x a' W=>∃ pre',NR P cf bR N ⟨T2 x,Hf pre'++Hb x⟩ a' W) ?hAx ?assign ?body ?done ?stop
  case hKt=>exact fun h k ad v e e1=>k ad v e (h ad v e e1)
  case hKb=>exact fun W l o o' _ hl ho _ ad v _ hv=>cell_kept hv (grownBy_putObj' W l o') fun r e=>by cases e;exact ⟨o,hl,ho⟩
  case hps=>intro x;obtain ⟨u0,u1,e,_⟩:=hv x φ M;rw [e];rfl
  case hI=>exact fun pre W W' row h hg hr=>h.kept hg fun r e=>by rw [hbw];exact hr r e
  case h0=>exact ⟨φ,M,by rw [← h0];exact hst⟩
  case hAx=>exact fun x a' _ W W' row ⟨pre',h⟩ hg hr=>⟨pre',h.kept hg fun r e=>by rw [hbw];exact hr r e⟩
  case assign =>
    intro l pre x W K hI hK
    obtain ⟨φ',M',hI⟩:=hI
    obtain ⟨u0,u1,e,r0,r1⟩:=hv x φ' M'
    have k0:=hI.here fxT (by show _≤(Hf pre).length;rw [hlen,hfl1];exact Nat.le_refl _) []
    have hl:=hlen pre
    have k1:=(k0.put (d:=some p0) (g:=true) (v:=v0 x) (u:=u0) (by simpa using hp0) (Mem.le_refl _) k0.new k0.hi k0.below ⟨fun _=>r0,fun h=>by cases h⟩ (hvl x _).1).put (d:=some p1) (g:=true) (v:=v1 x) (u:=u1) (by simpa using hp1) (Mem.le_refl _) k0.new k0.hi k0.below ⟨fun _=>r1,fun h=>by cases h⟩ (hvl x _).2
    have:=hA (hereB M' W (Hf pre) φ' fxT []) l pre x rfl _ W ⟨_,_,_,k1⟩
    rw [e]
    rw [put_two] at this
    refine Code.wpIn_mono (fun ex a' w' hq => ?_) this
    obtain ⟨_,X',⟨rfl,hle⟩,hX⟩:=hq
    obtain ⟨φ2,β2,M2,hX⟩:=hX.le hle
    obtain ⟨q1,q2⟩:=hkeep hI hX
    refine hK a' w' q1 q2 (hreset (pre:=pre) hI hX (by show (Hf pre++Hb x).take _=_;rw [← hl,List.take_left])) ⟨pre,?_⟩
    have k2:=hI.over hX (by rw [hbf,hfl1];show _≤(Hf pre++Hb x).length;rw [List.length_append];omega) (fun i hi=>by rw [← hbf];exact hi)
    have ea:({ a' with defers:=bR.ds }:Act)=a':=by have:=hX.defers;cases a';simp only at this;rw [this,hbd]
    rw [ea] at k2
    exact R.norm ⟨_,_,_,k2⟩ (by show flatH (Hf pre++Hb x)=true;unfold flatH;rw [List.all_append];exact (Bool.and_eq_true _ _).mpr ⟨hflat pre,hflat2 x⟩)
  case body =>
    intro l pre x a' W _ _ hI hAx hN
    obtain ⟨φ',M',hI⟩:=hI
    obtain ⟨pre',φ2,M2,hX⟩:=hAx
    have hl:=hlen pre
    have hl':=hlen pre'
    have hH:Hf pre=Hf pre':=hdet pre pre' fun i o o' hi hi'=>by
      have hil:i<X.H.length:=by rw [← hl];exact (List.getElem?_eq_some_iff.1 hi).1
      have e1:=hI.fix.2 i (by rw [hbf];exact hfl2 i hil)
      have e2:=hX.fix.2 i (by rw [hbf];exact hfl2 i hil)
      have q1:=hI.hi.ob i o hi
      have q2:=hX.hi.ob i o' (by show (Hf pre'++Hb x)[i]? = _;rw [List.getElem?_append_left (by omega)];exact hi')
      rw [e1] at q1
      rw [e2] at q2
      exact ⟨_,_,_,_,_,_,_,_,q1,q2⟩
    rw [← hH] at hX
    have k0:=hX.here fxT (by show _≤(Hf pre++Hb x).length;rw [List.length_append,hl,hfl1];omega) []
    have ea:({ a' with defers:=[] }:Act)=a':=by have:=hX.defers;rw [hbd] at this;cases a';simp only at this;rw [this]
    rw [ea] at k0
    refine Code.wpIn_mono (fun ex a2 w2 hq => ?_) (hB (hereB M2 W (Hf pre++Hb x) φ2 fxT []) l pre x hN rfl a' W ⟨_,_,_,k0⟩)
    obtain ⟨_,X',⟨rfl,hle⟩,φ3,β3,M3,hX3⟩:=hq
    obtain ⟨q1,q2⟩:=hkeep hX hX3
    exact ⟨q1,q2,hreset (pre:=pre) hX hX3 hle⟩
  case done =>
    intro D ys W hD hys hI hK
    subst hys
    obtain ⟨φ',M',hI⟩:=hI
    have hl:=hlen ys
    rw [← hbR] at hI
    have hf1:=hR.fix.1
    have h2:=hR.over hI (by show _≤(Hf ys).length;omega) (fun i hi=>hfl2 i (by
      have:i<b1.fx.length:=by
        rcases Nat.lt_or_ge i b1.fx.length with h | h
        · exact h
        · rw [List.getD_eq_getElem?_getD,List.getElem?_eq_none h] at hi;cases hi
      omega))
    have h3:=h2.here b1.fx (by show _≤(Hf ys).length;omega) (mkD D::b1.ds)
    refine ⟨hereB M' W (Hf ys) φ' b1.fx (mkD D::b1.ds),h1.trans ⟨rfl,h2.fix.2,h2.le,h2.new,fun g ⟨i,hn⟩=>h2.own i g (h2.nbβ hn).1 hn,h2.below,[D],rfl,by simp,fun E hE => ?_⟩,⟨X.T,Hf ys⟩,hQ,φ',nb (Hf ys) φ',M',?_⟩
    · obtain rfl:E=D:=by simpa using hE
      refine ⟨Nat.le_trans hR.below.size hD,fun hs => ?_,(Array.getElem?_eq_some_iff.1 hK).1,hK⟩
      have:=hcells h2 hs hK
      cases this
    · rw [hR.defers]
      exact h3
  case stop=>exact fun D c pre W _ _ h _=>h.elim
/-- a loop -/
theorem awpL_rounds {c:Code} {α:Type} (chg:α→List (Nat×Bool×AV)) (ss:List Nat) (H:α→List Ob) (I:α→Prop) (μ:α→Nat) (k0:α) (h0:leK (chg k0++kept X.T ss) (H k0) X) (hI:I k0)
    (hr:∀ k,I k→awpL P cf b N c (thenQ (fun X'=>∃ k',I k'∧μ k'<μ k∧(leK (chg k'++kept X.T ss) (H k') X'∨∃ n,b.fx.length≤n∧leT n (chg k'++kept X.T ss) (H k') X')) Q) ⟨tab (chg k++kept X.T ss),H k⟩):awpL P cf b N (.loop c) Q X:=fun b1 h1 a w hR=>by
  have key:∀ n k b1,Ext b b1→∀ a w,μ k<n→I k→R P cf b1 N ⟨tab (chg k++kept X.T ss),H k⟩ a w→Code.roundsIn Fence.wide dep P c (fun e a' w'=>∃ b2,Ext b b2∧∃ X',Q e X'∧R P cf b2 N X' a' w') n a w:=by
    intro n
    induction n with
    | zero=>intro k b1 h1 a w hn;omega
    | succ n ih =>
      intro k b1 h1 a w hn hk hR
      rw [roundsIn_succ]
      refine Code.wpIn_mono (fun e a' w' hq => ?_) (hr k hk b1 h1 a w hR)
      obtain ⟨b2,h2,X',h3,h4⟩:=hq
      cases e with
      | normal =>
        obtain ⟨k',h5,h6,h7⟩:=h3
        refine ih k' b2 h2 a' w' (by omega) h5 ?_
        rcases h7 with h7 | ⟨m,hm,h7⟩
        · exact h4.leK h7
        · exact h4.le (h7.le (by rw [h2.fx];exact hm))
      | _=>exact ⟨b2,h2,X',h3,h4⟩
  exact wpIn_loop_rounds (μ k0+1) (key _ k0 b1 h1 a w (Nat.lt_succ_self _) hI (hR.leK h0))
/-- what holds from b' on holds from b on, but for the frame's marks -/
theorem RA.back {b':Base} {φ:Nat→Value} {β:Nat→Nat→Prop} {M:Mem} {a:Act} {w:World} (h:RA P cf b' N φ β M X a w) (hx:Ext b b'):RA P cf b N φ β M X { a with defers:=b.ds } w :=
  ⟨h.cf,Mem.le_trans hx.le h.le,fun ad v e=>by
    rcases h.new ad v e with h1 | h1 | h1
    · exact hx.new ad v h1
    · exact .inr (.inl (Nat.le_trans hx.kept.size h1))
    · exact .inr (hx.S _ h1),h.hi,h.t,h.lt,fun i g hi hg=>by
    rcases h.own i g hi hg with h1 | h1
    · exact .inl (Nat.le_trans hx.kept.size h1)
    · exact hx.S g h1,h.size,hx.kept.trans h.below hx.S,⟨by rw [← hx.fx];exact h.fix.1,fun i hi=>(h.fix.2 i (by rw [hx.fx];exact hi)).trans (hx.fix i hi)⟩,rfl⟩
/-- a function that holds ranges over functions -/
theorem spec_hL {f:Nat} {fn:Func} {c:Code} {args:List AV} {fx:List Bool} {Hin Hout:List Ob} (hf:P.funcs[f]? = some fn) (hb:fn.body=some c) (hN:fn.ntmps=N) (hcf:CfgOK P cf) (hent:∀ (av:Array Value) (W:World),(callFunc f av).run P W = .ok (.enter f av) W) (hargs:args.all (AV.ltB Hin.length)=true) (hlen:Nat.ble args.length N=true) (hfx:Nat.ble fx.length Hin.length=true) {r:AV}
    (h:∀ M0 w0 S φ0,awpL P cf ⟨M0,w0,S,φ0,fx,[]⟩ N c (fun e X=>ends e (flatH X.H=true∧retH cf X fn.results.toList fx Hin.length r Hout)) ⟨tab (params 0 args),Hin⟩):DoesH P f args fx Hin r Hout:=by
  refine ⟨hent,fun φ β M w us hH ha=>callsIn_wide.1 (callsIn_of_wp_marks (F:=Fence.wide) (n:=dep) hf hb trivial ?_)⟩
  have hst:=start (S:=blks Hin β) (fx:=fx) (fn:=fn) hcf hN (fun x hx=>AV.ltB_lt (List.all_eq_true.1 hargs x hx)) (Nat.le_of_ble_eq_true hlen) hH (fun i g hi hg=>⟨i,hi,hg⟩) (Nat.le_of_ble_eq_true hfx) rfl ha
  refine Code.wpIn_mono (fun e a' w' hq => ?_) (h M w _ _ _ (Ext.refl _) _ w ⟨_,_,_,hst⟩)
  obtain ⟨b2,hx,X,h1,hR⟩:=hq
  have key:(flatH X.H=true∧retH cf X fn.results.toList fx Hin.length r Hout)→LeavesInM Fence.wide dep P fn a'.tmps (fun e w'=>∃ u φ' β' M',e = .returned u∧M.le M'∧(∀ ad v,M' ad=some v→M ad=some v∨w.heap.size≤ad.block∨blks Hin β ad.block)∧HI φ' β' M' Hout w'∧r.rel φ' M' u∧r.lt Hout.length∧Hin.length≤Hout.length ∧
      (∀ i,fx.getD i false=true→φ' i=φ i)∧(∀ i g,i<Hout.length→β' i g→w.heap.size≤g∨blks Hin β g)∧Kept (blks Hin β) w w') a'.defers .returning w':=fun ⟨hfl,hr⟩=>by
    obtain ⟨φ2,M2,hN2⟩:=hR.norm hfl
    obtain ⟨Ds,d1,d2,d3⟩:=hx.ds
    have hK:∀ D∈Ds,w.heap.size≤D∧w'.heap[D]? = some (.deferred (some [])):=fun D hD=>by
      obtain ⟨k1,k2,k3,k4⟩:=d3 D hD
      exact ⟨k1,(hN2.below.block D k3 k2).trans k4⟩
    have hs:=NR.shut Ds (R.norm ⟨_,_,_,hN2.back hx⟩ hfl) d2 hK
    obtain ⟨φ3,M3,hs⟩:=hs
    obtain ⟨u,τ,h2,h3,h4,h5,h6,h7,h8⟩:=ret_h hs hr
    rw [hN2.defers,d1,show (Base.mk M w (blks Hin β) φ fx []).ds=[] from rfl,List.append_nil]
    exact leavesM Ds d2 (fun D hD=>(hK D hD).2) ⟨u,h2,u,_,_,M3,rfl,hs.le,hs.new,h4,h3,h5,h6,fun i hi=>by rw [h7 i hi];exact hs.fix.2 i hi,fun i g hi hg=>hs.own _ g (h8 i hi) hg,hs.below⟩
  cases e with
  | normal=>exact key h1
  | ret=>exact key h1
  | _=>exact h1.elim
/-- a function that hands back a function -/
theorem spec_clo {f:Nat} {fn:Func} {c:Code} {args:List AV} {s g:Nat} {xs:List Lf} (hf:P.funcs[f]? = some fn) (hb:fn.body=some c) (hN:fn.ntmps=N) (hcf:CfgOK P cf) (hent:∀ (av:Array Value) (W:World),(callFunc f av).run P W = .ok (.enter f av) W) (hfree:args.all AV.free=true) (hlen:Nat.ble args.length N=true) (hr:fn.results=#[.tmp s]) (hx:xs.all (Lf.ltB 0)=true)
    (h:∀ M0 w0,awp P cf (base0 M0 w0) N c (fun e X=>ends e (X.T s=(true,.clo g xs))) ⟨tab (params 0 args),[]⟩):Does P f args (.imm (.clo g xs)):=by
  refine ⟨hent,fun M w us hm ha=>calls_of_wp hf hb ?_⟩
  have hst:=start (S:=fun _=>False) (φ0:=fun _=>undef) (fx:=[]) (fn:=fn) hcf hN (H:=[]) (fun x hx=>free_lt (List.all_eq_true.1 hfree x hx) _) (Nat.le_of_ble_eq_true hlen) (nilHI hm) (fun i g hi=>by simp at hi) (Nat.le_refl _) rfl ha
  refine Code.wp_mono (fun e a' w' hq => ?_) (h M w _ w ⟨_,_,_,hst⟩)
  obtain ⟨X,h1,φ,β,M',hR⟩:=hq
  have key:X.T s=(true,.clo g xs)→a'.defers=[]∧∃ v,(results fn a'.tmps).run P w' = .ok v w'∧∃ u M',Ending.returned v = .returned u∧M.le M'∧(∀ ad v,M' ad=some v→w'.cell? ad=some v∧(M ad=some v∨w.heap.size≤ad.block))∧(Res.imm (.clo g xs)).rel M' w w' u∧Below w.heap.size w w':=fun hr2=>by
    have hc:=(hR.t s).1 (by rw [hr2])
    rw [hr2] at hc
    obtain ⟨us,e1,h2⟩:=hc
    exact ⟨hR.defers,_,results_tmp hr _ _ _,_,M',rfl,hR.le,fun ad v e=>⟨hR.hi.mem ad v e,by
      rcases hR.new ad v e with h4 | h4 | h4
      · exact .inl h4
      · exact .inr h4
      · exact h4.elim⟩,⟨us,e1,h2.imp fun y hy u hu=>Lf.rel_phi (n:=0) (List.all_eq_true.1 hx y hy) (fun i hi=>by omega) hu⟩,hR.below.to_below fun _ h=>h⟩
  cases e with
  | normal=>exact key h1
  | ret=>exact key h1
  | _=>exact h1.elim
end
end Am
end Go.Proofs.YtlhdeofkhajigaaGreat
/- Regions whose operations turn no memory, in whatever fence, and the call of a round. Conditions: those that each names. -/
set_option linter.all false
set_option linter.unusedSimpArgs false
set_option linter.unusedVariables false
namespace Go.Proofs.YtlhdeofkhajigaaGreat
namespace Am
open Go Go.RowKit

def qL (cf:Cfg) (N:Nat) (K:Tm→Prop):List Oper→Tm→Prop
  | [],T=>K T
  | o::l,T=>o.guard=none∧o.dst.all (Nat.blt · N)=true∧noDefer o=true∧(qev cf [] T true o.op).1∧qL cf N K l (T.put o.dst (true,(qev cf [] T true o.op).2))
section
variable {P:Program} {cf:Cfg} {b:Base} {N n:Nat} {φ:Nat→Value} {β:Nat→Nat→Prop} {M:Mem} {w:World} {ops:Array Oper} {Q:Exit→Act→World→Prop} {K:Tm→Prop} {rest:List Oper}
theorem q_pre0 (hK:∀ T' a',K T'→RA P cf b N φ β M ⟨T',[]⟩ a' w→wpListIn Fence.wide n P ops Q rest a' w):∀ (l:List Oper) (T:Tm) (a:Act),RA P cf b N φ β M ⟨T,[]⟩ a w→qL cf N K l T→wpListIn Fence.wide n P ops Q (l++rest) a w
  | [],_,_,hR,h=>hK _ _ h hR
  | o::l,T,a,hR,⟨hg,hd,hnd,hq,hk⟩=>by
    show (if Region.wanted o (yielded ops a.tmps)=true then _ else _)
    have hw:Region.wanted o (yielded ops a.tmps)=true:=by simp [Region.wanted,hg]
    rw [if_pos hw]
    refine ⟨fun _ _=>trivial,?_⟩
    rw [Oper.semAt_eq _ _ _ (noDefer_ne hnd)]
    obtain ⟨u,hu,hrel⟩:=q_sound (o:=o) hR.ctx hq
    rw [hu]
    exact q_pre0 hK l _ _ (hR.put hd (Mem.le_refl _) hR.new hR.hi hR.below ⟨fun _=>hrel,fun e=>by cases e⟩ (q_lt hR.hi.wf hR.lt _)) hk
theorem q_pre (k:Nat) {l:List Oper} {T:Tm} {a:Act} (K:Tm→Prop) (hR:RA P cf b N φ β M ⟨T,[]⟩ a w) (h:qL cf N K (l.take k) T) (hK:∀ T' a',K T'→RA P cf b N φ β M ⟨T',[]⟩ a' w→wpListIn Fence.wide n P ops Q (l.drop k) a' w):wpListIn Fence.wide n P ops Q l a w:=by
  have:=q_pre0 hK _ _ _ hR h
  rwa [List.take_append_drop] at this
theorem q_reg {id:Nat} {l:List Oper} {T:Tm} {a:Act} (K:Tm→Prop) (hR:RA P cf b N φ β M ⟨T,[]⟩ a w) (h:qL cf N K l T) (hK:∀ T' a',K T'→RA P cf b N φ β M ⟨T',[]⟩ a' w→Q .normal a' w):(Code.region id l.toArray false).wpIn Fence.wide n P Q a w:=by
  have:=q_pre0 (ops:=l.toArray) (n:=n) (Q:=Q) (rest:=[]) hK _ _ _ hR h
  rw [List.append_nil] at this
  exact wpIn_region_lit this
/-- the call of a round -/
theorem q_yield {o:Oper} {a:Act} {c:Call} {x:Operand} {l:Nat} {args:Array Value} {R:Ending→World→Prop} (hg:o.guard=none) (ho:o.op = .call c) (hc:c.callee = .value x) (hx:a.eval x = .func (.yield l) #[] #[]) (ha:c.args.map a.eval=args) (hY:YieldAt Fence.wide (n-1) P l args w R)
    (hK:∀ e w',R e w'→∃ v,e = .returned v∧wpListIn Fence.wide n P ops Q rest (a.put o.dst v) w'):wpListIn Fence.wide n P ops Q (o::rest) a w:=by
  show (if Region.wanted o (yielded ops a.tmps)=true then _ else _)
  have hw:Region.wanted o (yielded ops a.tmps)=true:=by simp [Region.wanted,hg]
  rw [if_pos hw]
  refine ⟨fun _ _=>trivial,?_⟩
  rw [Oper.semAt_eq _ _ _ (fun c' e=>by rw [ho] at e;cases e)]
  obtain ⟨fn,tmps,assign,body,hy,hR⟩:=hY
  have he:(execOp a.eval o).run P w=(Instr.yield l args).run P w:=by
    simp only [execOp,ho,resolve,hc,hx,ha,Deferred.ofValue,Sem.run_bind,Sem.run_pure,Result.andThen_ok,invoke,Array.empty_append,Array.append_empty]
  rw [he,hy]
  refine ⟨fun h=>(by cases h),hR.mono fun e w' h => ?_⟩
  obtain ⟨v,rfl,hk⟩:=hK e w' h
  exact hk
/-- the same variables, in another world that holds the same memory -/
theorem RA.move {a:Act} {T T':Tm} {w':World} (h:RA P cf (base0 M w) N noφ (fun _ _=>False) M ⟨T,[]⟩ a w) (hm:∀ ad v,M ad=some v→w'.cell? ad=some v) (hT:∀ t,T' t=T t∨T' t=(true,.und)):RA P cf (base0 M w') N noφ (fun _ _=>False) M ⟨T',[]⟩ a w':=by
  refine ⟨h.cf,Mem.le_refl _,fun _ _ e => .inl e,nilHI hm,fun t => ?_,fun t => ?_,fun i g hi=>by simp at hi,h.size,Kept.refl _ _,⟨Nat.le_refl _,fun i hi=>by simp at hi⟩,h.defers⟩
  · show ((T' t).1=true→(T' t).2.rel noφ M _)∧((T' t).1=false→_)
    rcases hT t with e | e
    · rw [e];exact h.t t
    · rw [e];exact ⟨fun _=>trivial,fun hf=>by cases hf⟩
  · show (T' t).2.lt _
    rcases hT t with e | e
    · rw [e];exact h.lt t
    · rw [e];exact und_lt
end
end Am
end Go.Proofs.YtlhdeofkhajigaaGreat
