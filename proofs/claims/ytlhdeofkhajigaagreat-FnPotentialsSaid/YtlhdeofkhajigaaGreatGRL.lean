/- Code in the round of a range over a function, where nothing is deferred. Conditions: those that each names. -/
import Derived.OrdersIn
import Derived.TacticsIn
import Derived.RangeFuncCalls
import Derived.RangeFuncWrites
import Derived.RangeFuncLeaves
import Derived.Test.YtlhdeofkhajigaaGreatGAM
import Derived.RangeFuncNested
import Derived.LoopNIn
set_option linter.all false
set_option linter.unusedSimpArgs false
set_option linter.unusedVariables false
namespace Go.Proofs.YtlhdeofkhajigaaGreat
namespace Am
open Go Go.RowKit

/-! ### what holds outside of a round holds in one -/
end Am
end Go.Proofs.YtlhdeofkhajigaaGreat
/- Functions that hold a range over a function: their frames, and what they hand back. Conditions: those that each names. -/
set_option linter.all false
set_option linter.unusedSimpArgs false
set_option linter.unusedVariables false
namespace Go.Proofs.YtlhdeofkhajigaaGreat
namespace Am
open Go Go.RowKit

abbrev mkD (D:Nat):Deferred:={ target := .collected D,args:=#[] }
/-- b' is b behind some ranges over functions -/
structure Ext (b b':Base):Prop where
  fx:b'.fx=b.fx
  fix:∀ i,b.fx.getD i false=true→b'.φ0 i=b.φ0 i
  le:b.M0.le b'.M0
  new:∀ ad v,b'.M0 ad=some v→b.M0 ad=some v∨b.w0.heap.size≤ad.block∨b.S ad.block
  S:∀ g,b'.S g→b.w0.heap.size≤g∨b.S g
  kept:Kept b.S b.w0 b'.w0
  ds:∃ Ds:List Nat,b'.ds=Ds.map mkD++b.ds∧Ds.Nodup∧∀ D∈Ds,b.w0.heap.size≤D∧¬ b'.S D∧D<b'.w0.heap.size∧b'.w0.heap[D]? = some (.deferred (some []))
theorem Ext.refl (b:Base):Ext b b:=⟨rfl,fun _ _=>rfl,Mem.le_refl _,fun _ _ h => .inl h,fun _ h => .inr h,Kept.refl _ _,[],rfl,List.nodup_nil,fun _ h=>by cases h⟩
theorem Ext.trans {b b' b'':Base} (h:Ext b b') (k:Ext b' b''):Ext b b'':=by
  obtain ⟨Ds,d1,d2,d3⟩:=h.ds
  obtain ⟨Es,e1,e2,e3⟩:=k.ds
  refine ⟨k.fx.trans h.fx,fun i hi=>(k.fix i (by rw [h.fx];exact hi)).trans (h.fix i hi),Mem.le_trans h.le k.le,fun ad v e => ?_,fun g hg => ?_,h.kept.trans k.kept h.S,Es++Ds,by rw [e1,d1,List.map_append,List.append_assoc],List.nodup_append.2 ⟨e2,d2,fun x hx y hy e => ?_⟩,fun D hD => ?_⟩
  · rcases k.new ad v e with h1 | h1 | h1
    · exact h.new ad v h1
    · exact .inr (.inl (Nat.le_trans h.kept.size h1))
    · exact .inr (h.S _ h1)
  · rcases k.S g hg with h1 | h1
    · exact .inl (Nat.le_trans h.kept.size h1)
    · exact h.S g h1
  · have h1:=(e3 x hx).1
    have h2:=(d3 y hy).2.2.1
    omega
  · rcases List.mem_append.1 hD with h1 | h1
    · obtain ⟨k1,k2,k3,k4⟩:=e3 D h1
      exact ⟨Nat.le_trans h.kept.size k1,k2,k3,k4⟩
    · obtain ⟨k1,k2,k3,k4⟩:=d3 D h1
      refine ⟨k1,fun hs => ?_,Nat.lt_of_lt_of_le k3 k.kept.size,(k.kept.block D k3 k2).trans k4⟩
      rcases k.S D hs with h2 | h2
      · omega
      · exact k2 h2
/-! ### objects that lie in one block each -/
def Ob.one:Ob→Bool
  | .box _=>true
  | .row _ _=>true
  | _=>false
/-- the block that an object's value names -/
def nb (H:List Ob) (φ:Nat→Value) (i g:Nat):Prop:=(∃ o,H[i]? = some o∧o.one=true)∧blk (φ i)=some g
theorem one_cell {φ:Nat→Value} {S:Nat→Prop} {M:Mem} {w:World} {u:Value} {o:Ob} {g:Nat} (ho:o.one=true) (h:o.rel φ S M w u) (hg:blk u=some g):S g∧∃ arr t,w.heap[g]? = some (.cells arr t (0,0)):=by
  cases o with
  | box cs =>
    obtain ⟨g',arr,t,rfl,h2,h3,h4⟩:=h
    have e:g'=g:=by simpa [blk] using hg
    subst e
    exact ⟨h4,arr,t,h2⟩
  | row e c =>
    obtain ⟨vs,h1,h2,h3⟩:=h
    refine ⟨h3 g hg,?_⟩
    rcases h1.2 with ⟨e1,_⟩ | ⟨g',cap,cur,e1,_,hh,_⟩
    · rw [e1] at hg;cases hg
    · rw [e1] at hg
      have e:g'=g:=by simpa [blk] using hg
      subst e
      exact ⟨_,_,hh⟩
  | _=>cases ho
section
variable {P:Program} {cf:Cfg} {b b':Base} {N:Nat} {φ:Nat→Value} {β:Nat→Nat→Prop} {M:Mem} {X:St} {a:Act} {w:World}
theorem RA.nbβ (h:RA P cf b N φ β M X a w) {i g:Nat} (hn:nb X.H φ i g):i<X.H.length∧β i g∧∃ arr t,w.heap[g]? = some (.cells arr t (0,0)):=by
  obtain ⟨⟨o,hi,ho⟩,hg⟩:=hn
  obtain ⟨h1,h2⟩:=one_cell ho (h.hi.ob i o hi) hg
  exact ⟨(List.getElem?_eq_some_iff.1 hi).1,h1,h2⟩
/-- the state, with nothing said of where its objects lie but by their values -/
def NR (P:Program) (cf:Cfg) (b:Base) (N:Nat) (X:St) (a:Act) (w:World):Prop:=∃ φ M,RA P cf b N φ (nb X.H φ) M X a w
theorem NR.r (h:NR P cf b N X a w):R P cf b N X a w:=by
  obtain ⟨φ,M,h⟩:=h
  exact ⟨φ,_,M,h⟩
/-- a block that is no cells may turn, and new ones may come -/
theorem NR.kept (h:NR P cf b N X a w) {w':World} {row:Option Nat} (hg:w.grownBy w' row) (hr:∀ r,row=some r→b.w0.heap.size≤r∧∃ o:Obj,w.heap[r]? = some o∧o.isCells=false):NR P cf b N X a w':=by
  obtain ⟨φ,M,h⟩:=h
  have hr':∀ r,row=some r→∃ o:Obj,w.heap[r]? = some o∧o.isCells=false:=fun r e=>(hr r e).2
  refine ⟨φ,M,h.cf,h.le,h.new,⟨fun ad v e=>cell_kept (h.hi.mem ad v e) hg hr',fun i o hi=>Ob.rel_keep (h.hi.ob i o hi) fun g hn => ?_,h.hi.off,h.hi.inj,fun i g hi hn=>Nat.lt_of_lt_of_le (h.hi.lt i g hi hn) hg.size,h.hi.wf⟩,h.t,h.lt,h.own,h.size,⟨hg.os.trans h.below.os,hg.tape.trans h.below.tape,hg.output.trans h.below.output,Nat.le_trans h.below.size hg.size,fun k hk hs=>(hg.block k (Nat.lt_of_lt_of_le hk h.below.size) fun e => ?_).trans (h.below.block k hk hs)⟩,h.fix,h.defers⟩
  · obtain ⟨_,_,arr,t,hc⟩:=h.nbβ hn
    exact grownBy_keeps_cells hg hr' hc rfl
  · have:=(hr k e.symm).1
    omega
end
end Am
end Go.Proofs.YtlhdeofkhajigaaGreat
/- The statement that ranges over a function, and the loops about it. Conditions: those that each names. -/
set_option linter.all false
set_option linter.unusedSimpArgs false
set_option linter.unusedVariables false
namespace Go.Proofs.YtlhdeofkhajigaaGreat
namespace Am
open Go Go.RowKit

section
variable {P:Program} {cf:Cfg} {b:Base} {N:Nat} {Q:Exit→St→Prop} {X:St}
/-- what holds from b' on holds from b on, but for the frame's marks -/
theorem RA.back {b':Base} {φ:Nat→Value} {β:Nat→Nat→Prop} {M:Mem} {a:Act} {w:World} (h:RA P cf b' N φ β M X a w) (hx:Ext b b'):RA P cf b N φ β M X { a with defers:=b.ds } w :=
  ⟨h.cf,Mem.le_trans hx.le h.le,fun ad v e=>by
    rcases h.new ad v e with h1 | h1 | h1
    · exact hx.new ad v h1
    · exact .inr (.inl (Nat.le_trans hx.kept.size h1))
    · exact .inr (hx.S _ h1),h.hi,h.t,h.lt,fun i g hi hg=>by
    rcases h.own i g hi hg with h1 | h1
    · exact .inl (Nat.le_trans hx.kept.size h1)
    · exact hx.S g h1,h.size,hx.kept.trans h.below hx.S,⟨by rw [← hx.fx];exact h.fix.1,fun i hi=>(h.fix.2 i (by rw [hx.fx];exact hi)).trans (hx.fix i hi)⟩,rfl⟩
end
end Am
end Go.Proofs.YtlhdeofkhajigaaGreat
/- Regions whose operations turn no memory, in whatever fence, and the call of a round. Conditions: those that each names. -/
set_option linter.all false
set_option linter.unusedSimpArgs false
set_option linter.unusedVariables false
namespace Go.Proofs.YtlhdeofkhajigaaGreat
namespace Am
open Go Go.RowKit

end Am
end Go.Proofs.YtlhdeofkhajigaaGreat
