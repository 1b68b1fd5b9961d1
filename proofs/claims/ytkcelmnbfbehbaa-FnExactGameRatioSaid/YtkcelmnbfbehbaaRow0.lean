/- A call that hands back a row of its own. Conditions: none. -/
import Derived.Test.YtkcelmnbfbehbaaME
import Derived.Laws.CopyOwn
import Derived.Deep.OwnRows
import Derived.Deep.RegionLaw
set_option linter.all false
set_option linter.unusedSimpArgs false
set_option linter.unusedVariables false
namespace Go.Proofs.Ytkcelmnbfbehbaa
open Go Go.RowKit Am

theorem AV.free_phi {φ φ':Nat→Value} {M:Am.Mem} {x:AV} {u:Value} (hf:x.free=true) (h:x.rel φ M u):x.rel φ' M u:=AV.rel_imp h fun y hy u hu=>Lf.rel_phi (n:=0) (free_lt hf 0 y hy) (fun i hi=>absurd hi (Nat.not_lt_zero i)) hu
theorem info_int:(Try.prog.info? 3).map (fun i=>(i.zero,i.size,i.bytes))=some (some (.int .i64 0),1,8):=by kernel_rfl
/-- a call that hands back a row of its own -/
theorem doesH_row {P:Program} {f:Nat} {args:List AV} {e:Nat} {c:Cn} (hent:∀ (av:Array Value) (W:World),(callFunc f av).run P W = .ok (.enter f av) W)
    (h:∀ (M:Am.Mem) (w:World) (us:List Value),Mem.in_ M w→ArgsRel M args us→Calls P f us.toArray w fun ex w'=>∃ u vs,ex = .returned u∧w'.ownsRow 0 e c.w u c.len vs∧c.rel M vs∧(∀ g,blk u=some g→w.heap.size≤g∧g<w'.heap.size)∧Below w.heap.size w w') (hfree:args.all AV.free=true):DoesH P f args [] [] (.lf (.own 0)) [.row e c]:=by
  refine ⟨hent,fun φ β M w us hm ha=>(h M w us hm.mem ⟨ha.1,fun j h1 h2=>AV.free_phi (List.all_eq_true.1 hfree _ (List.getElem_mem h1)) (ha.2 j h1 h2)⟩).mono ?_⟩
  rintro ex w' ⟨u,vs,rfl,h1,h2,h3,h4⟩
  refine ⟨u,fun _=>u,fun i g=>i=0∧blk u=some g,M,rfl,Am.Mem.le_refl _,fun ad v e => .inl e,⟨fun a v e => ?_,fun i o hi => ?_,fun i g hi hg a v e => ?_,fun i j g _ _ h5 h6=>h5.1.trans h6.1.symm,fun i g hi hg=>(h3 g hg.2).2,fun i o hi => ?_⟩,rfl,fun y hy => ?_,Nat.zero_le _,fun i hi=>by simp at hi,fun i g _ hg => .inl (h3 g hg.2).1,?_⟩
  · have h5:=hm.mem a v e
    exact (h4.cell (block_lt h5)).trans h5
  · match i,hi with
    | 0,hi =>
      simp at hi
      subst hi
      exact ⟨vs,h1,h2,fun g hg=>⟨rfl,hg⟩⟩
    | i+1,hi=>simp at hi
  · have:=block_lt (hm.mem a v e)
    have:=(h3 g hg.2).1
    omega
  · match i,hi with
    | 0,hi =>
      simp at hi
      subst hi
      trivial
    | i+1,hi=>simp at hi
  · simp [AV.leaves,TV.leaves] at hy
    subst hy
    rfl
  · exact ⟨h4.os,h4.tape,h4.output,h4.size,fun k hk _=>h4.block k hk⟩
end Go.Proofs.Ytkcelmnbfbehbaa
