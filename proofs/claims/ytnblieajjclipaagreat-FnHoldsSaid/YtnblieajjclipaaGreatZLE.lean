/- What every law's proof ends with: a call that returns true and turns nothing that was there meets the law's row. Conditions: the row lists no variables. -/
import Derived.OpenShut
import Derived.Deep.Matrix
import Derived.Test.YtnblieajjclipaaGreatME
import Derived.Test.YtnblieajjclipaaGreatRows
set_option linter.all false
namespace Go.Proofs.YtnblieajjclipaaGreat
open Go.ChangeShapes Go.WideShapes Go.ChangeAt Go.RowKit
theorem vg {H:Type} {enc:TypeId×Value->H} {P:Program} (hl:laidOutB P=true) {W W':World} (hb:Below W.heap.size W W') :
  ∀ {ts:List TypeId} {vs:List Value} {ds:List (DataW H)} {ps:List MemPlace},(∀ t∈ts,P.readableRec t=true/\t<P.types.size)->(∀ x∈ps,x.block<W.heap.size) ->
   DataW.TrodAll enc P W 0 (fun _=>true) true ts vs ds ps->DataW.TrodAll enc P W' 0 (fun b=>decide (b<W.heap.size)) true ts vs ds ps
 | [],[],[],_,_,_,h=>h
 | t::ts,v::vs,d::ds,ps,hr,hlt,⟨p,q,h1,h2,e⟩=>by
  subst e
  exact ⟨p,q,Below.trod hl (hr t (by simp)).1 (hr t (by simp)).2 h1 hb fun x hx=>hlt x (by simp [hx]),vg hl hb (fun t' ht=>hr t' (by simp [ht])) (fun x hx=>hlt x (by simp [hx])) h2,rfl⟩
 | [],_::_,_,_,_,_,h=>by simp [DataW.TrodAll] at h
 | [],[],_::_,_,_,_,h=>by simp [DataW.TrodAll] at h
 | _::_,[],_,_,_,_,h=>by simp [DataW.TrodAll] at h
 | _::_,_::_,[],_,_,_,h=>by simp [DataW.TrodAll] at h
theorem Ve {H:Type} {enc:TypeId×Value->H} {P:Program} {f:Func} {s:ChangeSpec} {tb:TypeId} {W W':World} {args:Array Value} {ds gs:List (DataW H)} {before:List MemPlace}
  (hl:laidOutB P=true) (hr:∀ t∈f.params.toList,P.readableRec t=true/\t<P.types.size) (hv:s.vars=[]) (hres:f.resultTypes=#[tb]) (htb:P.underlying tb=some .bool)
  (hW:DataW.Whole enc P f.params.toList s.vars false W args.toList ds gs before) (hs:s.fn H (ds++gs)={ results:=[.lit (.bool true)],args:=ds }) (hb:Below W.heap.size W W') :
  s.post enc P f false true false false W args (.bool true) W':=by
 have hlt:=hW.lt
 have hW':=hW
 obtain ⟨p,q,hA,hV,rfl,hz,hn⟩:=hW
 rw [hv] at hV
 obtain ⟨rfl,rfl⟩:=trodVars_none hV
 refine ⟨ds,[],p++[],[],p,[],hW',?_,?_,?_,hb.frame _,fun h=>by cases h⟩
 ·rw [hs,hres]
  exact trodAll_cons_mk (shut_bool htb true) trodAll_mk0
 ·rw [hs]
  exact vg hl hb hr (fun x hx=>hlt x (by simp [hx])) hA
 ·rw [hs,hv]
  rfl
end Go.Proofs.YtnblieajjclipaaGreat
namespace Go.Proofs.YtnblieajjclipaaGreat
open Go.ChangeShapes Go.WideShapes Go.ChangeAt Go.RowKit Go.Deep
def I64 (n:Int):Prop := -9223372036854775808<=n/\n<=9223372036854775807
end Go.Proofs.YtnblieajjclipaaGreat
namespace Go.Proofs.YtnblieajjclipaaGreat
open Go.ChangeShapes Go.WideShapes Go.ChangeAt Go.RowKit Go.Deep Am
section
variable {H:Type} {enc:TypeId×Value->H} {P:Program} {w:World} {base:Nat} {held:Bool}
theorem aeo {n:Int} (h:(Lit.int .u8 n).wf=true):0<=n/\n<256:=by
 have:=h
 simp [Lit.wf,IntKind.min,IntKind.max,IntKind.signed,IntKind.bits] at this
 omega
theorem aee {a:Addr} {cap:Nat} {ys:List Int} (hl:ys.length<=cap) (hm:cap<=9223372036854775807) (h:∀ j,j<ys.length->w.cell? (a.add j)=some (.int .u8 (ys.getD j 0))):SB w.cell? (.slice (some a) ys.length cap) ys:=by
 refine ⟨ys.map (Value.int .u8),⟨some a,cap,rfl,hl,hm,fun _=>⟨a,rfl,fun j hj =>?_⟩⟩,by simp,fun j o hj ho =>?_⟩
 ·have hj':j<ys.length:=by simpa using hj
  rw [h j hj']
  simp [List.getD_eq_getElem?_getD,List.getElem?_eq_getElem hj']
 ·obtain rfl:o=0:=by omega
  exact ⟨_,by simp [List.getElem?_eq_getElem hj];rfl,by simp [hj]⟩
theorem ZN {t e:TypeId} {fuel:Nat} {cs:List Value} {y:DataW H×List MemPlace} (ht:P.underlying t=some (.slice e)) (he:P.underlying e=some (.int .u8)) (hc:P.cellsOf e=1)
  (h:DataW.trod enc P w base (fun _=>true) held fuel t cs=some y):∃ v xs,cs=[v]/\SB w.cell? v xs/\∀ n∈xs,0<=n/\n<256:=by
 rcases open_ints ht he hc h with ⟨rfl,_⟩ | ⟨a,len,cap,zs,rfl,_,hl,hm,hz,_,hcell,hwf⟩
 ·exact ⟨_,[],rfl,⟨[],⟨none,0,rfl,by simp,by omega,by simp [RdM]⟩,by simp,fun j o hj=>by simp at hj⟩,fun n h=>by simp at h⟩
 ·simp only [if_true] at hz
  have hlen:(zs.take len).length=len:=by simp;omega
  have hs:SB w.cell? (.slice (some a) (zs.take len).length cap) (zs.take len):=aee (by omega) (by simpa [maxLen] using hm) fun j hj=>by
   rw [hcell j (by omega)]
   simp [List.getD_eq_getElem?_getD,List.getElem?_take,show j<len by omega]
  rw [hlen] at hs
  exact ⟨_,zs.take len,rfl,hs,fun n hn=>aeo (hwf n (List.mem_of_mem_take hn))⟩
end
end Go.Proofs.YtnblieajjclipaaGreat
namespace Go.Proofs.YtnblieajjclipaaGreat
open Go
theorem aeE:Tryz.prog.mayEnter=true:=by kernel_rfl
theorem acS:Tryz.prog.liftsFinal=Rows.fnExactFindHoldRow.lifted:=by kernel_rfl
theorem acT:Tryz.prog.make=some Rows.fnExactFindHoldRow.make:=by kernel_rfl
theorem Y2:laidOutB Tryz.prog=true:=by kernel_rfl
theorem acU:mapsRowed Tryz.prog=true:=by kernel_rfl
end Go.Proofs.YtnblieajjclipaaGreat
