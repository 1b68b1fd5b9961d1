/- Arguments that come in: what a slice of bytes reads as. Conditions: none. -/
import Derived.Test.YtjblpcgkffhgfaaGreatOpen
import Derived.Test.YtjblpcgkffhgfaaGreatME
set_option linter.all false
set_option linter.unusedSimpArgs false
set_option linter.unusedVariables false
namespace Go.Proofs.YtjblpcgkffhgfaaGreat
open Go.ChangeShapes Go.WideShapes Go.ChangeAt Go.RowKit Go.Deep Am

section
variable {H:Type} {enc:TypeId×Value→H} {P:Program} {w:World} {base:Nat} {held:Bool}
theorem u8_of {n:Int} (h:(Lit.int .u8 n).wf=true):0≤n∧n<256:=by
  have:=h
  simp [Lit.wf,IntKind.min,IntKind.max,IntKind.signed,IntKind.bits] at this
  omega
theorem sb_mk {a:Addr} {cap:Nat} {ys:List Int} (hl:ys.length≤cap) (hm:cap≤9223372036854775807) (h:∀ j,j<ys.length→w.cell? (a.add j)=some (.int .u8 (ys.getD j 0))):SB w.cell? (.slice (some a) ys.length cap) ys:=by
  refine ⟨ys.map (Value.int .u8),⟨some a,cap,rfl,hl,hm,fun _=>⟨a,rfl,fun j hj => ?_⟩⟩,by simp,fun j o hj ho => ?_⟩
  · have hj':j<ys.length:=by simpa using hj
    rw [h j hj']
    simp [List.getD_eq_getElem?_getD,List.getElem?_eq_getElem hj']
  · obtain rfl:o=0:=by omega
    exact ⟨_,by simp [List.getElem?_eq_getElem hj];rfl,by simp [hj]⟩
theorem openBy {t e:TypeId} {fuel:Nat} {cs:List Value} {y:DataW H×List MemPlace} (ht:P.underlying t=some (.slice e)) (he:P.underlying e=some (.int .u8)) (hc:P.cellsOf e=1)
    (h:DataW.trod enc P w base (fun _=>true) held fuel t cs=some y):∃ v xs,cs=[v]∧SB w.cell? v xs∧∀ n∈xs,0≤n∧n<256:=by
  rcases open_ints ht he hc h with ⟨rfl,_⟩ | ⟨a,len,cap,zs,rfl,_,hl,hm,hz,_,hcell,hwf⟩
  · exact ⟨_,[],rfl,⟨[],⟨none,0,rfl,by simp,by omega,by simp [RdM]⟩,by simp,fun j o hj=>by simp at hj⟩,fun n h=>by simp at h⟩
  · simp only [if_true] at hz
    have hlen:(zs.take len).length=len:=by simp;omega
    have hs:SB w.cell? (.slice (some a) (zs.take len).length cap) (zs.take len):=sb_mk (by omega) (by simpa [maxLen] using hm) fun j hj=>by
      rw [hcell j (by omega)]
      simp [List.getD_eq_getElem?_getD,List.getElem?_take,show j<len by omega]
    rw [hlen] at hs
    exact ⟨_,zs.take len,rfl,hs,fun n hn=>u8_of (hwf n (List.mem_of_mem_take hn))⟩
end
end Go.Proofs.YtjblpcgkffhgfaaGreat
