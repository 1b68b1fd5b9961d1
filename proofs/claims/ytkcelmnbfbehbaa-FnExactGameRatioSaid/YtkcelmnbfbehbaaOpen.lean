/- Arguments that come in: what a slice of ints, a slice of such, and so on, read as. Conditions: none. -/
import Derived.Test.YtkcelmnbfbehbaaLawEnd
import Derived.Deep.Matrix
set_option linter.all false
set_option linter.unusedSimpArgs false
set_option linter.unusedVariables false
namespace Go.Proofs.Ytkcelmnbfbehbaa
open Go.ChangeShapes Go.WideShapes Go.ChangeAt Go.RowKit Go.Deep

/-- a number that an int can be -/
def I64 (n:Int):Prop := -9223372036854775808≤n∧n≤9223372036854775807
theorem i64_of {n:Int} (h:(Lit.int .i64 n).wf=true):I64 n:=by
  simpa [Lit.wf,IntKind.min,IntKind.max,IntKind.signed,IntKind.bits,I64] using h

section
variable {H:Type} {enc:TypeId×Value→H} {P:Program} {w:World} {base:Nat} {held:Bool}
theorem openI {t e:TypeId} {fuel:Nat} {cs:List Value} {y:DataW H×List MemPlace} (ht:P.underlying t=some (.slice e)) (he:P.underlying e=some (.int .i64)) (hc:P.cellsOf e=1)
    (h:DataW.trod enc P w base (fun _=>true) held fuel t cs=some y):∃ v xs,cs=[v]∧SlI w v xs∧∀ n∈xs,I64 n:=by
  rcases open_ints ht he hc h with ⟨rfl,_⟩ | ⟨a,len,cap,zs,rfl,_,hl,hm,hz,_,hcell,hwf⟩
  · exact ⟨_,[],rfl,SlI.nil_,fun n h=>by simp at h⟩
  · simp only [if_true] at hz
    have hlen:(zs.take len).length=len:=by simp;omega
    refine ⟨_,zs.take len,rfl,⟨some a,cap,by rw [hlen],by omega,by simpa [maxLen] using hm,fun _=>⟨a,rfl,fun j hj => ?_⟩⟩,fun n hn=>i64_of (hwf n (List.mem_of_mem_take hn))⟩
    have hj':j<(zs.take len).length:=by simpa using hj
    rw [hcell j (by omega)]
    simp [List.getD_eq_getElem?_getD,List.getElem?_eq_getElem (show j<zs.length by omega)]
theorem openO {α:Type} {R:World→Value→α→Prop} {Q:α→Prop} {t e:TypeId} {fuel:Nat} {cs:List Value} {y:DataW H×List MemPlace} (ht:P.underlying t=some (.slice e)) (hc:P.cellsOf e=1)
    (hR:∀ (n:Nat) (cs':List Value) (y':DataW H×List MemPlace),DataW.trod enc P w base (fun _=>true) held n e cs'=some y'→∃ v x,cs'=[v]∧R w v x∧Q x)
    (h:DataW.trod enc P w base (fun _=>true) held fuel t cs=some y):∃ v xs,cs=[v]∧SlO R w v xs∧∀ x∈xs,Q x:=by
  rcases open_slice1 ht hc h with ⟨rfl,_⟩ | ⟨a,len,cap,m,n,V,D,Pl,rfl,_,hl,hm,hmm,_,hx⟩
  · exact ⟨_,[],rfl,⟨none,0,[],rfl,by simp,by omega,rfl,RdV.nil,fun j h=>by simp at h⟩,fun x h=>by simp at h⟩
  · simp only [if_true] at hmm
    have hel:∀ j,j<len→∃ x,w.cell? (a.add j)=some (V j)∧R w (V j) x∧Q x:=fun j hj=>by
      obtain ⟨h1,h2⟩:=hx j (by omega)
      obtain ⟨v,x,e1,h3,h4⟩:=hR _ _ _ h2
      simp only [List.cons.injEq,and_true] at e1
      subst e1
      exact ⟨x,h1,h3,h4⟩
    let f:(j:Nat)→j<len→α:=fun j hj=>(hel j hj).choose
    have hf:∀ j (hj:j<len),w.cell? (a.add j)=some (V j)∧R w (V j) (f j hj)∧Q (f j hj):=fun j hj=>(hel j hj).choose_spec
    refine ⟨_,List.ofFn fun i:Fin len=>f i.1 i.2,rfl,⟨some a,cap,List.ofFn fun i:Fin len=>V i.1,by simp,by simpa using hl,by simpa [maxLen] using hm,by simp,fun _=>⟨a,rfl,fun j hj => ?_⟩,fun j hj hj' => ?_⟩,fun x hx => ?_⟩
    · have hj2:j<len:=by simpa using hj
      rw [(hf j hj2).1]
      simp
    · have hj2:j<len:=by simpa using hj
      simpa using (hf j hj2).2.1
    · rw [List.mem_ofFn] at hx
      obtain ⟨i,rfl⟩:=hx
      exact (hf i.1 i.2).2.2
end
end Go.Proofs.Ytkcelmnbfbehbaa
