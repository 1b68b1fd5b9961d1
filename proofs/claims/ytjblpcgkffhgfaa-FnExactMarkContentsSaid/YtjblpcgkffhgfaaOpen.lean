/- Arguments that come in: what a slice of ints, a slice of such, and so on, read as. Conditions: none. -/
import Derived.Test.YtjblpcgkffhgfaaLawEnd
import Derived.Deep.Matrix
set_option linter.all false
set_option linter.unusedSimpArgs false
set_option linter.unusedVariables false
namespace Go.Proofs.Ytjblpcgkffhgfaa
open Go.ChangeShapes Go.WideShapes Go.ChangeAt Go.RowKit Go.Deep

/-- a number that an int can be -/
def I64 (n:Int):Prop := -9223372036854775808≤n∧n≤9223372036854775807
theorem i64_of {n:Int} (h:(Lit.int .i64 n).wf=true):I64 n:=by
  simpa [Lit.wf,IntKind.min,IntKind.max,IntKind.signed,IntKind.bits,I64] using h

section
variable {H:Type} {enc:TypeId×Value→H} {P:Program} {w:World} {base:Nat} {held:Bool}
theorem openI {t e:TypeId} {fuel:Nat} {cs:List Value} {y:DataW H×List MemPlace} (ht:P.underlying t=some (.slice e)) (he:P.underlying e=some (.int .i64)) (hc:P.cellsOf e=1)
    (h:DataW.trod enc P w base (fun _=>true) held fuel t cs=some y):∃ v xs,cs=[v]∧SlI w v xs∧∀ n∈xs,I64 n:=by
  rcases open_ints ht he hc h with ⟨rfl,_⟩ | ⟨a,len,cap,zs,rfl,_,hl,hm,hz,_,hcell,hwf⟩
  · exact ⟨_,[],rfl,SlI.nil_,fun n h=>by simp at h⟩
  · simp only [if_true] at hz
    have hlen:(zs.take len).length=len:=by simp;omega
    refine ⟨_,zs.take len,rfl,⟨some a,cap,by rw [hlen],by omega,by simpa [maxLen] using hm,fun _=>⟨a,rfl,fun j hj => ?_⟩⟩,fun n hn=>i64_of (hwf n (List.mem_of_mem_take hn))⟩
    have hj':j<(zs.take len).length:=by simpa using hj
    rw [hcell j (by omega)]
    simp [List.getD_eq_getElem?_getD,List.getElem?_eq_getElem (show j<zs.length by omega)]
end
end Go.Proofs.Ytjblpcgkffhgfaa
