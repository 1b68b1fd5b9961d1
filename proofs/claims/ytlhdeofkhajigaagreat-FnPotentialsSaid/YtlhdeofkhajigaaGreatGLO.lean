/- The library's slices.Backward over a slice of edges: what it yields. Conditions: those that each names. -/
import Derived.Test.YtlhdeofkhajigaaGreatGAX
import Derived.Test.YtlhdeofkhajigaaGreatGRL
import Derived.Test.YtlhdeofkhajigaaGreatGED
import Derived.Test.YtlhdeofkhajigaaGreatGEX
set_option linter.all false
set_option linter.unusedSimpArgs false
set_option linter.unusedVariables false
namespace Go.Proofs.YtlhdeofkhajigaaGreat
open Am Go Go.RowKit

end Go.Proofs.YtlhdeofkhajigaaGreat
/- impl.longest: its rounds are those of the edges from the last to the first. Conditions: edges between nodes, weights that are not large. -/
set_option linter.all false
set_option linter.unusedSimpArgs false
set_option linter.unusedVariables false
namespace Go.Proofs.YtlhdeofkhajigaaGreat
open Am Go Go.RowKit

end Go.Proofs.YtlhdeofkhajigaaGreat
/- Potentials, on the machine: the program's. Conditions: those of a whole graph of pairs. -/
set_option linter.all false
set_option linter.unusedSimpArgs false
set_option linter.unusedVariables false
namespace Go.Proofs.YtlhdeofkhajigaaGreat
open Am Go Go.RowKit

/-- the least potential, if there is one -/
def PotR (E:List (List Int)) (wt:List Int→Int) (n:Nat) (R:BF→BF) (r:Option (List Int)):Prop:=(∃ t,EndsAt R n t∧r=some (rnd R n (t+1)).num)∨(NeverEnds R n∧r=none)
theorem potR_ex (E:List (List Int)) (wt:List Int→Int) (n:Nat) (R:BF→BF):∃ r,PotR E wt n R r:=by
  rcases ends_or R n with ⟨t,ht⟩ | h
  · exact ⟨_,.inl ⟨t,ht,rfl⟩⟩
  · exact ⟨_,.inr ⟨h,rfl⟩⟩
theorem ends_least {E:List (List Int)} {wt:List Int→Int} {n t:Nat} {R:BF→BF} (hR:∀ s t,BI E wt n s t→BI E wt n (R s) (t+1)) (h:EndsAt R n t):PotE E wt (nbN (rnd R n (t+1)))∧(∀ v,0≤nbN (rnd R n (t+1)) v)∧(∀ L,PotE E wt L→(∀ v,0≤L v)→∀ v,nbN (rnd R n (t+1)) v≤L v)∧(rnd R n (t+1)).num.length=n :=
  ⟨h.pot hR,(rnd_bi hR _).nn,(rnd_bi hR _).le,(rnd_bi hR _).bl.num⟩
end Go.Proofs.YtlhdeofkhajigaaGreat
/- FindPotential, on the machine: the program's and the reference's, as the law wants them. Conditions: none. -/
set_option linter.all false
set_option linter.unusedSimpArgs false
set_option linter.unusedVariables false
namespace Go.Proofs.YtlhdeofkhajigaaGreat
open Go Go.RowKit Am

noncomputable def potT (E:List (List Int)) (a:Int×Int) (n:Nat):Option (List Int) := @Classical.epsilon _ ⟨none⟩ fun r=>PotR E (wtR a.1 a.2) n (jxR (wtR a.1 a.2) E) r
theorem potT_ok (E:List (List Int)) (a:Int×Int) (n:Nat):PotR E (wtR a.1 a.2) n (jxR (wtR a.1 a.2) E) (potT E a n):=Classical.epsilon_spec (p:=fun r=>PotR E (wtR a.1 a.2) n (jxR (wtR a.1 a.2) E) r) (potR_ex _ _ _ _)
noncomputable def ptO (m s nx:List (List Int)) (x:Int) (a:Int×Int):Option (List Int):=bif (prQ m s nx x).2 || !ratioB a then none else potT (egs (prQ m s nx x).1.rows) a (prQ m s nx x).1.list.length
end Go.Proofs.YtlhdeofkhajigaaGreat
/- FindPotential, as its law wants it. Conditions: none. -/
set_option linter.all false
set_option linter.unusedSimpArgs false
set_option linter.unusedVariables false
namespace Go.Proofs.YtlhdeofkhajigaaGreat
open Go Go.RowKit Am

end Go.Proofs.YtlhdeofkhajigaaGreat
