/- Sequences of requests and chances: are they right for a problem, by the program's functions. Conditions: none. -/
import Derived.Test.YtjblpcgkffhgfaaGreatPS
import Derived.IntWalk
import Derived.Test.YtjblpcgkffhgfaaGreatME
import Derived.Test.YtjblpcgkffhgfaaGreatOA
import Derived.Test.YtjblpcgkffhgfaaGreatGMA
set_option linter.all false
set_option linter.unusedSimpArgs false
set_option linter.unusedVariables false
namespace Go.Proofs.YtjblpcgkffhgfaaGreat
open Go.RowKit

def ChIn (w:World) (v:Value) (ws:List Int) (qs:List (List Int)):Prop:=∃ u1 u2,v = .agg #[u1,u2]∧SlI w u1 ws∧SlII w u2 qs
theorem ChIn.below {w w':World} {v:Value} {ws:List Int} {qs:List (List Int)} (h:ChIn w v ws qs) (hb:Below w.heap.size w w'):ChIn w' v ws qs:=by
  obtain ⟨u1,u2,e,h1,h2⟩:=h
  exact ⟨u1,u2,e,SlI.below h1 hb,SlII.below h2 hb⟩
end Go.Proofs.YtjblpcgkffhgfaaGreat
/- Sequences of requests, by the reference's function. Conditions: none. -/
set_option linter.all false
set_option linter.unusedSimpArgs false
set_option linter.unusedVariables false
namespace Go.Proofs.YtjblpcgkffhgfaaGreat
open Go.RowKit

end Go.Proofs.YtjblpcgkffhgfaaGreat
/- Costs, served states, sums, and what is started, on the machine. Conditions: problems that are right. -/
set_option linter.all false
set_option linter.unusedSimpArgs false
set_option linter.unusedVariables false
namespace Go.Proofs.YtjblpcgkffhgfaaGreat
open Go Go.RowKit Am

/-- other arguments that stand for the same -/
theorem Does.args {P:Program} {f:Nat} {xs ys:List AV} {r:Res} (h:Does P f ys r) (k:∀ M us,ArgsRel M xs us→ArgsRel M ys us):Does P f xs r:=⟨h.1,fun M w us hm ha=>h.2 M w us hm (k M us ha)⟩
theorem sum_getD (xs:List Int) (k:Nat):(xs.take (k+1)).sum=(xs.take k).sum+xs.getD k 0:=by
  by_cases h:k<xs.length
  · rw [sum_take_succ _ _ h];simp [h]
  · rw [List.take_of_length_le (by omega),List.take_of_length_le (by omega)];simp [h]
end Go.Proofs.YtjblpcgkffhgfaaGreat
