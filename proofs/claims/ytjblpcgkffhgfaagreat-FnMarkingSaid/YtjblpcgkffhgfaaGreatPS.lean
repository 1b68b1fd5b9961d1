/- Problems: is a table of moves a metric, and are moves and serving costs a Problem, by the program's and the reference's functions. Conditions: none. -/
import Derived.Test.YtjblpcgkffhgfaaGreatPT
set_option linter.all false
set_option linter.unusedSimpArgs false
set_option linter.unusedVariables false
namespace Go.Proofs.YtjblpcgkffhgfaaGreat
open Go.RowKit

/-! ### Problems -/
def ProbIn (w:World) (v:Value) (m s:List (List Int)):Prop:=∃ u1 u2,v = .agg #[u1,u2]∧SlII w u1 m∧SlII w u2 s
theorem ProbIn.below {w w':World} {v:Value} {m s:List (List Int)} (h:ProbIn w v m s) (hb:Below w.heap.size w w'):ProbIn w' v m s:=by
  obtain ⟨u1,u2,e,h1,h2⟩:=h
  exact ⟨u1,u2,e,SlII.below h1 hb,SlII.below h2 hb⟩
end Go.Proofs.YtjblpcgkffhgfaaGreat
/- Problems, by the reference's functions. Conditions: none. -/
set_option linter.all false
set_option linter.unusedSimpArgs false
set_option linter.unusedVariables false
namespace Go.Proofs.YtjblpcgkffhgfaaGreat
open Go.RowKit

end Go.Proofs.YtjblpcgkffhgfaaGreat
