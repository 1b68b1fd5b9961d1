/- Facts of lists. Conditions: none. -/
import Derived.Test.YtjblpcgkffhgfaaGreatMA
set_option linter.all false
set_option linter.unusedSimpArgs false
set_option linter.unusedVariables false
namespace Go.Proofs.YtjblpcgkffhgfaaGreat

theorem take_getD {α:Type} {rs:List α} {k:Nat} (h:k<rs.length) (d:α):rs.take (k+1)=rs.take k++[rs.getD k d]:=by
  rw [List.take_succ_eq_append_getElem h]
  simp [h]
end Go.Proofs.YtjblpcgkffhgfaaGreat
