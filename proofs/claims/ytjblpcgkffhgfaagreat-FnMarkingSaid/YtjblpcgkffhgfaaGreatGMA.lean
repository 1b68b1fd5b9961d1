/- Sums and greatest numbers, by the program's and the reference's functions. Conditions: no partial sum leaves the range of an int. -/
import Derived.Test.YtjblpcgkffhgfaaGreatOA
set_option linter.all false
set_option linter.unusedSimpArgs false
set_option linter.unusedVariables false
namespace Go.Proofs.YtjblpcgkffhgfaaGreat
open Go.RowKit

theorem sum_take_succ (xs:List Int) (k:Nat) (h:k<xs.length):(xs.take (k+1)).sum=(xs.take k).sum+xs[k]:=by
  rw [List.take_succ_eq_append_getElem h,List.sum_append]
  simp
end Go.Proofs.YtjblpcgkffhgfaaGreat
/- Is a list a matrix: by the program's and the reference's functions. Conditions: none. -/
set_option linter.all false
set_option linter.unusedSimpArgs false
set_option linter.unusedVariables false
namespace Go.Proofs.YtjblpcgkffhgfaaGreat
open Go.RowKit

end Go.Proofs.YtjblpcgkffhgfaaGreat
/- Metrics: is a table of distances one, by the program's function. Conditions: none. -/
set_option linter.all false
set_option linter.unusedSimpArgs false
set_option linter.unusedVariables false
namespace Go.Proofs.YtjblpcgkffhgfaaGreat
open Go.RowKit

end Go.Proofs.YtjblpcgkffhgfaaGreat
