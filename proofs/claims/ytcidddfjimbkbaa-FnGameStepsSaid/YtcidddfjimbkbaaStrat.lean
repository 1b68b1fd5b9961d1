/- Strategies on the machine. Conditions: games that are whole. -/
import Derived.Test.YtcidddfjimbkbaaChoice
set_option linter.all false
set_option linter.unusedSimpArgs false
set_option linter.unusedVariables false
namespace Go.Proofs.Ytcidddfjimbkbaa
open Go Go.RowKit Am

theorem strat_no {m s : List (List Int)} {g : GmT} {q : List (List Int)} {i : Nat} (hi : i < q.length) (h : servB m.length s (q.getD i []) = false) : stratB m s g q = false := by
  unfold stratB
  rw [all_no hi [] h, Bool.and_false]
def strA (m s : List (List Int)) (x : Int) (q : List (List Int)) : AV := .tup [.one (.b (.val (.bool (!(gmQ m s x).2 && stratB m s (gmQ m s x).1 q)))), .one (.b (.val (.bool (!(gmQ m s x).2))))]
end Go.Proofs.Ytcidddfjimbkbaa
