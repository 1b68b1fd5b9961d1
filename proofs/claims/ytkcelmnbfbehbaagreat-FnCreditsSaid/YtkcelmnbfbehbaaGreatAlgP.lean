/- All algorithms of a problem, in order: the plain laws. Conditions: a problem that is right. -/
import Derived.Test.YtkcelmnbfbehbaaGreatGWO
set_option linter.all false
namespace Go.Proofs.YtkcelmnbfbehbaaGreat
theorem acB (s:List (List Int)) (n r:Nat):(srv s n r).Pairwise (·<·):=by
 unfold srv
 rw [List.pairwise_map]
 exact (List.pairwise_lt_range.filter _).imp fun h=>by omega
end Go.Proofs.YtkcelmnbfbehbaaGreat
