/- Tables of distances: the plain laws. Conditions: none. -/
import Derived.Test.YtjblpcgkffhgfaaGreatGBA
set_option linter.all false
set_option linter.unusedSimpArgs false
set_option linter.unusedVariables false
namespace Go.Proofs.YtjblpcgkffhgfaaGreat

def at2 (m:List (List Int)) (x y:Nat):Int:=(m.getD x []).getD y 0
end Go.Proofs.YtjblpcgkffhgfaaGreat
/- Weights: whether numbers are in a range, their sum, their greatest, by the program's and the reference's functions. Conditions: bounds where sums are made. -/
set_option linter.all false
set_option linter.unusedSimpArgs false
set_option linter.unusedVariables false
namespace Go.Proofs.YtjblpcgkffhgfaaGreat
open Go.RowKit

/-- are all numbers in lo..hi -/
def allIn (lo hi:Int) (xs:List Int):Bool:=xs.all fun x=>rng x lo hi
theorem allIn_iff {lo hi:Int} {xs:List Int}:allIn lo hi xs=true↔∀ x∈xs,lo≤x∧x≤hi:=by simp [allIn,rng]
theorem allIn_no {lo hi:Int} {xs:List Int} {x:Int} (h:x∈xs) (hx:rng x lo hi=false):allIn lo hi xs=false:=by
  rw [Bool.eq_false_iff]
  intro hh
  have:=allIn_iff.1 hh x h
  rw [rng_yes this.1 this.2] at hx
  cases hx

end Go.Proofs.YtjblpcgkffhgfaaGreat
/- Algorithms, mixtures: the plain laws. Conditions: none. -/
set_option linter.all false
set_option linter.unusedSimpArgs false
set_option linter.unusedVariables false
namespace Go.Proofs.YtjblpcgkffhgfaaGreat

end Go.Proofs.YtjblpcgkffhgfaaGreat
