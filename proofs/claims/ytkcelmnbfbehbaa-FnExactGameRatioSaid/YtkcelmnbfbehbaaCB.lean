/- Walks along the edges of pairs, on the machine. Conditions: edges that lead to pairs. -/
import Derived.Test.YtkcelmnbfbehbaaGWI
import Derived.Test.YtkcelmnbfbehbaaListP
import Derived.Test.YtkcelmnbfbehbaaPR
import Derived.Test.YtkcelmnbfbehbaaGCR
set_option linter.all false
set_option linter.unusedSimpArgs false
set_option linter.unusedVariables false
namespace Go.Proofs.Ytkcelmnbfbehbaa
open Go Go.RowKit Am

abbrev fourE (c:List Int):AV := .tv (.agg [.b (.val (.int .i64 (c.getD 0 0))),.b (.val (.int .i64 (c.getD 1 0))),.b (.val (.int .i64 (c.getD 2 0))),.b (.val (.int .i64 (c.getD 3 0)))])
structure EdOK (E:List (List Int)) (K N:Nat):Prop where
  len:E.length=N*K
  n:N≤1000
  k:1≤K∧K≤10
  to:∀ c∈E,0≤c.getD 1 0∧c.getD 1 0<(N:Int)
theorem EdOK.at {E:List (List Int)} {K N:Nat} (h:EdOK E K N) {i r:Nat} (hi:i<N) (hr:r<K):i*K+r<E.length∧i*K≤10000:=by
  have h1:=Nat.mul_le_mul_right K (show i+1≤N by omega)
  rw [Nat.succ_mul] at h1
  have h2:i*K≤1000*10:=Nat.mul_le_mul (by have:=h.n;omega) h.k.2
  rw [h.len]
  omega
def toE (E:List (List Int)) (K p r:Nat):Nat:=((E.getD (p*K+r) []).getD 1 0).toNat
end Go.Proofs.Ytkcelmnbfbehbaa
/- The gain of a walk along the edges of pairs, on the machine. Conditions: edges that lead to pairs, and gains that are not large. -/
set_option linter.all false
set_option linter.unusedSimpArgs false
set_option linter.unusedVariables false
namespace Go.Proofs.Ytkcelmnbfbehbaa
open Go Go.RowKit Am

end Go.Proofs.Ytkcelmnbfbehbaa
