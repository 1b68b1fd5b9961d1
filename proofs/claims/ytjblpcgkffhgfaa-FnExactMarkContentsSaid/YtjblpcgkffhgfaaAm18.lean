/- A nil slice in a variable is a slice without elements. Conditions: none. -/
import Derived.Test.YtjblpcgkffhgfaaKitG
set_option linter.all false
set_option linter.unusedSimpArgs false
set_option linter.unusedVariables false
namespace Go.Proofs.Ytjblpcgkffhgfaa
namespace Am
open Go Go.RowKit

/-- branches that meet: chg has turned, ss has not, and owned memory is H' -/
theorem awp_mid {P:Program} {cf:Cfg} {b:Base} {N:Nat} {X:St} {K:St→Prop} {Q:Exit→St→Prop} {c:Code} (chg:List (Nat×Bool×AV)) (ss:List Nat) (H':List Ob) (h1:awp P cf b N c (thenQ (fun X'=>leK (chg++kept X.T ss) H' X'∨∃ n,b.fx.length≤n∧leT n (chg++kept X.T ss) H' X') Q) X) (h2:K ⟨tab (chg++kept X.T ss),H'⟩):awp P cf b N c (thenQ K Q) X:=fun a w hR=>by
  refine Code.wp_mono (fun e a' w' ⟨X',k1,k2⟩ => ?_) (h1 a w hR)
  cases e with
  | normal =>
    rcases k1 with k1 | ⟨n,hn,k1⟩
    · exact ⟨_,h2,k2.leK k1⟩
    · exact ⟨_,h2,k2.le (k1.le hn)⟩
  | _=>exact ⟨X',k1,k2⟩
end Am
end Go.Proofs.Ytjblpcgkffhgfaa
