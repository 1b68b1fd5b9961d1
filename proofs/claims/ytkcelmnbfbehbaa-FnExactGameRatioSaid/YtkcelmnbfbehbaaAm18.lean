/- A nil slice in a variable is a slice without elements. Conditions: none. -/
import Derived.Test.YtkcelmnbfbehbaaKitG
set_option linter.all false
set_option linter.unusedSimpArgs false
set_option linter.unusedVariables false
namespace Go.Proofs.Ytkcelmnbfbehbaa
namespace Am
open Go Go.RowKit

/-- .. at the end of a block that is left -/
theorem awp_midB {P:Program} {cf:Cfg} {b:Base} {N:Nat} {X:St} {K:St→Prop} {Q:Exit→St→Prop} {c:Code} (id:Nat) (chg:List (Nat×Bool×AV)) (ss:List Nat) (H':List Ob) (h1:awp P cf b N c (inBlockQ id (thenQ (fun X'=>leK (chg++kept X.T ss) H' X'∨∃ n,b.fx.length≤n∧leT n (chg++kept X.T ss) H' X') Q)) X) (h2:K ⟨tab (chg++kept X.T ss),H'⟩):awp P cf b N c (inBlockQ id (thenQ K Q)) X:=fun a w hR=>by
  refine Code.wp_mono (fun e a' w' ⟨X',k1,k2⟩ => ?_) (h1 a w hR)
  have key:∀ X',(leK (chg++kept X.T ss) H' X'∨∃ n,b.fx.length≤n∧leT n (chg++kept X.T ss) H' X')→R P cf b N X' a' w'→∃ X'',K X''∧R P cf b N X'' a' w':=fun X' k1 k2=>by
    rcases k1 with k1 | ⟨n,hn,k1⟩
    · exact ⟨_,h2,k2.leK k1⟩
    · exact ⟨_,h2,k2.le (k1.le hn)⟩
  cases e with
  | normal=>exact key X' k1 k2
  | exit id' =>
    by_cases he:id'=id
    · simp only [inBlockQ,if_pos he,thenQ] at k1 ⊢
      exact key X' k1 k2
    · simp only [inBlockQ,if_neg he] at k1 ⊢
      exact ⟨X',k1,k2⟩
  | _=>exact ⟨X',k1,k2⟩
end Am
end Go.Proofs.Ytkcelmnbfbehbaa
