/- A nil slice in a variable is a slice without elements. Conditions: none. -/
import Derived.Test.YtjblpcgkffhgfaaGreatKitG
set_option linter.all false
set_option linter.unusedSimpArgs false
set_option linter.unusedVariables false
namespace Go.Proofs.YtjblpcgkffhgfaaGreat
namespace Am
open Go Go.RowKit

theorem awp_nilT {P:Program} {cf:Cfg} {b:Base} {N:Nat} {X:St} {Q:Exit→St→Prop} {c:Code} (t:Nat) (d:Cn) (ht:X.T t=(true,.val (.slice none 0 0))) (h0:d.len=0) (hok:d.ok) (h:awp P cf b N c Q ⟨X.T.put (some t) (true,.sl d),X.H⟩):awp P cf b N c Q X:=fun a w ⟨φ,β,M,hR⟩=>by
  have e1:∀ s,(X.T.put (some t) (true,AV.sl d)) s=bif Nat.beq s t then (true,AV.sl d) else X.T s:=fun s=>rfl
  refine h a w ⟨φ,β,M,hR.cf,hR.le,hR.new,hR.hi,fun s => ?_,fun s => ?_,hR.own,hR.size,hR.below,hR.fix,hR.defers⟩
  · dsimp only;rw [e1]
    cases hs:Nat.beq s t with
    | false=>exact hR.t s
    | true =>
      rw [Nat.eq_of_beq_eq_true hs]
      refine ⟨fun _ => ?_,fun h=>by cases h⟩
      have h1:=(hR.t t).1 (by rw [ht])
      rw [ht] at h1
      have h2:a.tmps.getD t undef = .slice none 0 0:=h1
      rw [h2]
      exact nil_rel h0 hok
  · dsimp only;rw [e1]
    cases hs:Nat.beq s t with
    | false=>exact hR.lt s
    | true=>exact AV.lt_one.2 rfl
/-- branches that meet: chg has turned, ss has not, and owned memory is H' -/
theorem awp_mid {P:Program} {cf:Cfg} {b:Base} {N:Nat} {X:St} {K:St→Prop} {Q:Exit→St→Prop} {c:Code} (chg:List (Nat×Bool×AV)) (ss:List Nat) (H':List Ob) (h1:awp P cf b N c (thenQ (fun X'=>leK (chg++kept X.T ss) H' X'∨∃ n,b.fx.length≤n∧leT n (chg++kept X.T ss) H' X') Q) X) (h2:K ⟨tab (chg++kept X.T ss),H'⟩):awp P cf b N c (thenQ K Q) X:=fun a w hR=>by
  refine Code.wp_mono (fun e a' w' ⟨X',k1,k2⟩ => ?_) (h1 a w hR)
  cases e with
  | normal =>
    rcases k1 with k1 | ⟨n,hn,k1⟩
    · exact ⟨_,h2,k2.leK k1⟩
    · exact ⟨_,h2,k2.le (k1.le hn)⟩
  | _=>exact ⟨X',k1,k2⟩
end Am
end Go.Proofs.YtjblpcgkffhgfaaGreat
