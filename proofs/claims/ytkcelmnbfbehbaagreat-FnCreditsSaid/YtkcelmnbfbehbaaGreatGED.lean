/- The edges of a graph of pairs: what is known of them. Conditions: a graph that is whole. -/
import Derived.Test.YtkcelmnbfbehbaaGreatZZGraph
import Derived.Test.YtkcelmnbfbehbaaGreatZZCB
import Derived.Test.YtkcelmnbfbehbaaGreatRatP
import Derived.Test.YtkcelmnbfbehbaaGreatZAm21
set_option linter.all false
namespace Go.Proofs.YtkcelmnbfbehbaaGreat
open Go Go.RowKit Am
structure EgI (E:List (List Int)) (n:Nat):Prop where
 len:E.length<=2400
 nle:n<=600
 at_:∀ e∈E,0<=e.getD 0 0/\e.getD 0 0<n/\0<=e.getD 1 0/\e.getD 1 0<n
theorem EgI.ed {E:List (List Int)} {n:Nat} (h:EgI E n):vZ E n:=fun e he=>by
 have:=h.at_ e he
 unfold efr eto
 omega
theorem BL.jx1 {E:List (List Int)} {n:Nat} {wt:List Int->Int} {s:BF} {old:List Int} (h:BL E n s) {k:Nat} (hk:k<E.length):BL E n (jx1 wt E old k s):=by
 unfold Go.Proofs.YtkcelmnbfbehbaaGreat.jx1
 split
 ·exact h.set hk _ _
 ·exact h
def aeL (E:List (List Int)) (wt:List Int->Int) (n:Nat) (R:BF->BF) (r:Int×Int×Bool):Prop :=
 (∃ t,H9 R n t/\r=(0,0,false))\/(uw R n/\∃ (v:Nat) (p:Nat),(rnd R n (n+1)).last=v/\v<n/\(∀ j,j<=n->nbX E (rnd R n (n+1)).by_ (itr (fP (nbX E (rnd R n (n+1)).by_)) j v)≠none)/\TA E wt n (rnd R n (n+1)).by_ (itr (fP (nbX E (rnd R n (n+1)).by_)) n v) p /\
  r=(aQ iq (F5 (nbX E (rnd R n (n+1)).by_) (itr (fP (nbX E (rnd R n (n+1)).by_)) n v) p),aQ fG (F5 (nbX E (rnd R n (n+1)).by_) (itr (fP (nbX E (rnd R n (n+1)).by_)) n v) p),true))
end Go.Proofs.YtkcelmnbfbehbaaGreat
