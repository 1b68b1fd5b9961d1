/- The edges of a graph of pairs: what is known of them. Conditions: a graph that is whole. -/
import Derived.Test.YtnblieajjclipaaGreatZZStratP
import Derived.Test.YtnblieajjclipaaGreatRatP
set_option linter.all false
namespace Go.Proofs.YtnblieajjclipaaGreat
open Go Go.RowKit Am
structure EgI (E:List (List Int)) (n:Nat):Prop where
 len:E.length<=2400
 nle:n<=600
 at_:∀ e∈E,0<=e.getD 0 0/\e.getD 0 0<n/\0<=e.getD 1 0/\e.getD 1 0<n
theorem EgI.ed {E:List (List Int)} {n:Nat} (h:EgI E n):vN E n:=fun e he=>by
 have:=h.at_ e he
 unfold efr eto
 omega
theorem BL.jx1 {E:List (List Int)} {n:Nat} {wt:List Int->Int} {s:BF} {old:List Int} (h:BL E n s) {k:Nat} (hk:k<E.length):BL E n (jx1 wt E old k s):=by
 unfold Go.Proofs.YtnblieajjclipaaGreat.jx1
 split
 ·exact h.set hk _ _
 ·exact h
def aez (E:List (List Int)) (wt:List Int->Int) (n:Nat) (R:BF->BF) (r:Int×Int×Bool):Prop :=
 (∃ t,Hf R n t/\r=(0,0,false))\/(tK R n/\∃ (v:Nat) (p:Nat),(rnd R n (n+1)).last=v/\v<n/\(∀ j,j<=n->nbX E (rnd R n (n+1)).by_ (itr (fK (nbX E (rnd R n (n+1)).by_)) j v)≠none)/\Ti E wt n (rnd R n (n+1)).by_ (itr (fK (nbX E (rnd R n (n+1)).by_)) n v) p /\
  r=(aN gu (Fq (nbX E (rnd R n (n+1)).by_) (itr (fK (nbX E (rnd R n (n+1)).by_)) n v) p),aN dS (Fq (nbX E (rnd R n (n+1)).by_) (itr (fK (nbX E (rnd R n (n+1)).by_)) n v) p),true))
end Go.Proofs.YtnblieajjclipaaGreat
