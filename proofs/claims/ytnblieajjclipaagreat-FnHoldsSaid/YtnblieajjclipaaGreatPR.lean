/- The pairs of an algorithm and their edges: the plain laws. Conditions: problems and algorithms that are right. -/
import Derived.Test.YtnblieajjclipaaGreatGB
set_option linter.all false
namespace Go.Proofs.YtnblieajjclipaaGreat
def nxS (next:List (List Int)) (st r:Nat):Int:=at2 next st r
def egG (m s next:List (List Int)) (t:dD) (i st w:Nat) (l:List (List Int)) (r:Nat):List Int:=[(i:Int),sZ l (mD t w r (nxS next st r)),Aq m s st r (nxS next st r),Dq t w r]
def Lh (m s next:List (List Int)) (t:dD) (i st w:Nat) (l:List (List Int)):Nat->List (List Int)×List (List Int)
 | 0=>(l,[])
 | r+1=>(kT (Lh m s next t i st w l r).1 (mD t w r (nxS next st r)),(Lh m s next t i st w l r).2++[egG m s next t i st w (Lh m s next t i st w l r).1 r])
structure PrT where
 list:List (List Int)
 rows:List (List (List Int))
def Qr (g:PrT) (i:Nat):Nat:=((g.list.getD i []).getD 0 0).toNat
def Y9 (g:PrT) (i:Nat):Nat:=((g.list.getD i []).getD 1 0).toNat
def prT (m s next:List (List Int)) (t:dD) (x:Nat):Nat->PrT
 | 0=>⟨[[(x:Int),0]],[]⟩
 | i+1=>⟨(Lh m s next t i (Qr (prT m s next t x i) i) (Y9 (prT m s next t x i) i) (prT m s next t x i).list s.length).1,(prT m s next t x i).rows++[(Lh m s next t i (Qr (prT m s next t x i) i) (Y9 (prT m s next t x i) i) (prT m s next t x i).list s.length).2]⟩
def Eb (m s next:List (List Int)) (t:dD) (x:Nat):Nat->Nat->PrT×Bool
 | 0,i=>(prT m s next t x i,true)
 | f+1,i=>if i<(prT m s next t x i).list.length then (if 600<(prT m s next t x (i+1)).list.length then (prT m s next t x (i+1),true) else Eb m s next t x f (i+1)) else (prT m s next t x i,false)
def Zz (n f:Nat) (c:List Int):Prop:=∃ (k:Nat) (a b:Int),c=[(f:Int),(k:Int),a,b]/\k<n/\0<=a/\a<=119/\0<=b/\b<=119
theorem Zz.mono {n n' f:Nat} {c:List Int} (h:n<=n') (k:Zz n f c):Zz n' f c:=by
 obtain ⟨k,a,b,h1,h2,h3⟩:=k
 exact ⟨k,a,b,h1,by omega,h3⟩
structure PrI (m s next:List (List Int)) (t:dD) (x i:Nat):Prop where
 le:i<=600
 len:(prT m s next t x i).list.length<=600
 lt:∀ j,j<i->j<(prT m s next t x j).list.length
 run:Eb m s next t x 1000 0=Eb m s next t x (1000-i) i
section
variable {m s next:List (List Int)} {t:dD} {x i:Nat}
theorem PrI.first (m s next:List (List Int)) (t:dD) (x:Nat):PrI m s next t x 0:=⟨by omega,by simp [prT],fun j hj=>by omega,rfl⟩
theorem PrI.more (h:PrI m s next t x i) (h1:i<(prT m s next t x i).list.length):1000-i=(1000-(i+1))+1/\∀ j,j<i+1->j<(prT m s next t x j).list.length :=
 ⟨by have:=h.le;omega,fun j hj=>by
  by_cases e:j=i
  ·rw [e];exact h1
  ·exact h.lt j (by omega)⟩
theorem PrI.large (h:PrI m s next t x i) (h1:i<(prT m s next t x i).list.length) (h2:600<(prT m s next t x (i+1)).list.length):Eb m s next t x 1000 0=(prT m s next t x (i+1),true):=by
 rw [h.run,(h.more h1).1,Eb,if_pos h1,if_pos h2]
theorem PrI.done (h:PrI m s next t x i) (h1:¬ i<(prT m s next t x i).list.length):Eb m s next t x 1000 0=(prT m s next t x i,false):=by
 have:=h.le
 rw [h.run,show 1000-i=(1000-(i+1))+1 by omega,Eb,if_neg h1]
end
def c3 (c:List Int):List Int:=[c.getD 1 0,c.getD 2 0,c.getD 3 0]
end Go.Proofs.YtnblieajjclipaaGreat
namespace Go.Proofs.YtnblieajjclipaaGreat
open Go Go.RowKit Am
end Go.Proofs.YtnblieajjclipaaGreat
