/- The least costs by the growths: the plain laws of offsets. Conditions: problems that are right. -/
import Derived.Test.YtkcelmnbfbehbaaGreatGWO
set_option linter.all false
namespace Go.Proofs.YtkcelmnbfbehbaaGreat
theorem Gg {m s:List (List Int)} {w:List Int} {l:List (List Int)} {r:Nat} {i:Nat} (h:i<(bU m s w l r).length):∀ d,(bU m s w l (r+d)).getD i []=(bU m s w l r).getD i []/\i<(bU m s w l (r+d)).length
 | 0=>⟨rfl,h⟩
 | d+1=>by
  obtain ⟨h1,h2⟩:=Gg h d
  have h3:=BJ (x:=iP m s w (r+d)) (d:=[]) h2
  have h4:=(ni (bU m s w l (r+d)) (iP m s w (r+d))).1
  exact ⟨h3.trans h1,by show i<(jP (bU m s w l (r+d)) (iP m s w (r+d))).length;omega⟩
theorem Yx {m s:List (List Int)} {w:List Int} {l:List (List Int)} {n r:Nat} (hr:r<n):∃ k:Nat,(zJ m s w l n).getD r 0=k/\k<(bU m s w l n).length/\(bU m s w l n).getD k []=iP m s w r:=by
 obtain ⟨k,h1,h2,h3⟩:=uM (bU m s w l r) (iP m s w r) []
 have h4:=Gg (m:=m) (s:=s) (w:=w) (l:=l) (r:=r+1) (i:=k) h2 (n-(r+1))
 rw [show r+1+(n-(r+1))=n by omega] at h4
 refine ⟨k,?_,h4.2,h4.1.trans h3⟩
 rw [← h1]
 simp [zJ,hr]
theorem VU {m s:List (List Int)} {w:List Int} {n r:Nat} (hr:r<n):(oO m s w n).getD r 0=iV m s w r:=by simp [oO,hr]
structure ZE (m s:List (List Int)) (t:bW) (i:Nat):Prop where
 nlen:t.next.length=i
 glen:t.grows.length=i
 at_:∀ j r,j<i->r<s.length->∃ k:Nat,(t.next.getD j []).getD r 0=k/\k<t.list.length/\t.list.getD k []=iP m s (t.list.getD j []) r/\(t.grows.getD j []).getD r 0=iV m s (t.list.getD j []) r
theorem NU {m s:List (List Int)} {x:Nat}:∀ i,(∀ j,j<i->j<(aP m s x j).list.length)->ZE m s (aP m s x i) i
 | 0,_=>⟨rfl,rfl,fun j r hj=>by omega⟩
 | i+1,h=>by
  have ih:=NU i fun j hj=>h j (by omega)
  have hi:=h i (by omega)
  generalize ht:aP m s x i=t at ih hi
  have hget:∀ k,k<t.list.length->(bU m s (t.list.getD i []) t.list s.length).getD k []=t.list.getD k []:=fun k hk=>tu hk s.length
  have hle:=(lH m s (t.list.getD i []) t.list s.length).1
  have e:aP m s x (i+1)=⟨bU m s (t.list.getD i []) t.list s.length,t.next++[zJ m s (t.list.getD i []) t.list s.length],t.grows++[oO m s (t.list.getD i []) s.length]⟩:=by rw [← ht];rfl
  rw [e]
  refine ⟨by simp [ih.nlen],by simp [ih.glen],fun j r hj hr =>?_⟩
  by_cases hji:j<i
  ·obtain ⟨k,h1,h2,h3,h4⟩:=ih.at_ j r hji hr
   refine ⟨k,?_,?_,?_,?_⟩
   ·show ((t.next++[_]).getD j []).getD r 0=_
    rw [fG (by rw [ih.nlen];exact hji)]
    exact h1
   ·show k<(bU m s (t.list.getD i []) t.list s.length).length
    omega
   ·show (bU m s (t.list.getD i []) t.list s.length).getD k []=iP m s ((bU m s (t.list.getD i []) t.list s.length).getD j []) r
    rw [hget k h2,hget j (by omega)]
    exact h3
   ·show ((t.grows++[_]).getD j []).getD r 0=iV m s ((bU m s (t.list.getD i []) t.list s.length).getD j []) r
    rw [fG (by rw [ih.glen];exact hji),hget j (by omega)]
    exact h4
  ·obtain rfl:j=i:=by omega
   obtain ⟨k,h1,h2,h3⟩:=Yx (m:=m) (s:=s) (w:=t.list.getD j []) (l:=t.list) hr
   refine ⟨k,?_,h2,?_,?_⟩
   ·show ((t.next++[_]).getD j []).getD r 0=_
    rw [fJ ih.nlen.symm]
    exact h1
   ·show (bU m s (t.list.getD j []) t.list s.length).getD k []=iP m s ((bU m s (t.list.getD j []) t.list s.length).getD j []) r
    rw [hget j hi]
    exact h3
   ·show ((t.grows++[_]).getD j []).getD r 0=iV m s ((bU m s (t.list.getD j []) t.list s.length).getD j []) r
    rw [fJ ih.glen.symm,hget j hi]
    exact VU hr
theorem DL {m s:List (List Int)} {w:List Int} {r x:Nat} (hx:x<m.length):(gY m s w r).getD x 0=wAt m s w r x:=by
 unfold gY
 rw [dK _ _ hx]
theorem P8 {m s:List (List Int)} {w:List Int} {r x:Nat} (hx:x<m.length):(iP m s w r).getD x 0=wAt m s w r x-iV m s w r:=by
 unfold iP
 rw [yc (by rw [zF];exact hx),DL hx]
end Go.Proofs.YtkcelmnbfbehbaaGreat
