/- Work functions: the plain laws. Conditions: problems that are right. -/
import Derived.Test.YtkcelmnbfbehbaaGreatZRU
set_option linter.all false
namespace Go.Proofs.YtkcelmnbfbehbaaGreat
def lD (m s:List (List Int)) (w:List Int) (r x y:Nat):Int:=w.getD y 0+at2 s r y+at2 m y x
def wAt (m s:List (List Int)) (w:List Int) (r x:Nat):Int:=fF (fun y=>decide (0<=at2 s r y)) (lD m s w r x) m.length
def fO (m s:List (List Int)) (w:List Int) (r:Nat):List Int:=(List.range m.length).map fun x=>wAt m s w r x
def uq (m s:List (List Int)) (x:Nat) (rs:List Int):List Int:=rs.foldl (fun w r=>fO m s w r.toNat) (m.getD x [])
structure jq (m:List (List Int)) (w:List Int) (B:Int):Prop where
 len:w.length=m.length
 at_:∀ y,y<m.length->0<=w.getD y 0/\w.getD y 0<=B
theorem Ae (m s:List (List Int)) (w:List Int) (r:Nat):(fO m s w r).length=m.length:=by simp [fO]
theorem Rj {m s:List (List Int)} {w:List Int} {B:Int} (hp:bg m s=true) (hw:jq m w B) {r x y:Nat} (hr:r<s.length) (hx:x<m.length) (hy:y<m.length) (hs:0<=at2 s r y):0<=lD m s w r x y/\lD m s w r x y<=B+119:=by
 have h1:=hw.at_ y hy
 have h2:=uh hp hr y hy
 have h3:=(gY hp hy).2 x hx
 unfold lD
 omega
theorem Jr {m s:List (List Int)} {w:List Int} {B:Int} (hp:bg m s=true) (hw:jq m w B) (hB:B<=1000000) {r x:Nat} (hr:r<s.length) (hx:x<m.length) :
  minS (fun y=>decide (0<=at2 s r y)) (lD m s w r x) m.length=wAt m s w r x/\0<=wAt m s w r x/\wAt m s w r x<=B+119:=by
 have hb:∀ y,y<m.length->decide (0<=at2 s r y)=true->0<=lD m s w r x y/\lD m s w r x y<=B+119:=fun y hy h=>Rj hp hw hr hx hy (of_decide_eq_true h)
 unfold wAt
 rcases Yh (n:=m.length) (p:=fun y=>decide (0<=at2 s r y)) (f:=lD m s w r x) fun y hy h=>⟨(hb y hy h).1,by have:=(hb y hy h).2;omega⟩ with ⟨_,_,h3⟩ | ⟨h1,h2,_,y,h4,h5,h6⟩
 ·obtain ⟨y,hy,h4⟩:=EL hp hr
  have:=h3 y hy
  simp at this
  omega
 ·have:=hb y h4 h5
  exact ⟨h1,h2,by omega⟩
theorem tK {m s:List (List Int)} {w:List Int} {B:Int} (hp:bg m s=true) (hw:jq m w B) (hB:B<=1000000) {r:Nat} (hr:r<s.length):jq m (fO m s w r) (B+119) :=
 ⟨Ae m s w r,fun y hy=>by
  have h:=(Jr hp hw hB hr hy).2
  unfold fO
  rw [dN _ _ hy]
  exact h⟩
theorem xI {m s:List (List Int)} {x:Nat} {rs:List Int} {k:Nat} (h:k<rs.length):uq m s x (rs.take (k+1))=fO m s (uq m s x (rs.take k)) (rs.getD k 0).toNat:=by
 unfold uq
 rw [bD h 0,List.foldl_append]
 rfl
theorem zu {m s:List (List Int)} (hp:bg m s=true) {x:Nat} (hx:x<m.length) {rs:List Int} (hq:jJ s.length rs) (hl:rs.length<=1000):∀ k,k<=rs.length->jq m (uq m s x (rs.take k)) (99+119*k)
 | 0,_=>by
  have h:=gY hp hx
  refine ⟨h.1,fun y hy =>?_⟩
  have:=h.2 y hy
  simp only [at2] at this
  simp only [uq,List.take_zero,List.foldl_nil]
  omega
 | k+1,hk=>by
  have ih:=zu hp hx hq hl k (by omega)
  obtain ⟨r,h1,h2⟩:=hq.at (show k<rs.length by omega)
  rw [xI (by omega),h1,Int.toNat_natCast]
  have h3:=tK hp ih (by omega) h2
  refine ⟨h3.len,fun y hy =>?_⟩
  have:=h3.at_ y hy
  omega
def dw (w:List Int):Nat->Int
 | 0=>w.getD 0 0
 | k+1=>min (dw w k) (w.getD (k+1) 0)
theorem mQ {m:List (List Int)} {w:List Int} {B:Int} (hw:jq m w B):∀ k,k<m.length->0<=dw w k/\dw w k<=B
 | 0,h=>hw.at_ 0 h
 | k+1,h=>by
  have h1:=mQ hw k (by omega)
  have h2:=hw.at_ (k+1) h
  simp only [dw]
  omega
def I7 (m s:List (List Int)) (x:Nat) (rs:List Int):Int:=dw (uq m s x rs) (m.length-1)
def Ro (f:Nat->Int) (l:List Int):Int:=l.foldl (fun a y=>min a (f y.toNat)) 1073741824
theorem Xu (f:Nat->Int) (l:List Int):Ro f l=min 1073741824 (Xt f l):=by
 unfold Ro Xt
 suffices h:∀ (l:List Int) (a b:Int),l.foldl (fun a y=>min a (f y.toNat)) (min a b)=min a (l.foldl (fun a y=>min a (f y.toNat)) b) from h l 1073741824 1152921504606846976
 intro l
 induction l with
 | nil=>intro a b;rfl
 | cons y l ih =>
  intro a b
  simp only [List.foldl_cons]
  rw [show min (min a b) (f y.toNat)=min a (min b (f y.toNat)) by omega]
  exact ih _ _
theorem Rq {f:Nat->Int} {l:List Int} {t:Nat} (h:t<l.length):Ro f (l.take (t+1))=min (Ro f (l.take t)) (f (l.getD t 0).toNat):=by
 unfold Ro
 rw [bD h 0,List.foldl_append]
 rfl
def Tq (m s:List (List Int)) (w:List Int) (r t x:Nat):Int:=Ro (lD m s w r x) ((srv s m.length r).take t)
def yV (m s:List (List Int)) (w:List Int) (r t x:Nat):List Int:=(List.range m.length).map fun j=>if j<x then Tq m s w r (t+1) j else Tq m s w r t j
theorem LQ (m s:List (List Int)) (w:List Int) (r t x:Nat):(yV m s w r t x).length=m.length:=by simp [yV]
theorem YI {m s:List (List Int)} {w:List Int} {r t x:Nat} (h:x<m.length):(yV m s w r t x).getD x 0=Tq m s w r t x:=by
 unfold yV
 rw [dN _ _ h,if_neg (Nat.lt_irrefl _)]
theorem WY {m s:List (List Int)} {w:List Int} {r t x z:Nat} (h:t<(srv s m.length r).length) (hz:(srv s m.length r).getD t 0=z):(yV m s w r t x).set x (min (Tq m s w r t x) (lD m s w r x z))=yV m s w r t (x+1):=by
 unfold yV
 rw [ru]
 refine gZ fun j _ =>?_
 by_cases e:j=x
 ·subst e
  rw [if_pos rfl,if_pos (by omega)]
  unfold Tq
  rw [Rq h,hz,Int.toNat_natCast]
 ·rw [if_neg e]
  by_cases h1:j<x
  ·rw [if_pos h1,if_pos (by omega)]
  ·rw [if_neg h1,if_neg (by omega)]
theorem Oy {m s:List (List Int)} {w:List Int} {r:Nat}:List.replicate m.length (1073741824:Int)=yV m s w r 0 0:=by
 unfold yV
 rw [SV]
 exact gZ fun j _=>rfl
theorem SY {m s:List (List Int)} {w:List Int} {r t:Nat}:yV m s w r t m.length=yV m s w r (t+1) 0:=by
 refine gZ fun j hj =>?_
 rw [if_pos hj,if_neg (by omega)]
theorem WX {m s:List (List Int)} {w:List Int} {B:Int} (hp:bg m s=true) (hw:jq m w B) (hB:B<=1000000) {r:Nat} (hr:r<s.length):yV m s w r (srv s m.length r).length 0=fO m s w r:=by
 refine gZ fun j hj =>?_
 rw [if_neg (by omega)]
 unfold Tq
 rw [List.take_length,Xu,CZ]
 have h:=(Jr hp hw hB hr hj).2
 unfold wAt at h ⊢
 omega
section
variable {α:Type} [DecidableEq α]
def fZ (l:List α) (x:α):Int:=idxOf (fun y=>decide (y=x)) l
def kQ (l:List α) (x:α):List α:=if fZ l x<0 then l++[x] else l
def ug (l:List α) (x:α):Int:=if fZ l x<0 then l.length else fZ l x
omit [DecidableEq α] in
theorem nG {p:α->Bool} {l:List α} (h:0<=idxOf p l):∃ k:Nat,∃ hk:k<l.length,idxOf p l=k/\p l[k]=true:=by
 cases e:l.findIdx? p with
 | none =>
  have:idxOf p l = -1:=by unfold idxOf;rw [e]
  omega
 | some i =>
  obtain ⟨h1,h2,-⟩:=List.findIdx?_eq_some_iff_getElem.1 e
  exact ⟨i,h1,by unfold idxOf;rw [e],h2⟩
theorem xJ (l:List α) (x:α):l.length<=(kQ l x).length/\(kQ l x).length<=l.length+1:=by
 unfold kQ
 split<;>simp
theorem Jy {l:List α} {x:α} {d:α} {i:Nat} (h:i<l.length):(kQ l x).getD i d=l.getD i d:=by
 unfold kQ
 split
 ·simp [List.getElem?_append_left h]
 ·rfl
theorem C9 {l:List α} {x y:α} (h:y∈kQ l x):y∈l\/y=x:=by
 unfold kQ at h
 split at h
 ·simpa using h
 ·exact .inl h
theorem CP (l:List α) (x:α) (d:α):∃ k:Nat,ug l x=k/\k<(kQ l x).length/\(kQ l x).getD k d=x:=by
 unfold ug kQ
 by_cases h:fZ l x<0
 ·rw [if_pos h,if_pos h]
  exact ⟨l.length,rfl,by simp,by simp⟩
 ·rw [if_neg h,if_neg h]
  obtain ⟨k,hk,h1,h2⟩:=nG (Int.not_lt.1 h)
  exact ⟨k,h1,hk,by rw [← of_decide_eq_true h2];simp [hk]⟩
end
def iR (m s:List (List Int)) (w:List Int) (r:Nat):Int:=dw (fO m s w r) (m.length-1)
def lessM (w:List Int) (a:Int):List Int:=w.map fun b=>b-a
def iH (m s:List (List Int)) (w:List Int) (r:Nat):List Int:=lessM (fO m s w r) (iR m s w r)
def bW (m s:List (List Int)) (w:List Int) (l:List (List Int)):Nat->List (List Int)
 | 0=>l
 | r+1=>kQ (bW m s w l r) (iH m s w r)
def Ah (m s:List (List Int)) (w:List Int) (l:List (List Int)) (r:Nat):List Int:=(List.range r).map fun j=>ug (bW m s w l j) (iH m s w j)
def oN (m s:List (List Int)) (w:List Int) (r:Nat):List Int:=(List.range r).map fun j=>iR m s w j
structure dF where
 list:List (List Int)
 next:List (List Int)
 grows:List (List Int)
def aO (m s:List (List Int)) (x:Nat):Nat->dF
 | 0=>⟨[m.getD x []],[],[]⟩
 | i+1=>⟨bW m s ((aO m s x i).list.getD i []) (aO m s x i).list s.length,(aO m s x i).next++[Ah m s ((aO m s x i).list.getD i []) (aO m s x i).list s.length],(aO m s x i).grows++[oN m s ((aO m s x i).list.getD i []) s.length]⟩
def pF (m s:List (List Int)) (x:Nat):Nat->Nat->dF×Bool
 | 0,i=>(aO m s x i,true)
 | f+1,i=>if i<(aO m s x i).list.length then (if 400<(aO m s x (i+1)).list.length then (⟨(aO m s x (i+1)).list,(aO m s x i).next,(aO m s x i).grows⟩,true) else pF m s x f (i+1)) else (aO m s x i,false)
def jm (m s:List (List Int)) (x:Nat):dF×Bool:=pF m s x 500 0
theorem kD (w:List Int) (a:Int):(lessM w a).length=w.length:=by simp [lessM]
theorem yF {w:List Int} {a:Int} {j:Nat} (h:j<w.length):(lessM w a).getD j 0=w.getD j 0-a:=by
 unfold lessM
 simp [h]
theorem kC (w:List Int):∀ k j,j<=k->dw w k<=w.getD j 0
 | 0,j,h=>by
  obtain rfl:j=0:=by omega
  exact Int.le_refl _
 | k+1,j,h=>by
  simp only [dw]
  by_cases e:j=k+1
  ·subst e;omega
  ·have:=kC w k j (by omega)
   omega
theorem IZ {m s:List (List Int)} {w:List Int} {B:Int} (hp:bg m s=true) (hw:jq m w B) (hB:B<=1000000) {r:Nat} (hr:r<s.length) (hm:0<m.length):0<=iR m s w r/\iR m s w r<=B+119 :=
 mQ (tK hp hw hB hr) _ (by omega)
theorem Yt {m s:List (List Int)} {w:List Int} {B:Int} (hp:bg m s=true) (hw:jq m w B) (hB:B<=1000000) {r:Nat} (hr:r<s.length) (hm:0<m.length):jq m (iH m s w r) (B+119):=by
 have h:=tK hp hw hB hr
 have h1:=IZ hp hw hB hr hm
 refine ⟨by unfold iH;rw [kD,h.len],fun y hy =>?_⟩
 have h2:=h.at_ y hy
 have h3:=kC (fO m s w r) (m.length-1) y (by omega)
 unfold iH
 rw [yF (by rw [h.len];exact hy)]
 unfold iR at *
 omega
theorem lu (m s:List (List Int)) (w:List Int) (l:List (List Int)):∀ r,l.length<=(bW m s w l r).length/\(bW m s w l r).length<=l.length+r
 | 0=>by simp [bW]
 | r+1=>by
  have h1:=lu m s w l r
  have h2:=xJ (bW m s w l r) (iH m s w r)
  simp only [bW]
  omega
theorem Qs (m s:List (List Int)) (w:List Int) (l:List (List Int)) (r:Nat):∀ k,(bW m s w l r).length<=(bW m s w l (r+k)).length
 | 0=>Nat.le_refl _
 | k+1=>by
  have h1:=Qs m s w l r k
  have h2:=xJ (bW m s w l (r+k)) (iH m s w (r+k))
  rw [show r+(k+1)=(r+k)+1 by omega]
  simp only [bW]
  omega
theorem tV {m s:List (List Int)} {w:List Int} {l:List (List Int)} {i:Nat} (h:i<l.length):∀ r,(bW m s w l r).getD i []=l.getD i []
 | 0=>rfl
 | r+1=>by
  have h1:=lu m s w l r
  simp only [bW]
  rw [Jy (by omega),tV h r]
theorem Lm {m s:List (List Int)} {w:List Int} {l:List (List Int)} {B:Int} (hp:bg m s=true) (hw:jq m w B) (hB:B<=1000000) (hm:0<m.length) (hl:∀ v∈l,jq m v B):∀ r,r<=s.length->∀ v∈bW m s w l r,jq m v (B+119)
 | 0,_,v,hv=>by
  have h:=hl v hv
  exact ⟨h.len,fun y hy=>by have:=h.at_ y hy;omega⟩
 | r+1,hr,v,hv=>by
  rcases C9 hv with h | rfl
  ·exact Lm hp hw hB hm hl r (by omega) v h
  ·exact Yt hp hw hB (by omega) hm
structure YS (m s:List (List Int)) (t:dF) (i:Nat):Prop where
 pos:0<t.list.length
 el:∀ v∈t.list,jq m v (99+119*i)
 nlen:t.next.length=i
 glen:t.grows.length=i
 row:∀ j,j<i->(t.next.getD j []).length=s.length/\(t.grows.getD j []).length=s.length
 nx:∀ j r,j<i->r<s.length->∃ k:Nat,(t.next.getD j []).getD r 0=k/\k<t.list.length
 gr:∀ j r,j<i->r<s.length->0<=(t.grows.getD j []).getD r 0/\(t.grows.getD j []).getD r 0<=99+119*i
theorem EC (m s:List (List Int)) (w:List Int) (l:List (List Int)) (r:Nat):(Ah m s w l r).length=r:=by simp [Ah]
theorem Ag (m s:List (List Int)) (w:List Int) (r:Nat):(oN m s w r).length=r:=by simp [oN]
theorem uQ (m s:List (List Int)) (w:List Int) (l:List (List Int)) (r:Nat):Ah m s w l (r+1)=Ah m s w l r++[ug (bW m s w l r) (iH m s w r)]:=by simp [Ah,List.range_succ]
theorem qW (m s:List (List Int)) (w:List Int) (r:Nat):oN m s w (r+1)=oN m s w r++[iR m s w r]:=by simp [oN,List.range_succ]
theorem gX {α:Type} {xs:List α} {y d:α} {j:Nat} (h:j<xs.length):(xs++[y]).getD j d=xs.getD j d:=by simp [List.getElem?_append_left h]
theorem iI {α:Type} {xs:List α} {y d:α} {j:Nat} (h:j=xs.length):(xs++[y]).getD j d=y:=by subst h;simp
theorem I4 {m s:List (List Int)} {t:dF} {i:Nat} (h:YS m s t i) {j:Nat} (hj:j<t.list.length):jq m (t.list.getD j []) (99+119*i):=h.el _ (by rw [getD_in hj];exact List.getElem_mem hj)
theorem yL {m s:List (List Int)} {x:Nat} (hp:bg m s=true) (hx:x<m.length):∀ i,i<=1000->(∀ j,j<i->j<(aO m s x j).list.length)->YS m s (aO m s x i) i
 | 0,_,_=>by
  have h:=gY hp hx
  refine ⟨Nat.zero_lt_one,fun v hv =>?_,rfl,rfl,fun j hj=>by omega,fun j r hj=>by omega,fun j r hj=>by omega⟩
  simp only [aO,List.mem_singleton] at hv
  subst hv
  refine ⟨h.1,fun y hy =>?_⟩
  have:=h.2 y hy
  simp only [at2] at this
  omega
 | i+1,hi,hlt=>by
  have ih:=yL hp hx i (by omega) fun j hj=>hlt j (by omega)
  have hw:=I4 ih (hlt i (by omega))
  have hl:=lu m s ((aO m s x i).list.getD i []) (aO m s x i).list s.length
  have hp1:=ih.pos
  refine ⟨by simp only [aO];omega,fun v hv =>?_,by simp [aO,ih.nlen],by simp [aO,ih.glen],fun j hj =>?_,fun j r hj hr =>?_,fun j r hj hr =>?_⟩
  ·have:=Lm hp hw (by omega) (by omega) ih.el s.length (Nat.le_refl _) v hv
   exact ⟨this.len,fun y hy=>by have:=this.at_ y hy;omega⟩
  ·simp only [aO]
   by_cases e:j=i
   ·rw [iI (by rw [ih.nlen];exact e),iI (by rw [ih.glen];exact e),EC,Ag]
    exact ⟨rfl,rfl⟩
   ·rw [gX (by rw [ih.nlen];omega),gX (by rw [ih.glen];omega)]
    exact ih.row j (by omega)
  ·simp only [aO]
   by_cases e:j=i
   ·rw [iI (by rw [ih.nlen];exact e)]
    unfold Ah
    rw [dN _ _ hr]
    obtain ⟨k,h1,h2,-⟩:=CP (bW m s ((aO m s x i).list.getD i []) (aO m s x i).list r) (iH m s ((aO m s x i).list.getD i []) r) []
    refine ⟨k,h1,Nat.lt_of_lt_of_le h2 ?_⟩
    have:=Qs m s ((aO m s x i).list.getD i []) (aO m s x i).list (r+1) (s.length-(r+1))
    rw [show r+1+(s.length-(r+1))=s.length by omega] at this
    exact this
   ·rw [gX (by rw [ih.nlen];omega)]
    obtain ⟨k,h1,h2⟩:=ih.nx j r (by omega) hr
    exact ⟨k,h1,by omega⟩
  ·simp only [aO]
   by_cases e:j=i
   ·rw [iI (by rw [ih.glen];exact e)]
    unfold oN
    rw [dN _ _ hr]
    have:=IZ hp hw (by omega) hr (by omega)
    omega
   ·rw [gX (by rw [ih.glen];omega)]
    have:=ih.gr j r (by omega) hr
    omega
theorem oP {m s:List (List Int)} {x:Nat}:∀ f i,(pF m s x f i).2=false->(∀ j,j<i->j<(aO m s x j).list.length)->∃ k,pF m s x f i=(aO m s x k,false)/\k<=i+f/\(aO m s x k).list.length<=k/\∀ j,j<k->j<(aO m s x j).list.length
 | 0,i,h,_=>by simp [pF] at h
 | f+1,i,h,hlt=>by
  unfold pF at h ⊢
  by_cases h1:i<(aO m s x i).list.length
  ·rw [if_pos h1] at h ⊢
   by_cases h2:400<(aO m s x (i+1)).list.length
   ·rw [if_pos h2] at h;simp at h
   ·rw [if_neg h2] at h ⊢
    obtain ⟨k,k1,k2,k3,k4⟩:=oP f (i+1) h fun j hj=>by
     by_cases e:j=i
     ·rw [e];exact h1
     ·exact hlt j (by omega)
    exact ⟨k,k1,by omega,k3,k4⟩
  ·rw [if_neg h1]
   exact ⟨i,rfl,by omega,by omega,hlt⟩
structure vS (m s:List (List Int)) (x i:Nat):Prop where
 le:i<=400
 len:(aO m s x i).list.length<=400
 lt:∀ j,j<i->j<(aO m s x j).list.length
 run:jm m s x=pF m s x (500-i) i
theorem vS.first (m s:List (List Int)) (x:Nat):vS m s x 0:=⟨by omega,by simp [aO],fun j hj=>by omega,rfl⟩
theorem vS.more {m s:List (List Int)} {x i:Nat} (h:vS m s x i) (h1:i<(aO m s x i).list.length):500-i=(500-(i+1))+1/\∀ j,j<i+1->j<(aO m s x j).list.length :=
 ⟨by have:=h.le;omega,fun j hj=>by
  by_cases e:j=i
  ·rw [e];exact h1
  ·exact h.lt j (by omega)⟩
theorem vS.next {m s:List (List Int)} {x i:Nat} (h:vS m s x i) (h1:i<(aO m s x i).list.length) (h2:¬ 400<(aO m s x (i+1)).list.length):vS m s x (i+1) :=
 ⟨by have:=h.len;omega,by omega,(h.more h1).2,by rw [h.run,(h.more h1).1,pF,if_pos h1,if_neg h2]⟩
theorem vS.large {m s:List (List Int)} {x i:Nat} (h:vS m s x i) (h1:i<(aO m s x i).list.length) (h2:400<(aO m s x (i+1)).list.length):jm m s x=(⟨(aO m s x (i+1)).list,(aO m s x i).next,(aO m s x i).grows⟩,true):=by
 rw [h.run,(h.more h1).1,pF,if_pos h1,if_pos h2]
theorem vS.done {m s:List (List Int)} {x i:Nat} (h:vS m s x i) (h1:¬ i<(aO m s x i).list.length):jm m s x=(aO m s x i,false):=by
 have:=h.le
 rw [h.run,show 500-i=(500-(i+1))+1 by omega,pF,if_neg h1]
theorem UO {m s:List (List Int)} {x:Nat} (hp:bg m s=true) (hx:x<m.length):lessM (m.getD x []) (dw (m.getD x []) (m.length-1))=m.getD x []:=by
 have hl:=gY hp hx
 have h1:=yR hp
 unfold lI at h1
 simp only [Bool.and_eq_true] at h1
 have h2:=h1.1
 unfold eP at h2
 simp only [Bool.and_eq_true] at h2
 have h3:at2 m x x=0:=(vY.1 (bG.1 (bG.1 h2.2 x hx) x hx)).2.1 rfl
 have hw:jq m (m.getD x []) 99:=⟨hl.1,hl.2⟩
 have h4:=mQ hw (m.length-1) (by omega)
 have h5:=kC (m.getD x []) (m.length-1) x (by omega)
 unfold at2 at h3
 have h6:dw (m.getD x []) (m.length-1)=0:=by omega
 rw [h6]
 simp [lessM]
theorem Ew {p:Nat->Bool} {f g:Nat->Int} {c:Int} (hc:0<=c):∀ n,(∀ y,y<n->p y=true->f y<=g y+c)->fF p f n<=fF p g n+c
 | 0,_=>by simp only [fF];omega
 | n+1,h=>by
  have ih:=Ew hc n fun y hy=>h y (by omega)
  simp only [fF]
  cases hp:p n with
  | false=>simpa using ih
  | true =>
   have h2:=h n (by omega) hp
   simp only [if_true]
   omega
theorem Le {p:Nat->Bool} {f:Nat->Int}:∀ n y,y<n->p y=true->fF p f n<=f y
 | 0,y,h,_=>by omega
 | n+1,y,h,hp=>by
  simp only [fF]
  by_cases e:y=n
  ·subst e
   rw [if_pos hp]
   omega
  ·have ih:=Le (p:=p) (f:=f) n y (by omega) hp
   split<;>omega
theorem Lu {m s:List (List Int)} (hp:bg m s=true) {x y z:Nat} (hx:x<m.length) (hy:y<m.length) (hz:z<m.length):at2 m x z<=at2 m x y+at2 m y z:=by
 have h1:=yR hp
 unfold lI at h1
 simp only [Bool.and_eq_true] at h1
 exact of_decide_eq_true (bG.1 (bG.1 (bG.1 h1.2 x hx) y hy) z hz)
theorem prob_0 {m s:List (List Int)} (hp:bg m s=true) {x:Nat} (hx:x<m.length):at2 m x x=0:=by
 have h1:=yR hp
 unfold lI at h1
 simp only [Bool.and_eq_true] at h1
 have h2:=h1.1
 unfold eP at h2
 simp only [Bool.and_eq_true] at h2
 exact (vY.1 (bG.1 (bG.1 h2.2 x hx) x hx)).2.1 rfl
def Lip (m:List (List Int)) (w:List Int):Prop:=∀ a b,a<m.length->b<m.length->w.getD b 0<=w.getD a 0+at2 m a b
theorem Sm {m s:List (List Int)} (hp:bg m s=true) (w:List Int) (r:Nat):Lip m (fO m s w r):=fun a b ha hb=>by
 unfold fO
 rw [dN _ _ hb,dN _ _ ha]
 unfold wAt
 refine Ew ((gY hp ha).2 b hb).1 _ fun y hy _ =>?_
 have:=Lu hp hy ha hb
 unfold lD
 omega
theorem zY (w:List Int):∀ k,∃ j,j<=k/\dw w k=w.getD j 0
 | 0=>⟨0,Nat.le_refl _,rfl⟩
 | k+1=>by
  obtain ⟨j,h1,h2⟩:=zY w k
  by_cases h:dw w k<=w.getD (k+1) 0
  ·exact ⟨j,by omega,by simp only [dw];omega⟩
  ·exact ⟨k+1,Nat.le_refl _,by simp only [dw];omega⟩
theorem Oh {m s:List (List Int)} {w:List Int} (hp:bg m s=true) {r:Nat} (hm:0<m.length):jq m (iH m s w r) 99:=by
 have hn:=Ae m s w r
 refine ⟨by unfold iH;rw [kD,hn],fun y hy =>?_⟩
 have h3:=kC (fO m s w r) (m.length-1) y (by omega)
 obtain ⟨j,h1,h2⟩:=zY (fO m s w r) (m.length-1)
 have h4:=Sm hp w r j y (by omega) hy
 have h5:=(gY hp (show j<m.length by omega)).2 y hy
 unfold iH
 rw [yF (by rw [hn];exact hy)]
 unfold iR
 omega
theorem Oc {m s:List (List Int)} {w:List Int} (hp:bg m s=true) (hw:jq m w 99) {r:Nat} (hr:r<s.length):iR m s w r<=119:=by
 obtain ⟨z,hz,h1⟩:=EL hp hr
 have h2:=kC (fO m s w r) (m.length-1) z (by omega)
 have h3:(fO m s w r).getD z 0<=lD m s w r z z:=by
  unfold fO
  rw [dN _ _ hz]
  exact Le _ _ hz (decide_eq_true h1)
 have h4:=hw.at_ z hz
 have h5:=uh hp hr z hz
 have h6:=prob_0 hp hz
 unfold lD at h3
 unfold iR
 omega
theorem Ez {m s:List (List Int)} {w:List Int} {l:List (List Int)} (hp:bg m s=true) (hm:0<m.length) (hl:∀ v∈l,jq m v 99):∀ r,∀ v∈bW m s w l r,jq m v 99
 | 0,v,hv=>hl v hv
 | r+1,v,hv=>by
  rcases C9 hv with h | rfl
  ·exact Ez hp hm hl r v h
  ·exact Oh hp hm
theorem wR {m s:List (List Int)} {x:Nat} (hp:bg m s=true) (hx:x<m.length):∀ i,(∀ v∈(aO m s x i).list,jq m v 99)
 | 0=>fun v hv=>by
  have h:=gY hp hx
  simp only [aO,List.mem_singleton] at hv
  subst hv
  exact ⟨h.1,fun y hy=>h.2 y hy⟩
 | i+1=>Ez hp (by omega) (wR hp hx i) s.length
theorem Bv {m s:List (List Int)} {x:Nat} (hp:bg m s=true) (hx:x<m.length):∀ i,i<=1000->(∀ j,j<i->j<(aO m s x j).list.length)->∀ j r,j<i->r<s.length->((aO m s x i).grows.getD j []).getD r 0<=119
 | 0,_,_,j,r,hj,_=>by omega
 | i+1,hi,hlt,j,r,hj,hr=>by
  have ih:=yL hp hx i (by omega) fun j hj=>hlt j (by omega)
  simp only [aO]
  by_cases e:j=i
  ·rw [iI (by rw [ih.glen];exact e)]
   unfold oN
   rw [dN _ _ hr]
   have h1:=hlt i (by omega)
   exact Oc hp (wR hp hx i _ (by rw [getD_in h1];exact List.getElem_mem h1)) hr
  ·rw [gX (by rw [ih.glen];omega)]
   exact Bv hp hx i (by omega) (fun j hj=>hlt j (by omega)) j r (by omega) hr
end Go.Proofs.YtkcelmnbfbehbaaGreat
