/- Work functions: the plain laws. Conditions: problems that are right. -/
import Derived.Test.YtkcelmnbfbehbaaGreatRU
set_option linter.all false
namespace Go.Proofs.YtkcelmnbfbehbaaGreat
def ou (m s:List (List Int)) (w:List Int) (r x y:Nat):Int:=w.getD y 0+at2 s r y+at2 m y x
def wAt (m s:List (List Int)) (w:List Int) (r x:Nat):Int:=gU (fun y=>decide (0<=at2 s r y)) (ou m s w r x) m.length
def gY (m s:List (List Int)) (w:List Int) (r:Nat):List Int:=(List.range m.length).map fun x=>wAt m s w r x
structure kW (m:List (List Int)) (w:List Int) (B:Int):Prop where
 len:w.length=m.length
 at_:∀ y,y<m.length->0<=w.getD y 0/\w.getD y 0<=B
theorem zF (m s:List (List Int)) (w:List Int) (r:Nat):(gY m s w r).length=m.length:=by simp [gY]
theorem Y1 {m s:List (List Int)} {w:List Int} {B:Int} (hp:aO m s=true) (hw:kW m w B) {r x y:Nat} (hr:r<s.length) (hx:x<m.length) (hy:y<m.length) (hs:0<=at2 s r y):0<=ou m s w r x y/\ou m s w r x y<=B+119:=by
 have h1:=hw.at_ y hy
 have h2:=qW hp hr y hy
 have h3:=(iH hp hy).2 x hx
 unfold ou
 omega
theorem Oy {m s:List (List Int)} {w:List Int} {B:Int} (hp:aO m s=true) (hw:kW m w B) (hB:B<=1000000) {r x:Nat} (hr:r<s.length) (hx:x<m.length) :
  minS (fun y=>decide (0<=at2 s r y)) (ou m s w r x) m.length=wAt m s w r x/\0<=wAt m s w r x/\wAt m s w r x<=B+119:=by
 have hb:∀ y,y<m.length->decide (0<=at2 s r y)=true->0<=ou m s w r x y/\ou m s w r x y<=B+119:=fun y hy h=>Y1 hp hw hr hx hy (of_decide_eq_true h)
 unfold wAt
 rcases Ym (n:=m.length) (p:=fun y=>decide (0<=at2 s r y)) (f:=ou m s w r x) fun y hy h=>⟨(hb y hy h).1,by have:=(hb y hy h).2;omega⟩ with ⟨_,_,h3⟩ | ⟨h1,h2,_,y,h4,h5,h6⟩
 ·obtain ⟨y,hy,h4⟩:=D5 hp hr
  have:=h3 y hy
  simp at this
  omega
 ·have:=hb y h4 h5
  exact ⟨h1,h2,by omega⟩
theorem yu {m s:List (List Int)} {w:List Int} {B:Int} (hp:aO m s=true) (hw:kW m w B) (hB:B<=1000000) {r:Nat} (hr:r<s.length):kW m (gY m s w r) (B+119) :=
 ⟨zF m s w r,fun y hy=>by
  have h:=(Oy hp hw hB hr hy).2
  unfold gY
  rw [dK _ _ hy]
  exact h⟩
def fH (w:List Int):Nat->Int
 | 0=>w.getD 0 0
 | k+1=>min (fH w k) (w.getD (k+1) 0)
theorem uG {m:List (List Int)} {w:List Int} {B:Int} (hw:kW m w B):∀ k,k<m.length->0<=fH w k/\fH w k<=B
 | 0,h=>hw.at_ 0 h
 | k+1,h=>by
  have h1:=uG hw k (by omega)
  have h2:=hw.at_ (k+1) h
  simp only [fH]
  omega
def QG (f:Nat->Int) (l:List Int):Int:=l.foldl (fun a y=>min a (f y.toNat)) 1073741824
theorem Xn (f:Nat->Int) (l:List Int):QG f l=min 1073741824 (Xm f l):=by
 unfold QG Xm
 suffices h:∀ (l:List Int) (a b:Int),l.foldl (fun a y=>min a (f y.toNat)) (min a b)=min a (l.foldl (fun a y=>min a (f y.toNat)) b) from h l 1073741824 1152921504606846976
 intro l
 induction l with
 | nil=>intro a b;rfl
 | cons y l ih =>
  intro a b
  simp only [List.foldl_cons]
  rw [show min (min a b) (f y.toNat)=min a (min b (f y.toNat)) by omega]
  exact ih _ _
theorem QH {f:Nat->Int} {l:List Int} {t:Nat} (h:t<l.length):QG f (l.take (t+1))=min (QG f (l.take t)) (f (l.getD t 0).toNat):=by
 unfold QG
 rw [eH h 0,List.foldl_append]
 rfl
def Si (m s:List (List Int)) (w:List Int) (r t x:Nat):Int:=QG (ou m s w r x) ((srv s m.length r).take t)
def yH (m s:List (List Int)) (w:List Int) (r t x:Nat):List Int:=(List.range m.length).map fun j=>if j<x then Si m s w r (t+1) j else Si m s w r t j
theorem LG (m s:List (List Int)) (w:List Int) (r t x:Nat):(yH m s w r t x).length=m.length:=by simp [yH]
theorem YS {m s:List (List Int)} {w:List Int} {r t x:Nat} (h:x<m.length):(yH m s w r t x).getD x 0=Si m s w r t x:=by
 unfold yH
 rw [dK _ _ h,if_neg (Nat.lt_irrefl _)]
theorem WM {m s:List (List Int)} {w:List Int} {r t x z:Nat} (h:t<(srv s m.length r).length) (hz:(srv s m.length r).getD t 0=z):(yH m s w r t x).set x (min (Si m s w r t x) (ou m s w r x z))=yH m s w r t (x+1):=by
 unfold yH
 rw [yF]
 refine iW fun j _ =>?_
 by_cases e:j=x
 ·subst e
  rw [if_pos rfl,if_pos (by omega)]
  unfold Si
  rw [QH h,hz,Int.toNat_natCast]
 ·rw [if_neg e]
  by_cases h1:j<x
  ·rw [if_pos h1,if_pos (by omega)]
  ·rw [if_neg h1,if_neg (by omega)]
theorem Oe {m s:List (List Int)} {w:List Int} {r:Nat}:List.replicate m.length (1073741824:Int)=yH m s w r 0 0:=by
 unfold yH
 rw [RG]
 exact iW fun j _=>rfl
theorem RJ {m s:List (List Int)} {w:List Int} {r t:Nat}:yH m s w r t m.length=yH m s w r (t+1) 0:=by
 refine iW fun j hj =>?_
 rw [if_pos hj,if_neg (by omega)]
theorem WL {m s:List (List Int)} {w:List Int} {B:Int} (hp:aO m s=true) (hw:kW m w B) (hB:B<=1000000) {r:Nat} (hr:r<s.length):yH m s w r (srv s m.length r).length 0=gY m s w r:=by
 refine iW fun j hj =>?_
 rw [if_neg (by omega)]
 unfold Si
 rw [List.take_length,Xn,BH]
 have h:=(Oy hp hw hB hr hj).2
 unfold wAt at h ⊢
 omega
section
variable {α:Type} [DecidableEq α]
def eF (l:List α) (x:α):Int:=idxOf (fun y=>decide (y=x)) l
def jP (l:List α) (x:α):List α:=if eF l x<0 then l++[x] else l
def oD (l:List α) (x:α):Int:=if eF l x<0 then l.length else eF l x
omit [DecidableEq α] in
theorem J6 {p:α->Bool} {l:List α} (h:0<=idxOf p l):∃ k:Nat,∃ hk:k<l.length,idxOf p l=k/\p l[k]=true:=by
 cases e:l.findIdx? p with
 | none =>
  have:idxOf p l = -1:=by unfold idxOf;rw [e]
  omega
 | some i =>
  obtain ⟨h1,h2,-⟩:=List.findIdx?_eq_some_iff_getElem.1 e
  exact ⟨i,h1,by unfold idxOf;rw [e],h2⟩
theorem ni (l:List α) (x:α):l.length<=(jP l x).length/\(jP l x).length<=l.length+1:=by
 unfold jP
 split<;>simp
theorem BJ {l:List α} {x:α} {d:α} {i:Nat} (h:i<l.length):(jP l x).getD i d=l.getD i d:=by
 unfold jP
 split
 ·simp [List.getElem?_append_left h]
 ·rfl
theorem wY {l:List α} {x y:α} (h:y∈jP l x):y∈l\/y=x:=by
 unfold jP at h
 split at h
 ·simpa using h
 ·exact .inl h
theorem uM (l:List α) (x:α) (d:α):∃ k:Nat,oD l x=k/\k<(jP l x).length/\(jP l x).getD k d=x:=by
 unfold oD jP
 by_cases h:eF l x<0
 ·rw [if_pos h,if_pos h]
  exact ⟨l.length,rfl,by simp,by simp⟩
 ·rw [if_neg h,if_neg h]
  obtain ⟨k,hk,h1,h2⟩:=J6 (Int.not_lt.1 h)
  exact ⟨k,h1,hk,by rw [← of_decide_eq_true h2];simp [hk]⟩
end
def iV (m s:List (List Int)) (w:List Int) (r:Nat):Int:=fH (gY m s w r) (m.length-1)
def lessM (w:List Int) (a:Int):List Int:=w.map fun b=>b-a
def iP (m s:List (List Int)) (w:List Int) (r:Nat):List Int:=lessM (gY m s w r) (iV m s w r)
def bU (m s:List (List Int)) (w:List Int) (l:List (List Int)):Nat->List (List Int)
 | 0=>l
 | r+1=>jP (bU m s w l r) (iP m s w r)
def zJ (m s:List (List Int)) (w:List Int) (l:List (List Int)) (r:Nat):List Int:=(List.range r).map fun j=>oD (bU m s w l j) (iP m s w j)
def oO (m s:List (List Int)) (w:List Int) (r:Nat):List Int:=(List.range r).map fun j=>iV m s w j
structure bW where
 list:List (List Int)
 next:List (List Int)
 grows:List (List Int)
def aP (m s:List (List Int)) (x:Nat):Nat->bW
 | 0=>⟨[m.getD x []],[],[]⟩
 | i+1=>⟨bU m s ((aP m s x i).list.getD i []) (aP m s x i).list s.length,(aP m s x i).next++[zJ m s ((aP m s x i).list.getD i []) (aP m s x i).list s.length],(aP m s x i).grows++[oO m s ((aP m s x i).list.getD i []) s.length]⟩
def pJ (m s:List (List Int)) (x:Nat):Nat->Nat->bW×Bool
 | 0,i=>(aP m s x i,true)
 | f+1,i=>if i<(aP m s x i).list.length then (if 400<(aP m s x (i+1)).list.length then (⟨(aP m s x (i+1)).list,(aP m s x i).next,(aP m s x i).grows⟩,true) else pJ m s x f (i+1)) else (aP m s x i,false)
def gV (m s:List (List Int)) (x:Nat):bW×Bool:=pJ m s x 500 0
theorem kJ (w:List Int) (a:Int):(lessM w a).length=w.length:=by simp [lessM]
theorem yc {w:List Int} {a:Int} {j:Nat} (h:j<w.length):(lessM w a).getD j 0=w.getD j 0-a:=by
 unfold lessM
 simp [h]
theorem mW (w:List Int):∀ k j,j<=k->fH w k<=w.getD j 0
 | 0,j,h=>by
  obtain rfl:j=0:=by omega
  exact Int.le_refl _
 | k+1,j,h=>by
  simp only [fH]
  by_cases e:j=k+1
  ·subst e;omega
  ·have:=mW w k j (by omega)
   omega
theorem Iw {m s:List (List Int)} {w:List Int} {B:Int} (hp:aO m s=true) (hw:kW m w B) (hB:B<=1000000) {r:Nat} (hr:r<s.length) (hm:0<m.length):0<=iV m s w r/\iV m s w r<=B+119 :=
 uG (yu hp hw hB hr) _ (by omega)
theorem Yy {m s:List (List Int)} {w:List Int} {B:Int} (hp:aO m s=true) (hw:kW m w B) (hB:B<=1000000) {r:Nat} (hr:r<s.length) (hm:0<m.length):kW m (iP m s w r) (B+119):=by
 have h:=yu hp hw hB hr
 have h1:=Iw hp hw hB hr hm
 refine ⟨by unfold iP;rw [kJ,h.len],fun y hy =>?_⟩
 have h2:=h.at_ y hy
 have h3:=mW (gY m s w r) (m.length-1) y (by omega)
 unfold iP
 rw [yc (by rw [h.len];exact hy)]
 unfold iV at *
 omega
theorem lH (m s:List (List Int)) (w:List Int) (l:List (List Int)):∀ r,l.length<=(bU m s w l r).length/\(bU m s w l r).length<=l.length+r
 | 0=>by simp [bU]
 | r+1=>by
  have h1:=lH m s w l r
  have h2:=ni (bU m s w l r) (iP m s w r)
  simp only [bU]
  omega
theorem P7 (m s:List (List Int)) (w:List Int) (l:List (List Int)) (r:Nat):∀ k,(bU m s w l r).length<=(bU m s w l (r+k)).length
 | 0=>Nat.le_refl _
 | k+1=>by
  have h1:=P7 m s w l r k
  have h2:=ni (bU m s w l (r+k)) (iP m s w (r+k))
  rw [show r+(k+1)=(r+k)+1 by omega]
  simp only [bU]
  omega
theorem tu {m s:List (List Int)} {w:List Int} {l:List (List Int)} {i:Nat} (h:i<l.length):∀ r,(bU m s w l r).getD i []=l.getD i []
 | 0=>rfl
 | r+1=>by
  have h1:=lH m s w l r
  simp only [bU]
  rw [BJ (by omega),tu h r]
theorem KX {m s:List (List Int)} {w:List Int} {l:List (List Int)} {B:Int} (hp:aO m s=true) (hw:kW m w B) (hB:B<=1000000) (hm:0<m.length) (hl:∀ v∈l,kW m v B):∀ r,r<=s.length->∀ v∈bU m s w l r,kW m v (B+119)
 | 0,_,v,hv=>by
  have h:=hl v hv
  exact ⟨h.len,fun y hy=>by have:=h.at_ y hy;omega⟩
 | r+1,hr,v,hv=>by
  rcases wY hv with h | rfl
  ·exact KX hp hw hB hm hl r (by omega) v h
  ·exact Yy hp hw hB (by omega) hm
structure Y5 (m s:List (List Int)) (t:bW) (i:Nat):Prop where
 pos:0<t.list.length
 el:∀ v∈t.list,kW m v (99+119*i)
 nlen:t.next.length=i
 glen:t.grows.length=i
 row:∀ j,j<i->(t.next.getD j []).length=s.length/\(t.grows.getD j []).length=s.length
 nx:∀ j r,j<i->r<s.length->∃ k:Nat,(t.next.getD j []).getD r 0=k/\k<t.list.length
 gr:∀ j r,j<i->r<s.length->0<=(t.grows.getD j []).getD r 0/\(t.grows.getD j []).getD r 0<=99+119*i
theorem DR (m s:List (List Int)) (w:List Int) (l:List (List Int)) (r:Nat):(zJ m s w l r).length=r:=by simp [zJ]
theorem zI (m s:List (List Int)) (w:List Int) (r:Nat):(oO m s w r).length=r:=by simp [oO]
theorem uJ (m s:List (List Int)) (w:List Int) (l:List (List Int)) (r:Nat):zJ m s w l (r+1)=zJ m s w l r++[oD (bU m s w l r) (iP m s w r)]:=by simp [zJ,List.range_succ]
theorem qQ (m s:List (List Int)) (w:List Int) (r:Nat):oO m s w (r+1)=oO m s w r++[iV m s w r]:=by simp [oO,List.range_succ]
theorem fG {α:Type} {xs:List α} {y d:α} {j:Nat} (h:j<xs.length):(xs++[y]).getD j d=xs.getD j d:=by simp [List.getElem?_append_left h]
theorem fJ {α:Type} {xs:List α} {y d:α} {j:Nat} (h:j=xs.length):(xs++[y]).getD j d=y:=by subst h;simp
theorem Iy {m s:List (List Int)} {t:bW} {i:Nat} (h:Y5 m s t i) {j:Nat} (hj:j<t.list.length):kW m (t.list.getD j []) (99+119*i):=h.el _ (by rw [getD_in hj];exact List.getElem_mem hj)
theorem yA {m s:List (List Int)} {x:Nat} (hp:aO m s=true) (hx:x<m.length):∀ i,i<=1000->(∀ j,j<i->j<(aP m s x j).list.length)->Y5 m s (aP m s x i) i
 | 0,_,_=>by
  have h:=iH hp hx
  refine ⟨Nat.zero_lt_one,fun v hv =>?_,rfl,rfl,fun j hj=>by omega,fun j r hj=>by omega,fun j r hj=>by omega⟩
  simp only [aP,List.mem_singleton] at hv
  subst hv
  refine ⟨h.1,fun y hy =>?_⟩
  have:=h.2 y hy
  simp only [at2] at this
  omega
 | i+1,hi,hlt=>by
  have ih:=yA hp hx i (by omega) fun j hj=>hlt j (by omega)
  have hw:=Iy ih (hlt i (by omega))
  have hl:=lH m s ((aP m s x i).list.getD i []) (aP m s x i).list s.length
  have hp1:=ih.pos
  refine ⟨by simp only [aP];omega,fun v hv =>?_,by simp [aP,ih.nlen],by simp [aP,ih.glen],fun j hj =>?_,fun j r hj hr =>?_,fun j r hj hr =>?_⟩
  ·have:=KX hp hw (by omega) (by omega) ih.el s.length (Nat.le_refl _) v hv
   exact ⟨this.len,fun y hy=>by have:=this.at_ y hy;omega⟩
  ·simp only [aP]
   by_cases e:j=i
   ·rw [fJ (by rw [ih.nlen];exact e),fJ (by rw [ih.glen];exact e),DR,zI]
    exact ⟨rfl,rfl⟩
   ·rw [fG (by rw [ih.nlen];omega),fG (by rw [ih.glen];omega)]
    exact ih.row j (by omega)
  ·simp only [aP]
   by_cases e:j=i
   ·rw [fJ (by rw [ih.nlen];exact e)]
    unfold zJ
    rw [dK _ _ hr]
    obtain ⟨k,h1,h2,-⟩:=uM (bU m s ((aP m s x i).list.getD i []) (aP m s x i).list r) (iP m s ((aP m s x i).list.getD i []) r) []
    refine ⟨k,h1,Nat.lt_of_lt_of_le h2 ?_⟩
    have:=P7 m s ((aP m s x i).list.getD i []) (aP m s x i).list (r+1) (s.length-(r+1))
    rw [show r+1+(s.length-(r+1))=s.length by omega] at this
    exact this
   ·rw [fG (by rw [ih.nlen];omega)]
    obtain ⟨k,h1,h2⟩:=ih.nx j r (by omega) hr
    exact ⟨k,h1,by omega⟩
  ·simp only [aP]
   by_cases e:j=i
   ·rw [fJ (by rw [ih.glen];exact e)]
    unfold oO
    rw [dK _ _ hr]
    have:=Iw hp hw (by omega) hr (by omega)
    omega
   ·rw [fG (by rw [ih.glen];omega)]
    have:=ih.gr j r (by omega) hr
    omega
theorem oP {m s:List (List Int)} {x:Nat}:∀ f i,(pJ m s x f i).2=false->(∀ j,j<i->j<(aP m s x j).list.length)->∃ k,pJ m s x f i=(aP m s x k,false)/\k<=i+f/\(aP m s x k).list.length<=k/\∀ j,j<k->j<(aP m s x j).list.length
 | 0,i,h,_=>by simp [pJ] at h
 | f+1,i,h,hlt=>by
  unfold pJ at h ⊢
  by_cases h1:i<(aP m s x i).list.length
  ·rw [if_pos h1] at h ⊢
   by_cases h2:400<(aP m s x (i+1)).list.length
   ·rw [if_pos h2] at h;simp at h
   ·rw [if_neg h2] at h ⊢
    obtain ⟨k,k1,k2,k3,k4⟩:=oP f (i+1) h fun j hj=>by
     by_cases e:j=i
     ·rw [e];exact h1
     ·exact hlt j (by omega)
    exact ⟨k,k1,by omega,k3,k4⟩
  ·rw [if_neg h1]
   exact ⟨i,rfl,by omega,by omega,hlt⟩
structure vJ (m s:List (List Int)) (x i:Nat):Prop where
 le:i<=400
 len:(aP m s x i).list.length<=400
 lt:∀ j,j<i->j<(aP m s x j).list.length
 run:gV m s x=pJ m s x (500-i) i
theorem vJ.first (m s:List (List Int)) (x:Nat):vJ m s x 0:=⟨by omega,by simp [aP],fun j hj=>by omega,rfl⟩
theorem vJ.more {m s:List (List Int)} {x i:Nat} (h:vJ m s x i) (h1:i<(aP m s x i).list.length):500-i=(500-(i+1))+1/\∀ j,j<i+1->j<(aP m s x j).list.length :=
 ⟨by have:=h.le;omega,fun j hj=>by
  by_cases e:j=i
  ·rw [e];exact h1
  ·exact h.lt j (by omega)⟩
theorem vJ.next {m s:List (List Int)} {x i:Nat} (h:vJ m s x i) (h1:i<(aP m s x i).list.length) (h2:¬ 400<(aP m s x (i+1)).list.length):vJ m s x (i+1) :=
 ⟨by have:=h.len;omega,by omega,(h.more h1).2,by rw [h.run,(h.more h1).1,pJ,if_pos h1,if_neg h2]⟩
theorem vJ.large {m s:List (List Int)} {x i:Nat} (h:vJ m s x i) (h1:i<(aP m s x i).list.length) (h2:400<(aP m s x (i+1)).list.length):gV m s x=(⟨(aP m s x (i+1)).list,(aP m s x i).next,(aP m s x i).grows⟩,true):=by
 rw [h.run,(h.more h1).1,pJ,if_pos h1,if_pos h2]
theorem vJ.done {m s:List (List Int)} {x i:Nat} (h:vJ m s x i) (h1:¬ i<(aP m s x i).list.length):gV m s x=(aP m s x i,false):=by
 have:=h.le
 rw [h.run,show 500-i=(500-(i+1))+1 by omega,pJ,if_neg h1]
theorem Uu {m s:List (List Int)} {x:Nat} (hp:aO m s=true) (hx:x<m.length):lessM (m.getD x []) (fH (m.getD x []) (m.length-1))=m.getD x []:=by
 have hl:=iH hp hx
 have h1:=yD hp
 unfold lT at h1
 simp only [Bool.and_eq_true] at h1
 have h2:=h1.1
 unfold dZ at h2
 simp only [Bool.and_eq_true] at h2
 have h3:at2 m x x=0:=(vS.1 (bg.1 (bg.1 h2.2 x hx) x hx)).2.1 rfl
 have hw:kW m (m.getD x []) 99:=⟨hl.1,hl.2⟩
 have h4:=uG hw (m.length-1) (by omega)
 have h5:=mW (m.getD x []) (m.length-1) x (by omega)
 unfold at2 at h3
 have h6:fH (m.getD x []) (m.length-1)=0:=by omega
 rw [h6]
 simp [lessM]
theorem DI {p:Nat->Bool} {f g:Nat->Int} {c:Int} (hc:0<=c):∀ n,(∀ y,y<n->p y=true->f y<=g y+c)->gU p f n<=gU p g n+c
 | 0,_=>by simp only [gU];omega
 | n+1,h=>by
  have ih:=DI hc n fun y hy=>h y (by omega)
  simp only [gU]
  cases hp:p n with
  | false=>simpa using ih
  | true =>
   have h2:=h n (by omega) hp
   simp only [if_true]
   omega
theorem KQ {p:Nat->Bool} {f:Nat->Int}:∀ n y,y<n->p y=true->gU p f n<=f y
 | 0,y,h,_=>by omega
 | n+1,y,h,hp=>by
  simp only [gU]
  by_cases e:y=n
  ·subst e
   rw [if_pos hp]
   omega
  ·have ih:=KQ (p:=p) (f:=f) n y (by omega) hp
   split<;>omega
theorem Ld {m s:List (List Int)} (hp:aO m s=true) {x y z:Nat} (hx:x<m.length) (hy:y<m.length) (hz:z<m.length):at2 m x z<=at2 m x y+at2 m y z:=by
 have h1:=yD hp
 unfold lT at h1
 simp only [Bool.and_eq_true] at h1
 exact of_decide_eq_true (bg.1 (bg.1 (bg.1 h1.2 x hx) y hy) z hz)
theorem prob_0 {m s:List (List Int)} (hp:aO m s=true) {x:Nat} (hx:x<m.length):at2 m x x=0:=by
 have h1:=yD hp
 unfold lT at h1
 simp only [Bool.and_eq_true] at h1
 have h2:=h1.1
 unfold dZ at h2
 simp only [Bool.and_eq_true] at h2
 exact (vS.1 (bg.1 (bg.1 h2.2 x hx) x hx)).2.1 rfl
def Lip (m:List (List Int)) (w:List Int):Prop:=∀ a b,a<m.length->b<m.length->w.getD b 0<=w.getD a 0+at2 m a b
theorem Ro {m s:List (List Int)} (hp:aO m s=true) (w:List Int) (r:Nat):Lip m (gY m s w r):=fun a b ha hb=>by
 unfold gY
 rw [dK _ _ hb,dK _ _ ha]
 unfold wAt
 refine DI ((iH hp ha).2 b hb).1 _ fun y hy _ =>?_
 have:=Ld hp hy ha hb
 unfold ou
 omega
theorem zB (w:List Int):∀ k,∃ j,j<=k/\fH w k=w.getD j 0
 | 0=>⟨0,Nat.le_refl _,rfl⟩
 | k+1=>by
  obtain ⟨j,h1,h2⟩:=zB w k
  by_cases h:fH w k<=w.getD (k+1) 0
  ·exact ⟨j,by omega,by simp only [fH];omega⟩
  ·exact ⟨k+1,Nat.le_refl _,by simp only [fH];omega⟩
theorem NV {m s:List (List Int)} {w:List Int} (hp:aO m s=true) {r:Nat} (hm:0<m.length):kW m (iP m s w r) 99:=by
 have hn:=zF m s w r
 refine ⟨by unfold iP;rw [kJ,hn],fun y hy =>?_⟩
 have h3:=mW (gY m s w r) (m.length-1) y (by omega)
 obtain ⟨j,h1,h2⟩:=zB (gY m s w r) (m.length-1)
 have h4:=Ro hp w r j y (by omega) hy
 have h5:=(iH hp (show j<m.length by omega)).2 y hy
 unfold iP
 rw [yc (by rw [hn];exact hy)]
 unfold iV
 omega
theorem NT {m s:List (List Int)} {w:List Int} (hp:aO m s=true) (hw:kW m w 99) {r:Nat} (hr:r<s.length):iV m s w r<=119:=by
 obtain ⟨z,hz,h1⟩:=D5 hp hr
 have h2:=mW (gY m s w r) (m.length-1) z (by omega)
 have h3:(gY m s w r).getD z 0<=ou m s w r z z:=by
  unfold gY
  rw [dK _ _ hz]
  exact KQ _ _ hz (decide_eq_true h1)
 have h4:=hw.at_ z hz
 have h5:=qW hp hr z hz
 have h6:=prob_0 hp hz
 unfold ou at h3
 unfold iV
 omega
theorem DN {m s:List (List Int)} {w:List Int} {l:List (List Int)} (hp:aO m s=true) (hm:0<m.length) (hl:∀ v∈l,kW m v 99):∀ r,∀ v∈bU m s w l r,kW m v 99
 | 0,v,hv=>hl v hv
 | r+1,v,hv=>by
  rcases wY hv with h | rfl
  ·exact DN hp hm hl r v h
  ·exact NV hp hm
theorem wJ {m s:List (List Int)} {x:Nat} (hp:aO m s=true) (hx:x<m.length):∀ i,(∀ v∈(aP m s x i).list,kW m v 99)
 | 0=>fun v hv=>by
  have h:=iH hp hx
  simp only [aP,List.mem_singleton] at hv
  subst hv
  exact ⟨h.1,fun y hy=>h.2 y hy⟩
 | i+1=>DN hp (by omega) (wJ hp hx i) s.length
theorem Aj {m s:List (List Int)} {x:Nat} (hp:aO m s=true) (hx:x<m.length):∀ i,i<=1000->(∀ j,j<i->j<(aP m s x j).list.length)->∀ j r,j<i->r<s.length->((aP m s x i).grows.getD j []).getD r 0<=119
 | 0,_,_,j,r,hj,_=>by omega
 | i+1,hi,hlt,j,r,hj,hr=>by
  have ih:=yA hp hx i (by omega) fun j hj=>hlt j (by omega)
  simp only [aP]
  by_cases e:j=i
  ·rw [fJ (by rw [ih.glen];exact e)]
   unfold oO
   rw [dK _ _ hr]
   have h1:=hlt i (by omega)
   exact NT hp (wJ hp hx i _ (by rw [getD_in h1];exact List.getElem_mem h1)) hr
  ·rw [fG (by rw [ih.glen];omega)]
   exact Aj hp hx i (by omega) (fun j hj=>hlt j (by omega)) j r (by omega) hr
end Go.Proofs.YtkcelmnbfbehbaaGreat
