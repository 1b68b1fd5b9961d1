/- Work functions: the plain laws. Conditions: problems that are right. -/
import Derived.Test.YtnblieajjclipaaGreatZRU
set_option linter.all false
namespace Go.Proofs.YtnblieajjclipaaGreat
def lG (m s:List (List Int)) (w:List Int) (r x y:Nat):Int:=w.getD y 0+at2 s r y+at2 m y x
def wAt (m s:List (List Int)) (w:List Int) (r x:Nat):Int:=fB (fun y=>decide (0<=at2 s r y)) (lG m s w r x) m.length
def fJ (m s:List (List Int)) (w:List Int) (r:Nat):List Int:=(List.range m.length).map fun x=>wAt m s w r x
def tJ (m s:List (List Int)) (x:Nat) (rs:List Int):List Int:=rs.foldl (fun w r=>fJ m s w r.toNat) (m.getD x [])
structure jv (m:List (List Int)) (w:List Int) (B:Int):Prop where
 len:w.length=m.length
 at_:∀ y,y<m.length->0<=w.getD y 0/\w.getD y 0<=B
theorem zQ (m s:List (List Int)) (w:List Int) (r:Nat):(fJ m s w r).length=m.length:=by simp [fJ]
theorem QY {m s:List (List Int)} {w:List Int} {B:Int} (hp:bg m s=true) (hw:jv m w B) {r x y:Nat} (hr:r<s.length) (hx:x<m.length) (hy:y<m.length) (hs:0<=at2 s r y):0<=lG m s w r x y/\lG m s w r x y<=B+119:=by
 have h1:=hw.at_ y hy
 have h2:=wI hp hr y hy
 have h3:=(iC hp hy).2 x hx
 unfold lG
 omega
theorem Jf {m s:List (List Int)} {w:List Int} {B:Int} (hp:bg m s=true) (hw:jv m w B) (hB:B<=1000000) {r x:Nat} (hr:r<s.length) (hx:x<m.length) :
  minS (fun y=>decide (0<=at2 s r y)) (lG m s w r x) m.length=wAt m s w r x/\0<=wAt m s w r x/\wAt m s w r x<=B+119:=by
 have hb:∀ y,y<m.length->decide (0<=at2 s r y)=true->0<=lG m s w r x y/\lG m s w r x y<=B+119:=fun y hy h=>QY hp hw hr hx hy (of_decide_eq_true h)
 unfold wAt
 rcases Yf (n:=m.length) (p:=fun y=>decide (0<=at2 s r y)) (f:=lG m s w r x) fun y hy h=>⟨(hb y hy h).1,by have:=(hb y hy h).2;omega⟩ with ⟨_,_,h3⟩ | ⟨h1,h2,_,y,h4,h5,h6⟩
 ·obtain ⟨y,hy,h4⟩:=Ec hp hr
  have:=h3 y hy
  simp at this
  omega
 ·have:=hb y h4 h5
  exact ⟨h1,h2,by omega⟩
theorem sK {m s:List (List Int)} {w:List Int} {B:Int} (hp:bg m s=true) (hw:jv m w B) (hB:B<=1000000) {r:Nat} (hr:r<s.length):jv m (fJ m s w r) (B+119) :=
 ⟨zQ m s w r,fun y hy=>by
  have h:=(Jf hp hw hB hr hy).2
  unfold fJ
  rw [dN _ _ hy]
  exact h⟩
theorem wW {m s:List (List Int)} {x:Nat} {rs:List Int} {k:Nat} (h:k<rs.length):tJ m s x (rs.take (k+1))=fJ m s (tJ m s x (rs.take k)) (rs.getD k 0).toNat:=by
 unfold tJ
 rw [eU h 0,List.foldl_append]
 rfl
theorem zf {m s:List (List Int)} (hp:bg m s=true) {x:Nat} (hx:x<m.length) {rs:List Int} (hq:lX s.length rs) (hl:rs.length<=1000):∀ k,k<=rs.length->jv m (tJ m s x (rs.take k)) (99+119*k)
 | 0,_=>by
  have h:=iC hp hx
  refine ⟨h.1,fun y hy =>?_⟩
  have:=h.2 y hy
  simp only [at2] at this
  simp only [tJ,List.take_zero,List.foldl_nil]
  omega
 | k+1,hk=>by
  have ih:=zf hp hx hq hl k (by omega)
  obtain ⟨r,h1,h2⟩:=hq.at (show k<rs.length by omega)
  rw [wW (by omega),h1,Int.toNat_natCast]
  have h3:=sK hp ih (by omega) h2
  refine ⟨h3.len,fun y hy =>?_⟩
  have:=h3.at_ y hy
  omega
def dn (w:List Int):Nat->Int
 | 0=>w.getD 0 0
 | k+1=>min (dn w k) (w.getD (k+1) 0)
theorem mQ {m:List (List Int)} {w:List Int} {B:Int} (hw:jv m w B):∀ k,k<m.length->0<=dn w k/\dn w k<=B
 | 0,h=>hw.at_ 0 h
 | k+1,h=>by
  have h1:=mQ hw k (by omega)
  have h2:=hw.at_ (k+1) h
  simp only [dn]
  omega
def IC (m s:List (List Int)) (x:Nat) (rs:List Int):Int:=dn (tJ m s x rs) (m.length-1)
def Q8 (f:Nat->Int) (l:List Int):Int:=l.foldl (fun a y=>min a (f y.toNat)) 1073741824
theorem Xo (f:Nat->Int) (l:List Int):Q8 f l=min 1073741824 (Xn f l):=by
 unfold Q8 Xn
 suffices h:∀ (l:List Int) (a b:Int),l.foldl (fun a y=>min a (f y.toNat)) (min a b)=min a (l.foldl (fun a y=>min a (f y.toNat)) b) from h l 1073741824 1152921504606846976
 intro l
 induction l with
 | nil=>intro a b;rfl
 | cons y l ih =>
  intro a b
  simp only [List.foldl_cons]
  rw [show min (min a b) (f y.toNat)=min a (min b (f y.toNat)) by omega]
  exact ih _ _
theorem Q9 {f:Nat->Int} {l:List Int} {t:Nat} (h:t<l.length):Q8 f (l.take (t+1))=min (Q8 f (l.take t)) (f (l.getD t 0).toNat):=by
 unfold Q8
 rw [eU h 0,List.foldl_append]
 rfl
def SX (m s:List (List Int)) (w:List Int) (r t x:Nat):Int:=Q8 (lG m s w r x) ((srv s m.length r).take t)
def yN (m s:List (List Int)) (w:List Int) (r t x:Nat):List Int:=(List.range m.length).map fun j=>if j<x then SX m s w r (t+1) j else SX m s w r t j
theorem Lu (m s:List (List Int)) (w:List Int) (r t x:Nat):(yN m s w r t x).length=m.length:=by simp [yN]
theorem YH {m s:List (List Int)} {w:List Int} {r t x:Nat} (h:x<m.length):(yN m s w r t x).getD x 0=SX m s w r t x:=by
 unfold yN
 rw [dN _ _ h,if_neg (Nat.lt_irrefl _)]
theorem WL {m s:List (List Int)} {w:List Int} {r t x z:Nat} (h:t<(srv s m.length r).length) (hz:(srv s m.length r).getD t 0=z):(yN m s w r t x).set x (min (SX m s w r t x) (lG m s w r x z))=yN m s w r t (x+1):=by
 unfold yN
 rw [qK]
 refine gW fun j _ =>?_
 by_cases e:j=x
 ·subst e
  rw [if_pos rfl,if_pos (by omega)]
  unfold SX
  rw [Q9 h,hz,Int.toNat_natCast]
 ·rw [if_neg e]
  by_cases h1:j<x
  ·rw [if_pos h1,if_pos (by omega)]
  ·rw [if_neg h1,if_neg (by omega)]
theorem Ol {m s:List (List Int)} {w:List Int} {r:Nat}:List.replicate m.length (1073741824:Int)=yN m s w r 0 0:=by
 unfold yN
 rw [SC]
 exact gW fun j _=>rfl
theorem SG {m s:List (List Int)} {w:List Int} {r t:Nat}:yN m s w r t m.length=yN m s w r (t+1) 0:=by
 refine gW fun j hj =>?_
 rw [if_pos hj,if_neg (by omega)]
theorem WJ {m s:List (List Int)} {w:List Int} {B:Int} (hp:bg m s=true) (hw:jv m w B) (hB:B<=1000000) {r:Nat} (hr:r<s.length):yN m s w r (srv s m.length r).length 0=fJ m s w r:=by
 refine gW fun j hj =>?_
 rw [if_neg (by omega)]
 unfold SX
 rw [List.take_length,Xo,BQ]
 have h:=(Jf hp hw hB hr hj).2
 unfold wAt at h ⊢
 omega
section
variable {α:Type} [DecidableEq α]
def fV (l:List α) (x:α):Int:=idxOf (fun y=>decide (y=x)) l
def kT (l:List α) (x:α):List α:=if fV l x<0 then l++[x] else l
def sZ (l:List α) (x:α):Int:=if fV l x<0 then l.length else fV l x
omit [DecidableEq α] in
theorem Dt {p:α->Bool} {l:List α} (h:0<=idxOf p l):∃ k:Nat,∃ hk:k<l.length,idxOf p l=k/\p l[k]=true:=by
 cases e:l.findIdx? p with
 | none =>
  have:idxOf p l = -1:=by unfold idxOf;rw [e]
  omega
 | some i =>
  obtain ⟨h1,h2,-⟩:=List.findIdx?_eq_some_iff_getElem.1 e
  exact ⟨i,h1,by unfold idxOf;rw [e],h2⟩
theorem wX (l:List α) (x:α):l.length<=(kT l x).length/\(kT l x).length<=l.length+1:=by
 unfold kT
 split<;>simp
theorem Jm {l:List α} {x:α} {d:α} {i:Nat} (h:i<l.length):(kT l x).getD i d=l.getD i d:=by
 unfold kT
 split
 ·simp [List.getElem?_append_left h]
 ·rfl
theorem BR {l:List α} {x y:α} (h:y∈kT l x):y∈l\/y=x:=by
 unfold kT at h
 split at h
 ·simpa using h
 ·exact .inl h
theorem BH (l:List α) (x:α) (d:α):∃ k:Nat,sZ l x=k/\k<(kT l x).length/\(kT l x).getD k d=x:=by
 unfold sZ kT
 by_cases h:fV l x<0
 ·rw [if_pos h,if_pos h]
  exact ⟨l.length,rfl,by simp,by simp⟩
 ·rw [if_neg h,if_neg h]
  obtain ⟨k,hk,h1,h2⟩:=Dt (Int.not_lt.1 h)
  exact ⟨k,h1,hk,by rw [← of_decide_eq_true h2];simp [hk]⟩
end
def iM (m s:List (List Int)) (w:List Int) (r:Nat):Int:=dn (fJ m s w r) (m.length-1)
def lessM (w:List Int) (a:Int):List Int:=w.map fun b=>b-a
def iG (m s:List (List Int)) (w:List Int) (r:Nat):List Int:=lessM (fJ m s w r) (iM m s w r)
def bV (m s:List (List Int)) (w:List Int) (l:List (List Int)):Nat->List (List Int)
 | 0=>l
 | r+1=>kT (bV m s w l r) (iG m s w r)
def zU (m s:List (List Int)) (w:List Int) (l:List (List Int)) (r:Nat):List Int:=(List.range r).map fun j=>sZ (bV m s w l j) (iG m s w j)
def ou (m s:List (List Int)) (w:List Int) (r:Nat):List Int:=(List.range r).map fun j=>iM m s w j
structure dD where
 list:List (List Int)
 next:List (List Int)
 grows:List (List Int)
def aP (m s:List (List Int)) (x:Nat):Nat->dD
 | 0=>⟨[m.getD x []],[],[]⟩
 | i+1=>⟨bV m s ((aP m s x i).list.getD i []) (aP m s x i).list s.length,(aP m s x i).next++[zU m s ((aP m s x i).list.getD i []) (aP m s x i).list s.length],(aP m s x i).grows++[ou m s ((aP m s x i).list.getD i []) s.length]⟩
def oM (m s:List (List Int)) (x:Nat):Nat->Nat->dD×Bool
 | 0,i=>(aP m s x i,true)
 | f+1,i=>if i<(aP m s x i).list.length then (if 400<(aP m s x (i+1)).list.length then (⟨(aP m s x (i+1)).list,(aP m s x i).next,(aP m s x i).grows⟩,true) else oM m s x f (i+1)) else (aP m s x i,false)
def jq (m s:List (List Int)) (x:Nat):dD×Bool:=oM m s x 500 0
theorem kC (w:List Int) (a:Int):(lessM w a).length=w.length:=by simp [lessM]
theorem yw {w:List Int} {a:Int} {j:Nat} (h:j<w.length):(lessM w a).getD j 0=w.getD j 0-a:=by
 unfold lessM
 simp [h]
theorem ku (w:List Int):∀ k j,j<=k->dn w k<=w.getD j 0
 | 0,j,h=>by
  obtain rfl:j=0:=by omega
  exact Int.le_refl _
 | k+1,j,h=>by
  simp only [dn]
  by_cases e:j=k+1
  ·subst e;omega
  ·have:=ku w k j (by omega)
   omega
theorem Iy {m s:List (List Int)} {w:List Int} {B:Int} (hp:bg m s=true) (hw:jv m w B) (hB:B<=1000000) {r:Nat} (hr:r<s.length) (hm:0<m.length):0<=iM m s w r/\iM m s w r<=B+119 :=
 mQ (sK hp hw hB hr) _ (by omega)
theorem Yp {m s:List (List Int)} {w:List Int} {B:Int} (hp:bg m s=true) (hw:jv m w B) (hB:B<=1000000) {r:Nat} (hr:r<s.length) (hm:0<m.length):jv m (iG m s w r) (B+119):=by
 have h:=sK hp hw hB hr
 have h1:=Iy hp hw hB hr hm
 refine ⟨by unfold iG;rw [kC,h.len],fun y hy =>?_⟩
 have h2:=h.at_ y hy
 have h3:=ku (fJ m s w r) (m.length-1) y (by omega)
 unfold iG
 rw [yw (by rw [h.len];exact hy)]
 unfold iM at *
 omega
theorem lD (m s:List (List Int)) (w:List Int) (l:List (List Int)):∀ r,l.length<=(bV m s w l r).length/\(bV m s w l r).length<=l.length+r
 | 0=>by simp [bV]
 | r+1=>by
  have h1:=lD m s w l r
  have h2:=wX (bV m s w l r) (iG m s w r)
  simp only [bV]
  omega
theorem Ql (m s:List (List Int)) (w:List Int) (l:List (List Int)) (r:Nat):∀ k,(bV m s w l r).length<=(bV m s w l (r+k)).length
 | 0=>Nat.le_refl _
 | k+1=>by
  have h1:=Ql m s w l r k
  have h2:=wX (bV m s w l (r+k)) (iG m s w (r+k))
  rw [show r+(k+1)=(r+k)+1 by omega]
  simp only [bV]
  omega
theorem sO {m s:List (List Int)} {w:List Int} {l:List (List Int)} {i:Nat} (h:i<l.length):∀ r,(bV m s w l r).getD i []=l.getD i []
 | 0=>rfl
 | r+1=>by
  have h1:=lD m s w l r
  simp only [bV]
  rw [Jm (by omega),sO h r]
theorem La {m s:List (List Int)} {w:List Int} {l:List (List Int)} {B:Int} (hp:bg m s=true) (hw:jv m w B) (hB:B<=1000000) (hm:0<m.length) (hl:∀ v∈l,jv m v B):∀ r,r<=s.length->∀ v∈bV m s w l r,jv m v (B+119)
 | 0,_,v,hv=>by
  have h:=hl v hv
  exact ⟨h.len,fun y hy=>by have:=h.at_ y hy;omega⟩
 | r+1,hr,v,hv=>by
  rcases BR hv with h | rfl
  ·exact La hp hw hB hm hl r (by omega) v h
  ·exact Yp hp hw hB (by omega) hm
structure YS (m s:List (List Int)) (t:dD) (i:Nat):Prop where
 pos:0<t.list.length
 el:∀ v∈t.list,jv m v (99+119*i)
 nlen:t.next.length=i
 glen:t.grows.length=i
 row:∀ j,j<i->(t.next.getD j []).length=s.length/\(t.grows.getD j []).length=s.length
 nx:∀ j r,j<i->r<s.length->∃ k:Nat,(t.next.getD j []).getD r 0=k/\k<t.list.length
 gr:∀ j r,j<i->r<s.length->0<=(t.grows.getD j []).getD r 0/\(t.grows.getD j []).getD r 0<=99+119*i
theorem DY (m s:List (List Int)) (w:List Int) (l:List (List Int)) (r:Nat):(zU m s w l r).length=r:=by simp [zU]
theorem zT (m s:List (List Int)) (w:List Int) (r:Nat):(ou m s w r).length=r:=by simp [ou]
theorem uz (m s:List (List Int)) (w:List Int) (l:List (List Int)) (r:Nat):zU m s w l (r+1)=zU m s w l r++[sZ (bV m s w l r) (iG m s w r)]:=by simp [zU,List.range_succ]
theorem qI (m s:List (List Int)) (w:List Int) (r:Nat):ou m s w (r+1)=ou m s w r++[iM m s w r]:=by simp [ou,List.range_succ]
theorem gU {α:Type} {xs:List α} {y d:α} {j:Nat} (h:j<xs.length):(xs++[y]).getD j d=xs.getD j d:=by simp [List.getElem?_append_left h]
theorem iI {α:Type} {xs:List α} {y d:α} {j:Nat} (h:j=xs.length):(xs++[y]).getD j d=y:=by subst h;simp
theorem Iz {m s:List (List Int)} {t:dD} {i:Nat} (h:YS m s t i) {j:Nat} (hj:j<t.list.length):jv m (t.list.getD j []) (99+119*i):=h.el _ (by rw [getD_in hj];exact List.getElem_mem hj)
theorem yE {m s:List (List Int)} {x:Nat} (hp:bg m s=true) (hx:x<m.length):∀ i,i<=1000->(∀ j,j<i->j<(aP m s x j).list.length)->YS m s (aP m s x i) i
 | 0,_,_=>by
  have h:=iC hp hx
  refine ⟨Nat.zero_lt_one,fun v hv =>?_,rfl,rfl,fun j hj=>by omega,fun j r hj=>by omega,fun j r hj=>by omega⟩
  simp only [aP,List.mem_singleton] at hv
  subst hv
  refine ⟨h.1,fun y hy =>?_⟩
  have:=h.2 y hy
  simp only [at2] at this
  omega
 | i+1,hi,hlt=>by
  have ih:=yE hp hx i (by omega) fun j hj=>hlt j (by omega)
  have hw:=Iz ih (hlt i (by omega))
  have hl:=lD m s ((aP m s x i).list.getD i []) (aP m s x i).list s.length
  have hp1:=ih.pos
  refine ⟨by simp only [aP];omega,fun v hv =>?_,by simp [aP,ih.nlen],by simp [aP,ih.glen],fun j hj =>?_,fun j r hj hr =>?_,fun j r hj hr =>?_⟩
  ·have:=La hp hw (by omega) (by omega) ih.el s.length (Nat.le_refl _) v hv
   exact ⟨this.len,fun y hy=>by have:=this.at_ y hy;omega⟩
  ·simp only [aP]
   by_cases e:j=i
   ·rw [iI (by rw [ih.nlen];exact e),iI (by rw [ih.glen];exact e),DY,zT]
    exact ⟨rfl,rfl⟩
   ·rw [gU (by rw [ih.nlen];omega),gU (by rw [ih.glen];omega)]
    exact ih.row j (by omega)
  ·simp only [aP]
   by_cases e:j=i
   ·rw [iI (by rw [ih.nlen];exact e)]
    unfold zU
    rw [dN _ _ hr]
    obtain ⟨k,h1,h2,-⟩:=BH (bV m s ((aP m s x i).list.getD i []) (aP m s x i).list r) (iG m s ((aP m s x i).list.getD i []) r) []
    refine ⟨k,h1,Nat.lt_of_lt_of_le h2 ?_⟩
    have:=Ql m s ((aP m s x i).list.getD i []) (aP m s x i).list (r+1) (s.length-(r+1))
    rw [show r+1+(s.length-(r+1))=s.length by omega] at this
    exact this
   ·rw [gU (by rw [ih.nlen];omega)]
    obtain ⟨k,h1,h2⟩:=ih.nx j r (by omega) hr
    exact ⟨k,h1,by omega⟩
  ·simp only [aP]
   by_cases e:j=i
   ·rw [iI (by rw [ih.glen];exact e)]
    unfold ou
    rw [dN _ _ hr]
    have:=Iy hp hw (by omega) hr (by omega)
    omega
   ·rw [gU (by rw [ih.glen];omega)]
    have:=ih.gr j r (by omega) hr
    omega
theorem oC {m s:List (List Int)} {x:Nat}:∀ f i,(oM m s x f i).2=false->(∀ j,j<i->j<(aP m s x j).list.length)->∃ k,oM m s x f i=(aP m s x k,false)/\k<=i+f/\(aP m s x k).list.length<=k/\∀ j,j<k->j<(aP m s x j).list.length
 | 0,i,h,_=>by simp [oM] at h
 | f+1,i,h,hlt=>by
  unfold oM at h ⊢
  by_cases h1:i<(aP m s x i).list.length
  ·rw [if_pos h1] at h ⊢
   by_cases h2:400<(aP m s x (i+1)).list.length
   ·rw [if_pos h2] at h;simp at h
   ·rw [if_neg h2] at h ⊢
    obtain ⟨k,k1,k2,k3,k4⟩:=oC f (i+1) h fun j hj=>by
     by_cases e:j=i
     ·rw [e];exact h1
     ·exact hlt j (by omega)
    exact ⟨k,k1,by omega,k3,k4⟩
  ·rw [if_neg h1]
   exact ⟨i,rfl,by omega,by omega,hlt⟩
structure vF (m s:List (List Int)) (x i:Nat):Prop where
 le:i<=400
 len:(aP m s x i).list.length<=400
 lt:∀ j,j<i->j<(aP m s x j).list.length
 run:jq m s x=oM m s x (500-i) i
theorem vF.first (m s:List (List Int)) (x:Nat):vF m s x 0:=⟨by omega,by simp [aP],fun j hj=>by omega,rfl⟩
theorem vF.more {m s:List (List Int)} {x i:Nat} (h:vF m s x i) (h1:i<(aP m s x i).list.length):500-i=(500-(i+1))+1/\∀ j,j<i+1->j<(aP m s x j).list.length :=
 ⟨by have:=h.le;omega,fun j hj=>by
  by_cases e:j=i
  ·rw [e];exact h1
  ·exact h.lt j (by omega)⟩
theorem vF.next {m s:List (List Int)} {x i:Nat} (h:vF m s x i) (h1:i<(aP m s x i).list.length) (h2:¬ 400<(aP m s x (i+1)).list.length):vF m s x (i+1) :=
 ⟨by have:=h.len;omega,by omega,(h.more h1).2,by rw [h.run,(h.more h1).1,oM,if_pos h1,if_neg h2]⟩
theorem vF.large {m s:List (List Int)} {x i:Nat} (h:vF m s x i) (h1:i<(aP m s x i).list.length) (h2:400<(aP m s x (i+1)).list.length):jq m s x=(⟨(aP m s x (i+1)).list,(aP m s x i).next,(aP m s x i).grows⟩,true):=by
 rw [h.run,(h.more h1).1,oM,if_pos h1,if_pos h2]
theorem vF.done {m s:List (List Int)} {x i:Nat} (h:vF m s x i) (h1:¬ i<(aP m s x i).list.length):jq m s x=(aP m s x i,false):=by
 have:=h.le
 rw [h.run,show 500-i=(500-(i+1))+1 by omega,oM,if_neg h1]
theorem Uz {m s:List (List Int)} {x:Nat} (hp:bg m s=true) (hx:x<m.length):lessM (m.getD x []) (dn (m.getD x []) (m.length-1))=m.getD x []:=by
 have hl:=iC hp hx
 have h1:=yK hp
 unfold lM at h1
 simp only [Bool.and_eq_true] at h1
 have h2:=h1.1
 unfold dY at h2
 simp only [Bool.and_eq_true] at h2
 have h3:at2 m x x=0:=(vM.1 (bF.1 (bF.1 h2.2 x hx) x hx)).2.1 rfl
 have hw:jv m (m.getD x []) 99:=⟨hl.1,hl.2⟩
 have h4:=mQ hw (m.length-1) (by omega)
 have h5:=ku (m.getD x []) (m.length-1) x (by omega)
 unfold at2 at h3
 have h6:dn (m.getD x []) (m.length-1)=0:=by omega
 rw [h6]
 simp [lessM]
theorem DV {p:Nat->Bool} {f g:Nat->Int} {c:Int} (hc:0<=c):∀ n,(∀ y,y<n->p y=true->f y<=g y+c)->fB p f n<=fB p g n+c
 | 0,_=>by simp only [fB];omega
 | n+1,h=>by
  have ih:=DV hc n fun y hy=>h y (by omega)
  simp only [fB]
  cases hp:p n with
  | false=>simpa using ih
  | true =>
   have h2:=h n (by omega) hp
   simp only [if_true]
   omega
theorem KW {p:Nat->Bool} {f:Nat->Int}:∀ n y,y<n->p y=true->fB p f n<=f y
 | 0,y,h,_=>by omega
 | n+1,y,h,hp=>by
  simp only [fB]
  by_cases e:y=n
  ·subst e
   rw [if_pos hp]
   omega
  ·have ih:=KW (p:=p) (f:=f) n y (by omega) hp
   split<;>omega
theorem Lj {m s:List (List Int)} (hp:bg m s=true) {x y z:Nat} (hx:x<m.length) (hy:y<m.length) (hz:z<m.length):at2 m x z<=at2 m x y+at2 m y z:=by
 have h1:=yK hp
 unfold lM at h1
 simp only [Bool.and_eq_true] at h1
 exact of_decide_eq_true (bF.1 (bF.1 (bF.1 h1.2 x hx) y hy) z hz)
theorem prob_0 {m s:List (List Int)} (hp:bg m s=true) {x:Nat} (hx:x<m.length):at2 m x x=0:=by
 have h1:=yK hp
 unfold lM at h1
 simp only [Bool.and_eq_true] at h1
 have h2:=h1.1
 unfold dY at h2
 simp only [Bool.and_eq_true] at h2
 exact (vM.1 (bF.1 (bF.1 h2.2 x hx) x hx)).2.1 rfl
def Lip (m:List (List Int)) (w:List Int):Prop:=∀ a b,a<m.length->b<m.length->w.getD b 0<=w.getD a 0+at2 m a b
theorem RV {m s:List (List Int)} (hp:bg m s=true) (w:List Int) (r:Nat):Lip m (fJ m s w r):=fun a b ha hb=>by
 unfold fJ
 rw [dN _ _ hb,dN _ _ ha]
 unfold wAt
 refine DV ((iC hp ha).2 b hb).1 _ fun y hy _ =>?_
 have:=Lj hp hy ha hb
 unfold lG
 omega
theorem zK (w:List Int):∀ k,∃ j,j<=k/\dn w k=w.getD j 0
 | 0=>⟨0,Nat.le_refl _,rfl⟩
 | k+1=>by
  obtain ⟨j,h1,h2⟩:=zK w k
  by_cases h:dn w k<=w.getD (k+1) 0
  ·exact ⟨j,by omega,by simp only [dn];omega⟩
  ·exact ⟨k+1,Nat.le_refl _,by simp only [dn];omega⟩
theorem N8 {m s:List (List Int)} {w:List Int} (hp:bg m s=true) {r:Nat} (hm:0<m.length):jv m (iG m s w r) 99:=by
 have hn:=zQ m s w r
 refine ⟨by unfold iG;rw [kC,hn],fun y hy =>?_⟩
 have h3:=ku (fJ m s w r) (m.length-1) y (by omega)
 obtain ⟨j,h1,h2⟩:=zK (fJ m s w r) (m.length-1)
 have h4:=RV hp w r j y (by omega) hy
 have h5:=(iC hp (show j<m.length by omega)).2 y hy
 unfold iG
 rw [yw (by rw [hn];exact hy)]
 unfold iM
 omega
theorem NY {m s:List (List Int)} {w:List Int} (hp:bg m s=true) (hw:jv m w 99) {r:Nat} (hr:r<s.length):iM m s w r<=119:=by
 obtain ⟨z,hz,h1⟩:=Ec hp hr
 have h2:=ku (fJ m s w r) (m.length-1) z (by omega)
 have h3:(fJ m s w r).getD z 0<=lG m s w r z z:=by
  unfold fJ
  rw [dN _ _ hz]
  exact KW _ _ hz (decide_eq_true h1)
 have h4:=hw.at_ z hz
 have h5:=wI hp hr z hz
 have h6:=prob_0 hp hz
 unfold lG at h3
 unfold iM
 omega
theorem DX {m s:List (List Int)} {w:List Int} {l:List (List Int)} (hp:bg m s=true) (hm:0<m.length) (hl:∀ v∈l,jv m v 99):∀ r,∀ v∈bV m s w l r,jv m v 99
 | 0,v,hv=>hl v hv
 | r+1,v,hv=>by
  rcases BR hv with h | rfl
  ·exact DX hp hm hl r v h
  ·exact N8 hp hm
theorem wF {m s:List (List Int)} {x:Nat} (hp:bg m s=true) (hx:x<m.length):∀ i,(∀ v∈(aP m s x i).list,jv m v 99)
 | 0=>fun v hv=>by
  have h:=iC hp hx
  simp only [aP,List.mem_singleton] at hv
  subst hv
  exact ⟨h.1,fun y hy=>h.2 y hy⟩
 | i+1=>DX hp (by omega) (wF hp hx i) s.length
theorem AL {m s:List (List Int)} {x:Nat} (hp:bg m s=true) (hx:x<m.length):∀ i,i<=1000->(∀ j,j<i->j<(aP m s x j).list.length)->∀ j r,j<i->r<s.length->((aP m s x i).grows.getD j []).getD r 0<=119
 | 0,_,_,j,r,hj,_=>by omega
 | i+1,hi,hlt,j,r,hj,hr=>by
  have ih:=yE hp hx i (by omega) fun j hj=>hlt j (by omega)
  simp only [aP]
  by_cases e:j=i
  ·rw [iI (by rw [ih.glen];exact e)]
   unfold ou
   rw [dN _ _ hr]
   have h1:=hlt i (by omega)
   exact NY hp (wF hp hx i _ (by rw [getD_in h1];exact List.getElem_mem h1)) hr
  ·rw [gU (by rw [ih.glen];omega)]
   exact AL hp hx i (by omega) (fun j hj=>hlt j (by omega)) j r (by omega) hr
end Go.Proofs.YtnblieajjclipaaGreat
