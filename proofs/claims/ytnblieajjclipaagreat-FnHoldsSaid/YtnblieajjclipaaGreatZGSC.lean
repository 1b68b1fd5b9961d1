/- The positions and choices of a game: the plain laws. Conditions: problems that are right. -/
import Derived.Test.YtnblieajjclipaaGreatGWO
set_option linter.all false
namespace Go.Proofs.YtnblieajjclipaaGreat
def mD (t:dD) (w r:Nat) (u:Int):List Int:=[u,(t.next.getD w []).getD r 0]
def Aq (m s:List (List Int)) (st r:Nat) (u:Int):Int:=at2 m st u.toNat+at2 s r u.toNat
def Dq (t:dD) (w r:Nat):Int:=(t.grows.getD w []).getD r 0
def chG (m s:List (List Int)) (t:dD) (i st w r:Nat) (l:List (List Int)) (u:Int):List Int:=[(i:Int),sZ l (mD t w r u),Aq m s st r u,Dq t w r,(r:Int),u]
def eF (m s:List (List Int)) (t:dD) (i st w r:Nat) (q:List (List Int)×List (List Int)) (u:Int):List (List Int)×List (List Int):=(kT q.1 (mD t w r u),q.2++[chG m s t i st w r q.1 u])
def dV (m s:List (List Int)) (t:dD) (i st w r:Nat) (l:List (List Int)) (us:List Int):List (List Int)×List (List Int):=us.foldl (eF m s t i st w r) (l,[])
def bC (m s:List (List Int)) (t:dD) (i st w:Nat) (l:List (List Int)):Nat->List (List Int)×List (List (List Int))
 | 0=>(l,[])
 | r+1=>((dV m s t i st w r (bC m s t i st w l r).1 (srv s m.length r)).1,(bC m s t i st w l r).2++[(dV m s t i st w r (bC m s t i st w l r).1 (srv s m.length r)).2])
structure GmT where
 list:List (List Int)
 ch:List (List (List (List Int)))
def fF (g:GmT) (i:Nat):Nat:=((g.list.getD i []).getD 0 0).toNat
def iE (g:GmT) (i:Nat):Nat:=((g.list.getD i []).getD 1 0).toNat
def gmT (m s:List (List Int)) (t:dD) (x:Nat):Nat->GmT
 | 0=>⟨[[(x:Int),0]],[]⟩
 | i+1=>⟨(bC m s t i (fF (gmT m s t x i) i) (iE (gmT m s t x i) i) (gmT m s t x i).list s.length).1,(gmT m s t x i).ch++[(bC m s t i (fF (gmT m s t x i) i) (iE (gmT m s t x i) i) (gmT m s t x i).list s.length).2]⟩
def lU (m s:List (List Int)) (t:dD) (x:Nat):Nat->Nat->GmT×Bool
 | 0,i=>(gmT m s t x i,true)
 | f+1,i=>if i<(gmT m s t x i).list.length then (if 60<(gmT m s t x (i+1)).list.length then (gmT m s t x (i+1),true) else lU m s t x f (i+1)) else (gmT m s t x i,false)
def gm (m s:List (List Int)) (x:Nat):GmT×Bool:=bif (jq m s x).2 then (⟨[[(x:Int),0]],[]⟩,true) else lU m s (jq m s x).1 x 100 0
theorem zC (m s:List (List Int)) (t:dD) (i st w r:Nat) (l:List (List Int)) (us:List Int) (u:Int):dV m s t i st w r l (us++[u])=eF m s t i st w r (dV m s t i st w r l us) u:=by
 unfold dV
 rw [List.foldl_append]
 rfl
theorem vU (m s:List (List Int)) (t:dD) (i st w r:Nat):∀ (us:List Int) (q:List (List Int)×List (List Int)),q.1.length<=(us.foldl (eF m s t i st w r) q).1.length/\(us.foldl (eF m s t i st w r) q).1.length<=q.1.length+us.length/\(us.foldl (eF m s t i st w r) q).2.length=q.2.length+us.length
 | [],q=>by simp
 | u::us,q=>by
  have h:=vU m s t i st w r us (eF m s t i st w r q u)
  have h2:=wX q.1 (mD t w r u)
  simp only [List.foldl_cons,List.length_cons]
  simp only [eF,List.length_append,List.length_singleton] at h ⊢
  omega
theorem uj (m s:List (List Int)) (t:dD) (i st w r:Nat) (l:List (List Int)) (us:List Int):l.length<=(dV m s t i st w r l us).1.length/\(dV m s t i st w r l us).1.length<=l.length+us.length/\(dV m s t i st w r l us).2.length=us.length:=by
 have h:=vU m s t i st w r us (l,[])
 simpa [dV] using h
def Ea (n:Nat) (l:Nat) (p:List Int):Prop:=∃ st w:Nat,p=[(st:Int),(w:Int)]/\st<n/\w<l
structure qU (s:List (List Int)) (t:dD):Prop where
 pos:0<t.list.length
 nlen:t.list.length<=t.next.length
 glen:t.list.length<=t.grows.length
 row:∀ w,w<t.list.length->(t.next.getD w []).length=s.length/\(t.grows.getD w []).length=s.length
 nx:∀ w r,w<t.list.length->r<s.length->∃ k:Nat,(t.next.getD w []).getD r 0=k/\k<t.list.length
 gr:∀ w r,w<t.list.length->r<s.length->0<=(t.grows.getD w []).getD r 0/\(t.grows.getD w []).getD r 0<=119
theorem EM {m s:List (List Int)} {x:Nat} (hp:bg m s=true) (hx:x<m.length) (h:(jq m s x).2=false):qU s (jq m s x).1:=by
 unfold jq at h ⊢
 obtain ⟨k,h1,h2,h3,h4⟩:=oC 500 0 h fun j hj=>by omega
 have hok:=yE hp hx k (by omega) h4
 rw [h1]
 show qU s (aP m s x k)
 refine ⟨hok.pos,by rw [hok.nlen];exact h3,by rw [hok.glen];exact h3,fun w hw=>hok.row w (by omega),fun w r hw hr=>hok.nx w r (by omega) hr,fun w r hw hr =>?_⟩
 exact ⟨(hok.gr w r (by omega) hr).1,AL hp hx k (by omega) h4 w r (by omega) hr⟩
def QH (m s:List (List Int)) (r:Nat) (us:List Int):Prop:=∀ u∈us,∃ y:Nat,u=y/\y<m.length/\0<=at2 s r y
theorem wR (m s:List (List Int)) (r:Nat):∀ n,n<=m.length->QH m s r (srv s n r)
 | 0,_=>fun u hu=>by simp [srv] at hu
 | n+1,h=>fun u hu=>by
  rw [pX] at hu
  split at hu
  ·rename_i h1
   rcases List.mem_append.1 hu with hu | hu
   ·exact wR m s r n (by omega) u hu
   ·rw [List.mem_singleton] at hu
    exact ⟨n,hu,by omega,h1⟩
  ·exact wR m s r n (by omega) u hu
theorem key_ok {m s:List (List Int)} {t:dD} (ht:qU s t) {w r:Nat} {u:Int} (hw:w<t.list.length) (hr:r<s.length) (hu:∃ y:Nat,u=y/\y<m.length/\0<=at2 s r y):Ea m.length t.list.length (mD t w r u):=by
 obtain ⟨y,rfl,h1,_⟩:=hu
 obtain ⟨k,h2,h3⟩:=ht.nx w r hw hr
 exact ⟨y,k,by unfold mD;rw [h2],h1,h3⟩
theorem qF {m s:List (List Int)} {t:dD} (ht:qU s t) {i st w r:Nat} (hw:w<t.list.length) (hr:r<s.length):∀ (us:List Int) (q:List (List Int)×List (List Int)),QH m s r us->(∀ p∈q.1,Ea m.length t.list.length p)->∀ p∈(us.foldl (eF m s t i st w r) q).1,Ea m.length t.list.length p
 | [],q,_,hq,p,hp=>hq p hp
 | u::us,q,hu,hq,p,hp=>by
  refine qF ht hw hr us _ (fun v hv=>hu v (by simp [hv])) (fun p' hp' =>?_) p hp
  rcases BR hp' with h | rfl
  ·exact hq p' h
  ·exact key_ok ht hw hr (hu u (by simp))
theorem jW (m s:List (List Int)) (t:dD) (i st w:Nat) (l:List (List Int)):∀ r,l.length<=(bC m s t i st w l r).1.length/\(bC m s t i st w l r).1.length<=l.length+r*m.length/\(bC m s t i st w l r).2.length=r
 | 0=>by simp [bC]
 | r+1=>by
  have h1:=jW m s t i st w l r
  have h2:=uj m s t i st w r (bC m s t i st w l r).1 (srv s m.length r)
  have h3:=uJ s m.length r
  simp only [bC,List.length_append,List.length_singleton]
  rw [Nat.succ_mul]
  omega
theorem uh {m s:List (List Int)} {t:dD} (ht:qU s t) {i st w:Nat} (hw:w<t.list.length) {l:List (List Int)} (hl:∀ p∈l,Ea m.length t.list.length p):∀ r,r<=s.length->∀ p∈(bC m s t i st w l r).1,Ea m.length t.list.length p
 | 0,_,p,hp=>hl p hp
 | r+1,hr,p,hp=>qF ht hw (by omega) _ _ (wR m s r m.length (Nat.le_refl _)) (uh ht hw hl r (by omega)) p hp
structure acB (m s:List (List Int)) (t:dD) (g:GmT) (i:Nat):Prop where
 pos:0<g.list.length
 el:∀ p∈g.list,Ea m.length t.list.length p
 clen:g.ch.length=i
theorem FX {m s:List (List Int)} {t:dD} {g:GmT} {i j:Nat} (h:acB m s t g i) (hj:j<g.list.length):∃ st w:Nat,g.list.getD j []=[(st:Int),(w:Int)]/\fF g j=st/\iE g j=w/\st<m.length/\w<t.list.length:=by
 obtain ⟨st,w,h1,h2,h3⟩:=h.el (g.list.getD j []) (by rw [getD_in hj];exact List.getElem_mem hj)
 exact ⟨st,w,h1,by unfold fF;rw [h1];rfl,by unfold iE;rw [h1];rfl,h2,h3⟩
theorem vW {m s:List (List Int)} {t:dD} (ht:qU s t) {x:Nat} (hx:x<m.length):∀ i,(∀ j,j<i->j<(gmT m s t x j).list.length)->acB m s t (gmT m s t x i) i
 | 0,_=>⟨by simp [gmT],fun p hp=>by
   simp only [gmT,List.mem_singleton] at hp
   exact ⟨x,0,hp,hx,ht.pos⟩,rfl⟩
 | i+1,hlt=>by
  have ih:=vW ht hx i fun j hj=>hlt j (by omega)
  obtain ⟨st,w,h1,h2,h3,h4,h5⟩:=FX ih (hlt i (by omega))
  have h6:=jW m s t i st w (gmT m s t x i).list s.length
  have h7:=ih.pos
  refine ⟨?_,?_,?_⟩
  ·simp only [gmT,h2,h3]
   omega
  ·simp only [gmT,h2,h3]
   exact uh ht h5 ih.el s.length (Nat.le_refl _)
  ·simp [gmT,ih.clen]
structure GmI (m s:List (List Int)) (t:dD) (x i:Nat):Prop where
 le:i<=60
 len:(gmT m s t x i).list.length<=60
 lt:∀ j,j<i->j<(gmT m s t x j).list.length
 run:lU m s t x 100 0=lU m s t x (100-i) i
theorem GmI.first (m s:List (List Int)) (t:dD) (x:Nat):GmI m s t x 0:=⟨by omega,by simp [gmT],fun j hj=>by omega,rfl⟩
theorem GmI.more {m s:List (List Int)} {t:dD} {x i:Nat} (h:GmI m s t x i) (h1:i<(gmT m s t x i).list.length):100-i=(100-(i+1))+1/\∀ j,j<i+1->j<(gmT m s t x j).list.length :=
 ⟨by have:=h.le;omega,fun j hj=>by
  by_cases e:j=i
  ·rw [e];exact h1
  ·exact h.lt j (by omega)⟩
theorem GmI.next {m s:List (List Int)} {t:dD} {x i:Nat} (h:GmI m s t x i) (h1:i<(gmT m s t x i).list.length) (h2:¬ 60<(gmT m s t x (i+1)).list.length):GmI m s t x (i+1) :=
 ⟨by have:=h.len;omega,by omega,(h.more h1).2,by rw [h.run,(h.more h1).1,lU,if_pos h1,if_neg h2]⟩
theorem GmI.large {m s:List (List Int)} {t:dD} {x i:Nat} (h:GmI m s t x i) (h1:i<(gmT m s t x i).list.length) (h2:60<(gmT m s t x (i+1)).list.length):lU m s t x 100 0=(gmT m s t x (i+1),true):=by
 rw [h.run,(h.more h1).1,lU,if_pos h1,if_pos h2]
theorem GmI.done {m s:List (List Int)} {t:dD} {x i:Nat} (h:GmI m s t x i) (h1:¬ i<(gmT m s t x i).list.length):lU m s t x 100 0=(gmT m s t x i,false):=by
 have:=h.le
 rw [h.run,show 100-i=(100-(i+1))+1 by omega,lU,if_neg h1]
def CW (m:List (List Int)) (n f r:Nat) (c:List Int):Prop:=∃ (k u:Nat) (a b:Int),c=[(f:Int),(k:Int),a,b,(r:Int),(u:Int)]/\k<n/\u<m.length/\0<=a/\a<=119/\0<=b/\b<=119
theorem CW.mono {m:List (List Int)} {n n' f r:Nat} {c:List Int} (h:n<=n') (k:CW m n f r c):CW m n' f r c:=by
 obtain ⟨k,u,a,b,h1,h2,h3⟩:=k
 exact ⟨k,u,a,b,h1,by omega,h3⟩
structure uO (m s:List (List Int)) (n f r:Nat) (row:List (List Int)):Prop where
 st:row.map (fun c=>c.getD 5 0)=srv s m.length r
 el:∀ c∈row,CW m n f r c
theorem uO.mono {m s:List (List Int)} {n n' f r:Nat} {row:List (List Int)} (h:n<=n') (k:uO m s n f r row):uO m s n' f r row:=⟨k.st,fun c hc=>(k.el c hc).mono h⟩
theorem FW (m s:List (List Int)) (t:dD) (i st w r:Nat):∀ (us:List Int) (q:List (List Int)×List (List Int)),(us.foldl (eF m s t i st w r) q).2.map (fun c=>c.getD 5 0)=q.2.map (fun c=>c.getD 5 0)++us
 | [],q=>by simp
 | u::us,q=>by
  rw [List.foldl_cons,FW m s t i st w r us]
  simp [eF,chG]
theorem FV {m s:List (List Int)} {t:dD} (ht:qU s t) (hp:bg m s=true) {i st w r:Nat} (hst:st<m.length) (hw:w<t.list.length) (hr:r<s.length):∀ (us:List Int) (q:List (List Int)×List (List Int)),QH m s r us->∀ c∈(us.foldl (eF m s t i st w r) q).2,c∈q.2\/CW m (us.foldl (eF m s t i st w r) q).1.length i r c
 | [],q,_,c,hc => .inl hc
 | u::us,q,hu,c,hc=>by
  rw [List.foldl_cons] at hc ⊢
  rcases FV ht hp hst hw hr us _ (fun v hv=>hu v (by simp [hv])) c hc with h | h
  ·simp only [eF,List.mem_append,List.mem_singleton] at h
   rcases h with h | rfl
   ·exact .inl h
   ·right
    obtain ⟨y,rfl,h1,h2⟩:=hu u (by simp)
    obtain ⟨k,h3,h4,-⟩:=BH q.1 (mD t w r y) []
    have h5:=vU m s t i st w r us (eF m s t i st w r q y)
    have h6:=(iC hp hst).2 y h1
    have h7:=wI hp hr y h1
    have h8:=ht.gr w r hw hr
    refine ⟨k,y,Aq m s st r y,Dq t w r,by unfold chG;rw [h3],?_,h1,?_,?_,h8.1,h8.2⟩
    ·have h9:(eF m s t i st w r q y).1=kT q.1 (mD t w r y):=rfl
     rw [h9] at h5
     omega
    ·unfold Aq;rw [Int.toNat_natCast];omega
    ·unfold Aq;rw [Int.toNat_natCast];omega
  ·exact .inr h
theorem UO {m s:List (List Int)} {t:dD} (ht:qU s t) (hp:bg m s=true) {i st w r:Nat} (hst:st<m.length) (hw:w<t.list.length) (hr:r<s.length) (l:List (List Int)):uO m s (dV m s t i st w r l (srv s m.length r)).1.length i r (dV m s t i st w r l (srv s m.length r)).2 :=
 ⟨by unfold dV;rw [FW];simp,fun c hc=>by
  rcases FV ht hp hst hw hr _ _ (wR m s r m.length (Nat.le_refl _)) c hc with h | h
  ·simp at h
  ·exact h⟩
theorem FU {m s:List (List Int)} {t:dD} (ht:qU s t) (hp:bg m s=true) {i st w:Nat} (hst:st<m.length) (hw:w<t.list.length) (l:List (List Int)):∀ r,r<=s.length->∀ q,q<r->uO m s (bC m s t i st w l r).1.length i q ((bC m s t i st w l r).2.getD q [])
 | 0,_,q,hq=>by omega
 | r+1,hr,q,hq=>by
  have h1:=jW m s t i st w l r
  have h2:=uj m s t i st w r (bC m s t i st w l r).1 (srv s m.length r)
  simp only [bC]
  by_cases e:q=r
  ·subst e
   rw [iI h1.2.2.symm]
   exact UO ht hp hst hw (by omega) _
  ·rw [gU (by rw [h1.2.2];omega)]
   exact (FU ht hp hst hw l r (by omega) q (by omega)).mono h2.1
structure GmC (m s:List (List Int)) (g:GmT):Prop where
 len:∀ j,j<g.ch.length->(g.ch.getD j []).length=s.length
 row:∀ j r,j<g.ch.length->r<s.length->uO m s g.list.length j r ((g.ch.getD j []).getD r [])
theorem XY {m s:List (List Int)} {t:dD} {x i:Nat}:(gmT m s t x i).list.length<=(gmT m s t x (i+1)).list.length:=(jW m s t i _ _ (gmT m s t x i).list s.length).1
theorem Y0 {m s:List (List Int)} {t:dD} (ht:qU s t) (hp:bg m s=true) {x:Nat} (hx:x<m.length):∀ i,(∀ j,j<i->j<(gmT m s t x j).list.length)->GmC m s (gmT m s t x i)
 | 0,_=>⟨fun j hj=>by simp [gmT] at hj,fun j r hj=>by simp [gmT] at hj⟩
 | i+1,hlt=>by
  have ih:=Y0 ht hp hx i fun j hj=>hlt j (by omega)
  have hok:=vW ht hx i fun j hj=>hlt j (by omega)
  obtain ⟨st,w,h1,h2,h3,h4,h5⟩:=FX hok (hlt i (by omega))
  have hcl:=hok.clen
  have hal:=jW m s t i st w (gmT m s t x i).list s.length
  have hcl':(gmT m s t x (i+1)).ch.length=i+1:=by simp [gmT,hcl]
  refine ⟨fun j hj =>?_,fun j r hj hr =>?_⟩
  ·simp only [gmT,h2,h3]
   by_cases e:j=i
   ·rw [iI (by rw [hcl];exact e)]
    exact hal.2.2
   ·rw [gU (by omega)]
    exact ih.len j (by omega)
  ·simp only [gmT,h2,h3]
   by_cases e:j=i
   ·rw [iI (by rw [hcl];exact e),e]
    exact FU ht hp h4 h5 _ s.length (Nat.le_refl _) r hr
   ·rw [gU (by omega)]
    exact (ih.row j r (by omega) hr).mono hal.1
theorem vV {m s:List (List Int)} {t:dD} {x:Nat}:∀ f i,(lU m s t x f i).2=false->(∀ j,j<i->j<(gmT m s t x j).list.length)->i<=(gmT m s t x i).list.length->(gmT m s t x i).list.length<=60->∃ k,lU m s t x f i=(gmT m s t x k,false)/\(gmT m s t x k).list.length=k/\k<=60/\∀ j,j<k->j<(gmT m s t x j).list.length
 | 0,i,h,_,_,_=>by simp [lU] at h
 | f+1,i,h,hlt,hi,h60=>by
  unfold lU at h ⊢
  by_cases h1:i<(gmT m s t x i).list.length
  ·rw [if_pos h1] at h ⊢
   by_cases h2:60<(gmT m s t x (i+1)).list.length
   ·rw [if_pos h2] at h;simp at h
   ·rw [if_neg h2] at h ⊢
    have h3:=XY (m:=m) (s:=s) (t:=t) (x:=x) (i:=i)
    exact vV f (i+1) h (fun j hj=>by
     by_cases e:j=i
     ·rw [e];exact h1
     ·exact hlt j (by omega)) (by omega) (by omega)
  ·rw [if_neg h1]
   exact ⟨i,rfl,by omega,by omega,hlt⟩
structure aU (m s:List (List Int)) (g:GmT):Prop where
 prob:bg m s=true
 pos:0<g.list.length
 le:g.list.length<=60
 clen:g.ch.length=g.list.length
 c:GmC m s g
 two:∀ p∈g.list,p.length=2
theorem XZ {m s:List (List Int)} {x:Nat} (hp:bg m s=true) (hx:x<m.length) (h:(gm m s x).2=false):aU m s (gm m s x).1:=by
 unfold gm at h ⊢
 cases ho:(jq m s x).2
 ·rw [ho] at h
  simp only [cond_false] at h ⊢
  have ht:=EM hp hx ho
  obtain ⟨k,h1,h2,h3,h4⟩:=vV 100 0 h (fun j hj=>by omega) (Nat.zero_le _) (by simp [gmT])
  rw [h1]
  have hok:=vW ht hx k h4
  exact ⟨hp,hok.pos,by show (gmT _ _ _ _ _).list.length<=60;omega,by rw [hok.clen];exact h2.symm,Y0 ht hp hx k h4,fun p hp=>by obtain ⟨_,_,rfl,_⟩:=hok.el p hp;rfl⟩
 ·rw [ho] at h
  simp at h
theorem Ye {s:List (List Int)} {n r:Nat} {x:Int}:x∈srv s n r↔∃ y:Nat,x=y/\y<n/\0<=at2 s r y:=by
 unfold srv
 simp only [List.mem_map,List.mem_filter,List.mem_range,decide_eq_true_eq]
 constructor
 ·rintro ⟨y,⟨h1,h2⟩,rfl⟩
  exact ⟨y,rfl,h1,h2⟩
 ·rintro ⟨y,rfl,h1,h2⟩
  exact ⟨y,⟨h1,h2⟩,rfl⟩
theorem Xe {s:List (List Int)} {n r:Nat} {x:Int}:yY n s r x=true↔x∈srv s n r:=by
 rw [Ye]
 unfold yY
 rw [Bool.and_eq_true,gK,decide_eq_true_eq]
 constructor
 ·rintro ⟨⟨h1,h2⟩,h3⟩
  exact ⟨x.toNat,by omega,by omega,h3⟩
 ·rintro ⟨y,rfl,h1,h2⟩
  rw [Int.toNat_natCast]
  exact ⟨⟨by omega,by omega⟩,h2⟩
def E5 (row:List (List Int)) (x:Int):Int:=idxOf (fun c=>decide (c.getD 5 0=x)) row
theorem O8 {m s:List (List Int)} {n f r:Nat} {row:List (List Int)} (h:uO m s n f r row) (x:Int):0<=E5 row x↔yY m.length s r x=true:=by
 rw [Xe,← h.st]
 have h1:decide (0<=E5 row x)=row.any fun c=>decide (c.getD 5 0=x):=pK _ _
 rw [← decide_eq_true_iff (p:=0<=E5 row x),h1,List.any_eq_true]
 simp only [List.mem_map,decide_eq_true_eq]
def dP (m s:List (List Int)) (g:GmT) (q:List (List Int)):Bool:=(q.length == g.list.length) && q.all (nP m.length s)
def p6 (c:List Int):List Int:=[c.getD 0 0,c.getD 4 0,c.getD 5 0,c.getD 1 0,c.getD 2 0,c.getD 3 0]
def s2 (a:List (List (List Int))):List (List Int):=a.flatMap fun row=>row.map p6
def s1 (ch:List (List (List (List Int)))):List (List Int):=ch.flatMap s2
theorem kQ {m s:List (List Int)} {n f r:Nat} {row:List (List Int)} (hp:bg m s=true) (h:uO m s n f r row):row.length<=4:=by
 have h1:=congrArg List.length h.st
 rw [List.length_map] at h1
 have h2:=uJ s m.length r
 have h3:=bI hp
 omega
def aW (num den:Int) (c:List Int):Int:=den*c.getD 2 0-num*c.getD 3 0
def toC (c:List Int):Nat:=(c.getD 1 0).toNat
def kR (g:GmT) (tab:List Int):Bool:=(tab.length == g.list.length) && allIn 0 1000000000000000 tab
def iP (s:List (List Int)) (g:GmT) (asks:List Int):Bool:=(asks.length == g.list.length) && allIn 0 ((s.length:Int)-1) asks
def lV (g:GmT) (num den:Int) (debts delays:List Int) (i:Nat) (c:List Int):Bool :=
 !(decide (aW num den c+debts.getD i 0<debts.getD (toC c) 0) || decide ((g.list.length:Int)*(aW num den c+c.getD 3 0)+delays.getD i 0<delays.getD (toC c) 0+1))
def holdB (s:List (List Int)) (g:GmT) (num den:Int) (asks debts delays:List Int):Bool :=
 iP s g asks && kR g debts && kR g delays && (List.range asks.length).all fun i=>((g.ch.getD i []).getD (asks.getD i 0).toNat []).all (lV g num den debts delays i)
theorem XW {m:List (List Int)} {n f r:Nat} {c:List Int} (h:CW m n f r c) {num den:Int} (h1:0<=num) (h2:num<=1000000000) (h3:0<=den) (h4:den<=1000000000):toC c<n/\c.getD 1 0=(toC c:Int)/\c.getD 0 0=(f:Int)/\0<=c.getD 2 0/\c.getD 2 0<=119/\0<=c.getD 3 0/\c.getD 3 0<=100000/\0<=den*c.getD 2 0/\den*c.getD 2 0<=119000000000/\0<=num*c.getD 3 0/\num*c.getD 3 0<=100000000000000:=by
 obtain ⟨k,u,a,b,rfl,k1,k2,k3,k4,k5,k6⟩:=h
 have e1:0<=den*a:=Int.mul_nonneg h3 k3
 have e2:den*a<=1000000000*119:=Int.mul_le_mul h4 k4 k3 (by omega)
 have e3:0<=num*b:=Int.mul_nonneg h1 k5
 have e4:num*b<=1000000000*100000:=Int.mul_le_mul h2 (Int.le_trans k6 (by decide)) k5 (by omega)
 refine ⟨?_,?_,rfl,k3,k4,k5,Int.le_trans k6 (by decide),e1,by simpa using e2,e3,by simpa using e4⟩
 ·show ((k:Int)).toNat<n
  omega
 ·show (k:Int)=(((k:Int)).toNat:Int)
  omega
end Go.Proofs.YtnblieajjclipaaGreat
