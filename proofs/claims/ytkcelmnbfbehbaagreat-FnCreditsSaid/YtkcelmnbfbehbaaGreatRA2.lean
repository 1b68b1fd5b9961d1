/- Credits of games: an algorithm that has a credit somewhere has one everywhere, by mimicking. Plain laws. Conditions: games that are whole. -/
import Derived.Test.YtkcelmnbfbehbaaGreatRA1
import Derived.Test.YtkcelmnbfbehbaaGreatZZGraph
set_option linter.all false
namespace Go.Proofs.YtkcelmnbfbehbaaGreat
def gmE (g:GmT) (num den:Int) (i r t:Nat) (w:Int):Prop:=∃ k,k<((g.ch.getD i []).getD r []).length/\t=toC (((g.ch.getD i []).getD r []).getD k [])/\w=cO num den (((g.ch.getD i []).getD r []).getD k [])
abbrev rqR (s:List (List Int)) (_ r:Nat):Prop:=r<s.length
def dMx (v w:List Int):Nat->Int
 | 0=>0
 | n+1=>max (dMx v w n) (v.getD n 0-w.getD n 0)
theorem Nh (v w:List Int):∀ n,0<=dMx v w n/\∀ y,y<n->v.getD y 0<=w.getD y 0+dMx v w n
 | 0=>⟨Int.le_refl _,fun y hy=>by omega⟩
 | n+1=>by
  obtain ⟨h1,h2⟩:=Nh v w n
  unfold dMx
  refine ⟨by omega,fun y hy =>?_⟩
  by_cases e:y=n
  ·subst e;omega
  ·have:=h2 y (by omega);omega
theorem Ux {v w:List Int} {c:Int} (h0:0<=c):∀ n,(∀ y,y<n->v.getD y 0<=w.getD y 0+c)->dMx v w n<=c
 | 0,_=>h0
 | n+1,h=>by
  have h1:=Ux h0 n fun y hy=>h y (by omega)
  have h2:=h n (by omega)
  unfold dMx
  omega
theorem Sj {v w:List Int} {c:Int} (k:Nat) (h:∀ y,y<=k->v.getD y 0<=w.getD y 0+c):dw v k<=dw w k+c:=by
 obtain ⟨j,h1,h2⟩:=zY w k
 have h3:=kC v k j h1
 have h4:=h j h1
 omega
theorem acE {m s:List (List Int)} {v w:List Int} {c:Int} (hc:0<=c) (h:∀ y,y<m.length->v.getD y 0<=w.getD y 0+c) (r x:Nat):wAt m s v r x<=wAt m s w r x+c:=by
 unfold wAt
 refine Ew hc m.length fun y hy _ =>?_
 have:=h y hy
 unfold lD
 omega
theorem Uy {m s:List (List Int)} (hm:0<m.length) (v w:List Int) (r:Nat):dMx (iH m s v r) (iH m s w r) m.length+iR m s v r<=dMx v w m.length+iR m s w r:=by
 obtain ⟨h0,h1⟩:=Nh v w m.length
 have h2:=acE (s:=s) h0 h1 r
 have h3:iR m s v r<=iR m s w r+dMx v w m.length:=by
  unfold iR
  exact Sj _ fun y hy=>by
   rw [tJ (by omega),tJ (by omega)]
   exact h2 y
 have:=Ux (v:=iH m s v r) (w:=iH m s w r) (c:=dMx v w m.length+iR m s w r-iR m s v r) (by omega) m.length fun y hy=>by
  rw [CO hy,CO hy]
  have:=h2 y
  omega
 omega
theorem IV (f:Nat->Int) (P:Nat->Prop):∀ n,(∃ j,j<n/\P j)->∃ j,j<n/\P j/\∀ i,i<n->P i->f j<=f i
 | 0,⟨j,hj,_⟩=>by omega
 | n+1,⟨j,hj,hp⟩=>by
  by_cases hx:∃ j,j<n/\P j
  ·obtain ⟨i,h1,h2,h3⟩:=IV f P n hx
   by_cases hn:P n/\f n<f i
   ·refine ⟨n,by omega,hn.1,fun k hk hpk =>?_⟩
    by_cases e:k=n
    ·rw [e];exact Int.le_refl _
    ·have:=h3 k (by omega) hpk;omega
   ·refine ⟨i,by omega,h2,fun k hk hpk =>?_⟩
    by_cases e:k=n
    ·subst e
     exact Int.not_lt.1 fun h4=>hn ⟨hpk,h4⟩
    ·exact h3 k (by omega) hpk
  ·have e:j=n:=Classical.byContradiction fun h=>hx ⟨j,by omega,hp⟩
   subst e
   refine ⟨j,hj,hp,fun k hk hpk =>?_⟩
   by_cases e:k=j
   ·rw [e];exact Int.le_refl _
   ·exact absurd ⟨k,by omega,hpk⟩ hx
structure GmX (m s:List (List Int)) (t:dF) (g:GmT):Prop where
 full:bf m s g
 off:∀ j r,j<t.list.length->r<s.length->∃ k:Nat,(t.next.getD j []).getD r 0=k/\k<t.list.length/\t.list.getD k []=iH m s (t.list.getD j []) r/\(t.grows.getD j []).getD r 0=iR m s (t.list.getD j []) r
 at_:∀ i,i<g.list.length->∃ st w:Nat,g.list.getD i []=[(st:Int),(w:Int)]/\st<m.length/\w<t.list.length
 ch:∀ a∈g.ch,∀ row∈a,∀ c∈row,chP m s t g.list c
theorem P8 (m s:List (List Int)) (t:dF) (x:Nat):∀ i,(gmT m s t x i).list.getD 0 []=[(x:Int),0]/\0<(gmT m s t x i).list.length
 | 0=>⟨rfl,Nat.zero_lt_one⟩
 | i+1=>by
  obtain ⟨h1,h2⟩:=P8 m s t x i
  obtain ⟨e,h3⟩:=uH m s t i (dH (gmT m s t x i) i) (iF (gmT m s t x i) i) (gmT m s t x i).list s.length
  have h4:(gmT m s t x (i+1)).list=(gmT m s t x i).list++e:=h3
  rw [h4]
  refine ⟨?_,by rw [List.length_append];omega⟩
  rw [List.getD_eq_getElem?_getD,List.getElem?_append_left h2,← List.getD_eq_getElem?_getD]
  exact h1
theorem Y3 {m s:List (List Int)} {x:Int} (h:(gmQ m s x).2=false):∃ k:Nat,x=k/\k<m.length/\GmX m s (jm m s k).1 (gmQ m s x).1/\(gmQ m s x).1.list.getD 0 []=[(k:Int),0]:=by
 have hf:=dS h
 have ht:=iJ h
 obtain ⟨hp,⟨y,rfl,hy⟩,-,-⟩:=nZ ht
 rw [Nw ht] at h hf ⊢
 cases ho:(jm m s y).2
 ·unfold gm at h hf ⊢
  rw [ho] at h hf ⊢
  simp only [cond_false] at h hf ⊢
  have htab:=Fq hp hy ho
  obtain ⟨k,h1,h2,h3,h4⟩:=wF 100 0 h (fun j hj=>by omega) (Nat.zero_le _) (by simp [gmT])
  rw [h1] at hf ⊢
  have hok:=wG htab hy k h4
  refine ⟨y,rfl,hy,⟨hf,?_,fun i hi =>?_,Y1 htab hy k h4⟩,(P8 m s _ y k).1⟩
  ·unfold jm at ho ⊢
   obtain ⟨k',k1,k2,k3,k4⟩:=oP 500 0 ho fun j hj=>by omega
   rw [k1]
   have hx:=Oe (m:=m) (s:=s) (x:=y) k' k4
   exact fun j r hj hr=>hx.at_ j r (by
    have:(aO m s y k').list.length<=k':=k3
    have:j<(aO m s y k').list.length:=hj
    omega) hr
  ·obtain ⟨st,w,e1,-,-,e2,e3⟩:=Gu hok hi
   exact ⟨st,w,e1,e2,e3⟩
 ·unfold gm at h;rw [ho] at h;simp at h
theorem acX {m s:List (List Int)} {x:Int} (h:(gmQ m s x).2=false):∃ t,GmX m s t (gmQ m s x).1:=by
 obtain ⟨_,-,-,h,-⟩:=Y3 h
 exact ⟨_,h⟩
theorem GmX.choice {m s:List (List Int)} {t:dF} {g:GmT} (h:GmX m s t g) {i r k:Nat} (hi:i<g.list.length) (hr:r<s.length) (hk:k<((g.ch.getD i []).getD r []).length) {st w:Nat} (hst:g.list.getD i []=[(st:Int),(w:Int)]) :
  ∃ u nx to:Nat,((g.ch.getD i []).getD r []).getD k []=[(i:Int),(to:Int),at2 m st u+at2 s r u,iR m s (t.list.getD w []) r,(r:Int),(u:Int)]/\to<g.list.length/\g.list.getD to []=[(u:Int),(nx:Int)]/\u<m.length/\t.list.getD nx []=iH m s (t.list.getD w []) r:=by
 have hcl:=h.full.clen
 have h1:=h.full.c.len i (by omega)
 have hrow:=h.full.c.row i r (by omega) hr
 have hmem:((g.ch.getD i []).getD r []).getD k []∈(g.ch.getD i []).getD r []:=by rw [getD_in hk];exact List.getElem_mem hk
 obtain ⟨i',st',w',r',u,to,nx,e1,e2,e3,e4,e5,e6,e7,e8,e9,e10⟩:=h.ch (g.ch.getD i []) (by rw [getD_in (show i<g.ch.length by omega)];exact List.getElem_mem _) ((g.ch.getD i []).getD r []) (by rw [getD_in (show r<(g.ch.getD i []).length by omega)];exact List.getElem_mem _) _ hmem
 obtain ⟨k',u',a,b,f1,-⟩:=hrow.el _ hmem
 rw [e1] at f1
 simp only [List.cons.injEq,Int.natCast_inj] at f1
 obtain ⟨rfl,-,-,-,rfl,-,-⟩:=f1
 rw [hst] at e4
 simp only [List.cons.injEq,Int.natCast_inj] at e4
 obtain ⟨rfl,rfl,-⟩:=e4
 obtain ⟨k2,g1,g2,g3,g4⟩:=h.off w r' e8 hr
 refine ⟨u,k2,to,?_,e5,?_,e10,g3⟩
 ·rw [e1];unfold D8;rw [g4]
 ·rw [e6,e2,g1]
theorem mimic {m s:List (List Int)} {t:dF} {g:GmT} (h:GmX m s t g) {num den:Int} (hn:0<=num) (hd:0<=den) (P:Nat->Prop) (C:Nat->Int) (hne:∃ j,j<g.list.length/\P j)
  (hP:∀ j,j<g.list.length->P j->0<=C j/\∀ r,r<s.length->∃ t w,gmE g num den j r t w/\P t/\w+C t<=C j):∃ D,CrP g.list.length (rqR s) (gmE g num den) D:=by
 have hm:0<m.length:=by have:=bC h.full.prob;omega
 let F:Nat->Nat->Int:=fun i j=>den*at2 m (dH g i) (dH g j)+C j+num*dMx (t.list.getD (iF g j) []) (t.list.getD (iF g i) []) m.length
 have hat:∀ i,i<g.list.length->∃ st w:Nat,g.list.getD i []=[(st:Int),(w:Int)]/\dH g i=st/\iF g i=w/\st<m.length:=fun i hi=>by
  obtain ⟨st,w,h1,h2,_⟩:=h.at_ i hi
  exact ⟨st,w,h1,by unfold dH;rw [h1];rfl,by unfold iF;rw [h1];rfl,h2⟩
 obtain ⟨J,hJ⟩:=Classical.axiomOfChoice fun i=>IV (F i) P g.list.length hne
 refine ⟨fun i=>F i (J i),fun i hi =>?_,fun i r hi hr =>?_⟩
 ·obtain ⟨h1,h2,_⟩:=hJ i
  obtain ⟨st,w,_,e1,_,e3⟩:=hat i hi
  obtain ⟨st',w',_,f1,_,f3⟩:=hat _ h1
  have h3:=(hP _ h1 h2).1
  have h4:=Int.mul_nonneg hd (show 0<=at2 m (dH g i) (dH g (J i)) by rw [e1,f1];exact ((gY h.full.prob e3).2 st' f3).1)
  have h5:=Int.mul_nonneg hn (Nh (t.list.getD (iF g (J i)) []) (t.list.getD (iF g i) []) m.length).1
  show 0<=den*_+C (J i)+num*_
  omega
 ·obtain ⟨h1,h2,h3⟩:=hJ i
  obtain ⟨st,w,a1,e1,e2,e3⟩:=hat i hi
  obtain ⟨st',w',b1,f1,f2,f3⟩:=hat _ h1
  obtain ⟨tj,wj,⟨k,hk,rfl,rfl⟩,h4,h5⟩:=(hP _ h1 h2).2 r hr
  obtain ⟨u,nx,to,g1,g2,g3,g4,g5⟩:=h.choice h1 hr hk b1
  have hcl:=h.full.clen
  have rowJ:=h.full.c.row (J i) r (by omega) hr
  have rowI:=h.full.c.row i r (by omega) hr
  have hu:(u:Int)∈srv s m.length r:=by
   rw [← rowJ.st,List.mem_map]
   exact ⟨((g.ch.getD (J i) []).getD r []).getD k [],by rw [getD_in hk];exact List.getElem_mem hk,by rw [g1];rfl⟩
  rw [← rowI.st,List.mem_map] at hu
  obtain ⟨c',hc',hcu⟩:=hu
  obtain ⟨k',hk',rfl⟩:=List.getElem_of_mem hc'
  rw [← getD_in (d:=[]) hk'] at hcu
  obtain ⟨u',nx',to',i1,i2,i3,i4,i5⟩:=h.choice hi hr hk' a1
  rw [i1] at hcu
  have hcu:(u':Int)=u:=hcu
  obtain rfl:u'=u:=by omega
  refine ⟨to',cO num den (((g.ch.getD i []).getD r []).getD k' []),⟨k',hk',by rw [i1];unfold toC;simp,rfl⟩,?_⟩
  have toE:toC (((g.ch.getD (J i) []).getD r []).getD k [])=to:=by rw [g1];unfold toC;simp
  rw [toE] at h4 h5
  have h6:=(hJ to').2.2 to g2 h4
  have s1:dH g to'=u':=by unfold dH;rw [i3];rfl
  have s2:dH g to=u':=by unfold dH;rw [g3];rfl
  have o1:iF g to'=nx':=by unfold iF;rw [i3];rfl
  have o2:iF g to=nx:=by unfold iF;rw [g3];rfl
  have F1:F to' to=den*0+C to+num*dMx (iH m s (t.list.getD w' []) r) (iH m s (t.list.getD w []) r) m.length:=by
   show den*at2 m (dH g to') (dH g to)+C to+num*dMx (t.list.getD (iF g to) []) (t.list.getD (iF g to') []) m.length=_
   rw [s1,s2,o1,o2,g5,i5,prob_0 h.full.prob g4]
  have F2:F i (J i)=den*at2 m st st'+C (J i)+num*dMx (t.list.getD w' []) (t.list.getD w []) m.length:=by
   show den*at2 m (dH g i) (dH g (J i))+C (J i)+num*dMx (t.list.getD (iF g (J i)) []) (t.list.getD (iF g i) []) m.length=_
   rw [e1,f1,e2,f2]
  have G1:cO num den (((g.ch.getD i []).getD r []).getD k' [])=den*(at2 m st u'+at2 s r u')-num*iR m s (t.list.getD w []) r:=by rw [i1];rfl
  have G2:cO num den (((g.ch.getD (J i) []).getD r []).getD k [])=den*(at2 m st' u'+at2 s r u')-num*iR m s (t.list.getD w' []) r:=by rw [g1];rfl
  have T1:=Int.mul_le_mul_of_nonneg_left (Lu h.full.prob e3 f3 g4) hd
  have T2:=Int.mul_le_mul_of_nonneg_left (Uy (s:=s) hm (t.list.getD w' []) (t.list.getD w []) r) hn
  show _+F to' (J to')<=F i (J i)
  rw [F1] at h6
  rw [F2,G1]
  rw [G2] at h5
  rw [Int.mul_add] at T1 T2 h5 ⊢
  rw [Int.mul_add] at T2
  have z:den*0=0:=Int.mul_zero _
  omega
def scl (ar:List (List (List Int))):List (List (List Int)):=ar.map fun l=>l.map fun e=>[e.getD 0 0,e.getD 1 0*((ar.length:Int)+1)-1]
def arR (cfl:List Bool) (ar:List (List (List Int))) (v r:Nat):Prop:=(arC cfl v=true/\r=0)\/(arC cfl v=false/\r<(aG ar v).length)
def arE (cfl:List Bool) (ar:List (List (List Int))) (v r t:Nat) (w:Int):Prop :=
 (arC cfl v=true/\∃ k,k<(aG ar v).length/\t=rW ((aG ar v).getD k [])/\w=arW ((aG ar v).getD k [])) \/
 (arC cfl v=false/\r<(aG ar v).length/\t=rW ((aG ar v).getD r [])/\w=arW ((aG ar v).getD r []))
theorem CU {ar:List (List (List Int))} {v:Nat}:aG (scl ar) v=(aG ar v).map fun e=>[e.getD 0 0,e.getD 1 0*((ar.length:Int)+1)-1]:=by
 unfold aG scl
 by_cases h:v<ar.length
 ·simp [h]
 ·simp [List.getElem?_eq_none (Nat.not_lt.1 h)]
theorem jK {ar:List (List (List Int))} {v:Nat}:(aG (scl ar) v).length=(aG ar v).length:=by rw [CU,List.length_map]
theorem Fb {ar:List (List (List Int))} {v k:Nat} (hk:k<(aG ar v).length):rW ((aG (scl ar) v).getD k [])=rW ((aG ar v).getD k [])/\arW ((aG (scl ar) v).getD k [])=((ar.length:Int)+1)*arW ((aG ar v).getD k [])-1:=by
 rw [CU,iC hk [] []]
 exact ⟨rfl,by unfold arW;show _*_-1=_;rw [Int.mul_comm]⟩
theorem ArX.fin {cfl:List Bool} {ar:List (List (List Int))} {great:Int} {n:Nat} {ch V:List Int} (h:ArX cfl ar great n ch V) (hc:ACh cfl ar ch):∃ ch',ACh cfl ar ch'/\ArV cfl ar great ch' V/\ArE cfl ar V:=by
 induction h with
 | @stop ch V h1 h2 =>
  exact ⟨ch,hc,h1,Ve (fun v hv hcv k hk hk2=>by subst hk2;exact h1.old hv hcv hk) h2⟩
 | @step _ ch V W h1 h2 h3 ih=>exact ih (IC hc).ok
theorem Pg {cfl:List Bool} {ar:List (List (List Int))} {great K:Int} {n:Nat} {ch V:List Int} (h:ArX cfl (scl ar) great n ch V) (hc:ACh cfl (scl ar) ch) (hok:qG cfl (scl ar) K) (hK:0<=K) :
  qH cfl.length (arR cfl ar) (arE cfl ar) ((ar.length:Int)+1) great (cfl.length*K) (fun v=>V.getD v 0):=by
 obtain ⟨ch',h1,h2,h3⟩:=h.fin hc
 refine ⟨h2.lst.sup.pos,?_,?_,fun v hv =>?_⟩
 ·rintro v r hv (⟨hcv,rfl⟩ | ⟨hcv,hr⟩)
  ·rcases Int.lt_or_le (ch'.getD v 0) 0 with h4 | h4
   ·exact .inr (h2.lst.sup.flr v _ hv ⟨hcv,h4,rfl⟩)
   ·left
    have h5:=h2.lst.sup.arc v _ _ hv (.inr ⟨hcv,h4,rfl,rfl⟩)
    have h6:=h1.lt v hv
    rw [jK] at h6
    have h7:=Fb (ar:=ar) (v:=v) (k:=(ch'.getD v 0).toNat) (by omega)
    refine ⟨_,_,.inl ⟨hcv,(ch'.getD v 0).toNat,by omega,rfl,rfl⟩,?_⟩
    rw [h7.1,h7.2] at h5
    exact h5
  ·left
   have h5:=h2.lst.sup.arc v _ _ hv (.inl ⟨hcv,r,by rw [jK];exact hr,rfl,rfl⟩)
   have h7:=Fb hr
   refine ⟨_,_,.inr ⟨hcv,hr,rfl,rfl⟩,?_⟩
   rw [h7.1,h7.2] at h5
   exact h5
 ·intro v hv h0
  cases hcv:arC cfl v
  ·rcases h2.lst.tight hv h0 with ⟨c,⟨h4,_⟩,_⟩ | ⟨t,w,ha,h5⟩
   ·rw [hcv] at h4;cases h4
   ·rcases ha with ⟨_,k,hk,rfl,rfl⟩ | ⟨h4,_⟩
    ·rw [jK] at hk
     have h7:=Fb hk
     refine ⟨k,.inr ⟨hcv,hk⟩,?_⟩
     rintro t w (⟨h8,_⟩ | ⟨_,_,rfl,rfl⟩)
     ·rw [hcv] at h8;cases h8
     ·rw [h7.1,h7.2] at h5
      exact h5
    ·rw [hcv] at h4;cases h4
  ·refine ⟨0,.inl ⟨hcv,rfl⟩,?_⟩
   rintro t w (⟨_,k,hk,rfl,rfl⟩ | ⟨h8,_⟩)
   ·have h4:=h3 v hv hcv k (by rw [jK];exact hk)
    have h7:=Fb hk
    unfold arS at h4
    rw [h7.1,h7.2] at h4
    show V.getD v 0<=_
    have h0:0<V.getD v 0:=h0
    omega
   ·rw [hcv] at h8;cases h8
 ·rcases h2.lst.gap hK (zC hok h1) (fun v c _ ⟨_,_,e⟩=>e) v hv with h4 | h4
  ·exact .inl h4
  ·exact .inr h4.1
def xP (n q j c:Nat):List (List Int):=(List.range c).map fun r=>[((n+(j*q+r):Nat):Int),0]
def pW (g:GmT) (num den:Int) (q e:Nat):List (List Int):=((g.ch.getD (e / q) []).getD (e % q) []).map fun c=>[c.getD 1 0,den*c.getD 2 0-num*c.getD 3 0]
def arG (g:GmT) (num den:Int) (q a r:Nat):List (List (List Int)):=((List.range g.list.length).map fun j=>xP g.list.length q j (if j<a then q else if j=a then r else 0))++(List.range (a*q+r)).map (pW g num den q)
def cfG (g:GmT) (k:Nat):List Bool:=List.replicate g.list.length false++List.replicate k true
theorem sJ {g:GmT} {num den:Int} {q a r v:Nat} (hv:v<g.list.length):aG (arG g num den q a r) v=xP g.list.length q v (if v<a then q else if v=a then r else 0):=by
 unfold aG arG
 rw [List.getD_eq_getElem?_getD,List.getElem?_append_left (by simpa using hv)]
 simp [hv]
theorem zD {g:GmT} {num den:Int} {q a r e:Nat} (he:e<a*q+r):aG (arG g num den q a r) (g.list.length+e)=pW g num den q e:=by
 unfold aG arG
 rw [List.getD_eq_getElem?_getD,List.getElem?_append_right (by simp)]
 simp [he]
theorem kH (g:GmT) (num den:Int) (q a r:Nat):(arG g num den q a r).length=g.list.length+(a*q+r):=by simp [arG]
theorem iW (g:GmT) (k:Nat):(cfG g k).length=g.list.length+k:=by simp [cfG]
theorem sO {g:GmT} {k v:Nat} (hv:v<g.list.length):arC (cfG g k) v=false:=by
 unfold arC cfG
 rw [List.getD_eq_getElem?_getD,List.getElem?_append_left (by simpa using hv)]
 simp [hv]
theorem zG {g:GmT} {k v:Nat} (hv:g.list.length<=v) (hk:v<g.list.length+k):arC (cfG g k) v=true:=by
 unfold arC cfG
 rw [List.getD_eq_getElem?_getD,List.getElem?_append_right (by simpa using hv)]
 simp [show v-g.list.length<k by omega]
theorem uy {n q j c r:Nat} (hr:r<c):(xP n q j c).getD r []=[((n+(j*q+r):Nat):Int),0]:=by simp [xP,hr]
theorem ji (n q j c:Nat):(xP n q j c).length=c:=by simp [xP]
theorem XD {g:GmT} {num den:Int} {q e k:Nat} (hk:k<((g.ch.getD (e / q) []).getD (e % q) []).length):(pW g num den q e).getD k []=[(((g.ch.getD (e / q) []).getD (e % q) []).getD k []).getD 1 0,cO num den (((g.ch.getD (e / q) []).getD (e % q) []).getD k [])]:=by
 unfold pW
 rw [iC hk [] []]
 rfl
theorem JL (g:GmT) (num den:Int) (q e:Nat):(pW g num den q e).length=((g.ch.getD (e / q) []).getD (e % q) []).length:=by simp [pW]
theorem lq {q i r:Nat} (hr:r<q):(i*q+r) / q=i/\(i*q+r) % q=r:=by
 rw [Nat.mul_comm,Nat.mul_add_div (by omega),Nat.mul_add_mod,Nat.div_eq_of_lt hr,Nat.mod_eq_of_lt hr]
 exact ⟨rfl,rfl⟩
theorem kN {n q i r:Nat} (hi:i<n) (hr:r<q):i*q+r<n*q:=by
 have:=Nat.mul_le_mul_right q (show i+1<=n from hi)
 rw [Nat.add_mul,Nat.one_mul] at this
 omega
structure GmB (m s:List (List Int)) (g:GmT) (num den G:Int):Prop where
 full:bf m s g
 n0:0<=num
 d0:0<=den
 bd:∀ i r k,i<g.list.length->r<s.length->k<((g.ch.getD i []).getD r []).length -> -G<=cO num den (((g.ch.getD i []).getD r []).getD k [])/\cO num den (((g.ch.getD i []).getD r []).getD k [])<=G
theorem GmB.to_ {m s:List (List Int)} {g:GmT} {num den G:Int} (h:GmB m s g num den G) {i r k:Nat} (hi:i<g.list.length) (hr:r<s.length) (hk:k<((g.ch.getD i []).getD r []).length):toC (((g.ch.getD i []).getD r []).getD k [])<g.list.length/\(((g.ch.getD i []).getD r []).getD k []).getD 1 0=(toC (((g.ch.getD i []).getD r []).getD k []):Int):=by
 have hcl:=h.full.clen
 have hrow:=h.full.c.row i r (by omega) hr
 have hmem:((g.ch.getD i []).getD r []).getD k []∈(g.ch.getD i []).getD r []:=by rw [getD_in hk];exact List.getElem_mem hk
 obtain ⟨t,u,a,b,e,h1,_⟩:=hrow.el _ hmem
 rw [e]
 exact ⟨by unfold toC;simpa using h1,by unfold toC;simp⟩
theorem GmB.eok {m s:List (List Int)} {g:GmT} {num den G:Int} (h:GmB m s g num den G):EOK g.list.length (rqR s) (gmE g num den) G:=by
 rintro i r t w hi hr ⟨k,hk,rfl,rfl⟩
 exact ⟨(h.to_ hi hr hk).1,h.bd i r k hi hr hk⟩
abbrev cfX (s:List (List Int)) (g:GmT):List Bool:=cfG g (g.list.length*s.length)
abbrev dY (s:List (List Int)) (g:GmT) (num den:Int):List (List (List Int)):=arG g num den s.length g.list.length 0
theorem jT {s:List (List Int)} {g:GmT} {num den:Int} {v:Nat} (hv:v<g.list.length):aG (dY s g num den) v=xP g.list.length s.length v s.length:=by
 rw [sJ hv,if_pos hv]
theorem jS {s:List (List Int)} {g:GmT} {num den:Int} {i r:Nat} (hi:i<g.list.length) (hr:r<s.length):aG (dY s g num den) (g.list.length+(i*s.length+r))=((g.ch.getD i []).getD r []).map fun c=>[c.getD 1 0,den*c.getD 2 0-num*c.getD 3 0]:=by
 rw [zD (by have:=kN hi hr;omega)]
 unfold pW
 rw [(lq hr).1,(lq hr).2]
theorem yK {n q v:Nat} (h1:n<=v) (h2:v<n+n*q):∃ i r,i<n/\r<q/\v=n+(i*q+r):=by
 have hq:0<q:=by
  rcases Nat.eq_zero_or_pos q with rfl | h
  ·simp at h2;omega
  ·exact h
 refine ⟨(v-n) / q,(v-n) % q,(Nat.div_lt_iff_lt_mul hq).2 (by omega),Nat.mod_lt _ hq,?_⟩
 have:=Nat.div_add_mod (v-n) q
 rw [Nat.mul_comm] at this
 omega
theorem MJ {m s:List (List Int)} {g:GmT} {num den G:Int} (h:GmB m s g num den G) (hG:0<=G):qG (cfX s g) (dY s g num den) G:=by
 refine ⟨by rw [kH,iW];omega,fun v hv k hk =>?_,fun v hv hc k hk =>?_⟩
 ·rw [iW] at hv ⊢
  by_cases hlt:v<g.list.length
  ·rw [jT hlt] at hk ⊢
   rw [ji] at hk
   rw [uy hk]
   exact ⟨_,0,rfl,by have:=kN hlt hk;omega,by omega,hG⟩
  ·obtain ⟨i,r,hi,hr,rfl⟩:=yK (Nat.not_lt.1 hlt) hv
   rw [jS hi hr] at hk ⊢
   rw [List.length_map] at hk
   rw [iC hk [] []]
   have h1:=h.to_ hi hr hk
   have h2:=h.bd i r k hi hr hk
   exact ⟨_,_,by rw [h1.2];rfl,by omega,h2⟩
 ·rw [iW] at hv
  have hlt:v<g.list.length:=Nat.lt_of_not_ge fun h1=>by rw [zG h1 hv] at hc;cases hc
  rw [jT hlt] at hk ⊢
  rw [ji] at hk
  rw [uy hk,(iL rfl).1]
  exact zG (by omega) (by have:=kN hlt hk;omega)
theorem Zo {m s:List (List Int)} {g:GmT} {num den G:Int} (h:GmB m s g num den G):(∃ C,CrP (cfX s g).length (arR (cfX s g) (dY s g num den)) (arE (cfX s g) (dY s g num den)) C)↔∃ C,CrP g.list.length (rqR s) (gmE g num den) C:=by
 constructor
 ·rintro ⟨C,hC⟩
  refine ⟨C,fun i hi=>hC.pos i (by rw [iW];omega),fun i r hi hr =>?_⟩
  have hnl:=kN hi hr
  obtain ⟨t,w,h1,h2⟩:=hC.ok i r (by rw [iW];omega) (.inr ⟨sO hi,by rw [jT hi,ji];exact hr⟩)
  rcases h1 with ⟨h3,_⟩ | ⟨_,_,rfl,rfl⟩
  ·rw [sO hi] at h3;cases h3
  rw [jT hi,uy hr,(iL rfl).1,(iL rfl).2] at h2
  obtain ⟨t,w,h3,h4⟩:=hC.ok (g.list.length+(i*s.length+r)) 0 (by rw [iW];omega) (.inl ⟨zG (by omega) (by omega),rfl⟩)
  rcases h3 with ⟨_,k,hk,rfl,rfl⟩ | ⟨h5,_⟩
  ·rw [jS hi hr] at hk h4
   rw [List.length_map] at hk
   rw [iC hk [] []] at h4
   refine ⟨_,_,⟨k,hk,rfl,rfl⟩,?_⟩
   have h5:cO num den (((g.ch.getD i []).getD r []).getD k [])+C (toC (((g.ch.getD i []).getD r []).getD k []))<=C (g.list.length+(i*s.length+r)):=h4
   omega
  ·rw [zG (by omega) (by omega)] at h5;cases h5
 ·rintro ⟨C,hC⟩
  refine ⟨fun v=>if v<g.list.length then C v else C ((v-g.list.length) / s.length),fun v hv =>?_,fun v r hv hr =>?_⟩
  ·rw [iW] at hv
   show 0<=ite _ _ _
   split
   ·rename_i h1;exact hC.pos v h1
   ·rename_i h1
    obtain ⟨i,r,hi,hr,rfl⟩:=yK (Nat.not_lt.1 h1) hv
    rw [Nat.add_sub_cancel_left,(lq hr).1]
    exact hC.pos i hi
  ·rw [iW] at hv
   by_cases h1:v<g.list.length
   ·rcases hr with ⟨h2,_⟩ | ⟨_,h2⟩
    ·rw [sO h1] at h2;cases h2
    rw [jT h1,ji] at h2
    refine ⟨_,_,.inr ⟨sO h1,by rw [jT h1,ji];exact h2,rfl,rfl⟩,?_⟩
    rw [jT h1,uy h2,(iL rfl).1,(iL rfl).2]
    show _+ite _ _ _<=ite _ _ _
    rw [if_neg (by omega),if_pos h1,Nat.add_sub_cancel_left,(lq h2).1]
    omega
   ·obtain ⟨i,r',hi,hr',rfl⟩:=yK (Nat.not_lt.1 h1) hv
    obtain ⟨t,w,⟨k,hk,rfl,rfl⟩,h2⟩:=hC.ok i r' hi hr'
    have h3:=h.to_ hi hr' hk
    refine ⟨_,_,.inl ⟨zG (by omega) (by have:=kN hi hr';omega),k,by rw [jS hi hr',List.length_map];exact hk,rfl,rfl⟩,?_⟩
    rw [jS hi hr',iC hk [] []]
    show cO num den _+ite (toC _<_) _ _<=ite _ _ _
    rw [if_pos h3.1,if_neg h1,Nat.add_sub_cancel_left,(lq hr').1]
    exact h2
theorem XC {cfl:List Bool} {ar:List (List (List Int))} {G:Int} (h:qG cfl ar G):EOK cfl.length (arR cfl ar) (arE cfl ar) G:=by
 rintro v r t w hv hr (⟨_,k,hk,rfl,rfl⟩ | ⟨_,hk,rfl,rfl⟩)
 ·have:=h.at hv hk
  exact ⟨this.1,this.2.1,this.2.2.1⟩
 ·have:=h.at hv hk
  exact ⟨this.1,this.2.1,this.2.2.1⟩
theorem O9 {m s:List (List Int)} {g:GmT} {num den G K:Int} (h:GmB m s g num den G) (hG:0<=G) {V:List Int} (hK:1<=K) (hGK:(((dY s g num den).length:Int)+1)*G<=K+1)
  (hV:qH (cfX s g).length (arR (cfX s g) (dY s g num den)) (arE (cfX s g) (dY s g num den)) (((dY s g num den).length:Int)+1) (4*((((dY s g num den).length:Int)+1)*K)) ((cfX s g).length*K) (fun v=>V.getD v 0)) :
  (∀ v,v<(cfX s g).length->V.getD v 0<=(((dY s g num den).length:Int)+1)*K)↔∃ C,CrP g.list.length (rqR s) (gmE g num den) C:=by
 have hl:(dY s g num den).length=(cfX s g).length:=by rw [kH,iW];omega
 rw [hl] at hV hGK ⊢
 generalize hn:(cfX s g).length=n at *
 have hE:EOK n (arR (cfX s g) (dY s g num den)) (arE (cfX s g) (dY s g num den)) G:=by rw [← hn];exact XC (MJ h hG)
 have hcr:=Zo h
 rw [hn] at hcr
 have hnK:(0:Int)<=n*K:=Int.mul_nonneg (by omega) (by omega)
 have e1:((n:Int)+1)*K=n*K+K:=by rw [Int.add_mul];omega
 rw [e1] at hV ⊢
 have hGn:(n:Int)*G<=K+1-G:=by rw [Int.add_mul] at hGK;omega
 rw [← hcr]
 constructor
 ·intro hall
  have hall':∀ i,i<n->V.getD i 0<=n*K:=fun i hi=>by
   rcases hV.gap i hi with h1 | h1
   ·exact h1
   ·have h2:=hall i hi
    have h1:4*(n*K+K)-n*K<=V.getD i 0:=h1
    omega
  have hV':qH n (arR (cfX s g) (dY s g num den)) (arE (cfX s g) (dY s g num den)) ((n+1:Nat):Int) (4*(n*K+K)) (n*K) (fun v=>V.getD v 0):=by
   rw [Int.natCast_add];exact hV
  exact hV'.all hE (by omega) (by rw [Int.natCast_add,Int.add_mul];omega) hG hall'
 ·rintro ⟨C,hC⟩ v hv
  have h1:((n:Int)+1)*(n*G)<=n*(K+1):=by
   rw [← Int.mul_assoc,Int.mul_comm _ (n:Int),Int.mul_assoc]
   exact Int.mul_le_mul_of_nonneg_left hGK (by omega)
  have h2:(n:Int)<=n*K:=by
   have:=Int.mul_le_mul_of_nonneg_left hK (show (0:Int)<=n by omega)
   omega
  rw [Int.mul_add] at h1
  have:=hV.small hE hG (by omega) (by omega) hC v hv
  have this:V.getD v 0<=n*K:=this
  omega
def miN (num den:Int) (row:List (List Int)) (out:List Int):Nat->Int
 | 0=>1000000000000000
 | k+1=>min (miN num den row out k) (cO num den (row.getD k [])+out.getD (toC (row.getD k [])) 0)
theorem IU (num den:Int) (row:List (List Int)) (out:List Int):∀ k,miN num den row out k<=1000000000000000/\(∀ j,j<k->miN num den row out k<=cO num den (row.getD j [])+out.getD (toC (row.getD j [])) 0)/\(miN num den row out k=1000000000000000\/∃ j,j<k/\miN num den row out k=cO num den (row.getD j [])+out.getD (toC (row.getD j [])) 0)
 | 0=>⟨Int.le_refl _,fun j hj=>by omega,.inl rfl⟩
 | k+1=>by
  obtain ⟨h1,h2,h3⟩:=IU num den row out k
  unfold miN
  refine ⟨by omega,fun j hj =>?_,?_⟩
  ·by_cases e:j=k
   ·subst e;omega
   ·have:=h2 j (by omega);omega
  ·rcases Int.le_total (miN num den row out k) (cO num den (row.getD k [])+out.getD (toC (row.getD k [])) 0) with h | h
   ·rw [Int.min_eq_left h]
    rcases h3 with h3 | ⟨j,hj,e⟩
    ·exact .inl h3
    ·exact .inr ⟨j,by omega,e⟩
   ·rw [Int.min_eq_right h]
    exact .inr ⟨k,by omega,rfl⟩
structure LcL (s:List (List Int)) (g:GmT) (num den:Int) (L:List Int):Prop where
 len:L.length=g.list.length
 lc:LCr g.list.length (rqR s) (gmE g num den) (fun i=>L.getD i 0)
theorem ZH {m s:List (List Int)} {g:GmT} {num den G:Int} (hB:GmB m s g num den G) (h:∃ C,CrP g.list.length (rqR s) (gmE g num den) C):∃ L,LcL s g num den L:=by
 obtain ⟨C,hC⟩:=h
 obtain ⟨D,h1,h2⟩:=ZI _ C (Nat.le_refl _) hC
 refine ⟨(List.range g.list.length).map D,by simp,⟨fun i hi=>by rw [dI hi];exact h1.pos i hi,fun i r hi hr =>?_⟩,fun E hE i hi=>by show ((List.range g.list.length).map D).getD i 0<=E i;rw [dI hi];exact h2 E hE i hi⟩
 obtain ⟨t,w,h3,h4⟩:=h1.ok i r hi hr
 refine ⟨t,w,h3,?_⟩
 rw [dI hi,dI (hB.eok i r t w hi hr h3).1]
 exact h4
theorem Eh {m s:List (List Int)} {g:GmT} {num den G:Int} (hB:GmB m s g num den G) (hG:0<=G) {L:List Int} (h:LcL s g num den L) {i:Nat} (hi:i<g.list.length):0<=L.getD i 0/\L.getD i 0<=60*G:=by
 obtain ⟨D,h1,h2⟩:=J7 hB.eok hG h.lc.1
 have h3:=h.lc.2 D h1 i hi
 have h4:=(h2 i hi).2
 have h5:=Int.mul_le_mul_of_nonneg_right (show (g.list.length:Int)<=60 by have:=hB.full.le;omega) hG
 have h6:=h.lc.1.pos i hi
 exact ⟨h6,by have h3:L.getD i 0<=D i:=h3;omega⟩
structure zy (g:GmT) (L out:List Int):Prop where
 len:out.length=g.list.length
 ge:∀ v,v<g.list.length->0<=out.getD v 0
 le:∀ v,v<g.list.length->out.getD v 0<=L.getD v 0
theorem ac3 {m s:List (List Int)} {g:GmT} {num den G:Int} (hB:GmB m s g num den G) {L out:List Int} (h:LcL s g num den L) (ho:zy g L out) {i r:Nat} (hi:i<g.list.length) (hr:r<s.length):miN num den ((g.ch.getD i []).getD r []) out ((g.ch.getD i []).getD r []).length<=L.getD i 0:=by
 obtain ⟨t,w,⟨k,hk,rfl,rfl⟩,h1⟩:=h.lc.1.ok i r hi hr
 have h2:=(IU num den ((g.ch.getD i []).getD r []) out ((g.ch.getD i []).getD r []).length).2.1 k hk
 have h3:=ho.le _ (hB.to_ hi hr hk).1
 have h1:cO num den (((g.ch.getD i []).getD r []).getD k [])+L.getD (toC (((g.ch.getD i []).getD r []).getD k [])) 0<=L.getD i 0:=h1
 omega
theorem SC {m s:List (List Int)} {g:GmT} {num den G:Int} (hB:GmB m s g num den G) (hG:0<=G/\G<=1000000000) {L out:List Int} (h:LcL s g num den L) (ho:zy g L out) (hst:∀ i r,i<g.list.length->r<s.length->miN num den ((g.ch.getD i []).getD r []) out ((g.ch.getD i []).getD r []).length<=out.getD i 0):out=L:=by
 have hc:CrP g.list.length (rqR s) (gmE g num den) (fun i=>out.getD i 0):=by
  refine ⟨ho.ge,fun i r hi hr =>?_⟩
  have h1:=hst i r hi hr
  have h2:=(Eh hB hG.1 h hi).2
  have h3:=ho.le i hi
  rcases (IU num den ((g.ch.getD i []).getD r []) out ((g.ch.getD i []).getD r []).length).2.2 with h4 | ⟨k,hk,e⟩
  ·omega
  ·exact ⟨_,_,⟨k,hk,rfl,rfl⟩,by show _+out.getD _ 0<=out.getD i 0;omega⟩
 refine List.ext_getElem (by rw [ho.len,h.len]) fun v hv hv' =>?_
 have hv2:v<g.list.length:=by rw [← ho.len];exact hv
 have h1:=h.lc.2 _ hc v hv2
 have h2:=ho.le v hv2
 simp only [List.getD_eq_getElem?_getD,List.getElem?_eq_getElem hv,List.getElem?_eq_getElem hv',Option.getD_some] at h1 h2
 omega
theorem Wp {g:GmT} {L out:List Int} {v:Nat} {x:Int} (ho:zy g L out) (hv:v<g.list.length) (h1:out.getD v 0<x) (h2:x<=L.getD v 0):zy g L (out.set v x)/\sAI (fun u=>out.getD u 0) g.list.length<sAI (fun u=>(out.set v x).getD u 0) g.list.length:=by
 have hl:=ho.len
 have hat:∀ u,(out.set v x).getD u 0=if u=v then x else out.getD u 0:=fun u=>by
  simp only [List.getD_eq_getElem?_getD,List.getElem?_set]
  by_cases e:v=u
  ·subst e;simp [show v<out.length by omega]
  ·rw [if_neg e,if_neg fun e2=>e e2.symm]
 refine ⟨⟨by rw [List.length_set];exact hl,fun u hu =>?_,fun u hu =>?_⟩,lQ _ (fun u hu =>?_) ⟨v,hv,?_⟩⟩
 ·rw [hat];split
  ·have:=ho.ge v hv;omega
  ·exact ho.ge u hu
 ·rw [hat];split
  ·rename_i e;subst e;exact h2
  ·exact ho.le u hu
 ·rw [hat];split
  ·rename_i e;subst e;omega
  ·exact Int.le_refl _
 ·rw [hat,if_pos rfl];exact h1
theorem yN {g:GmT} {L out:List Int} (ho:zy g L out):sAI (fun u=>out.getD u 0) g.list.length<=sAI (fun u=>L.getD u 0) g.list.length:=Au _ ho.le
theorem qh {xs ys:List Int} (hl:xs.length=ys.length) (h:∀ v,v<ys.length->xs.getD v 0=ys.getD v 0):xs=ys :=
 List.ext_getElem hl fun v hv hv'=>by
  have:=h v hv'
  simpa [List.getD_eq_getElem?_getD,hv,hv'] using this
theorem wX (xs:List Int) (v u:Nat) (x:Int) (hv:v<xs.length):(xs.set v x).getD u 0=if u=v then x else xs.getD u 0:=by
 simp only [List.getD_eq_getElem?_getD,List.getElem?_set]
 by_cases e:v=u
 ·subst e;simp [hv]
 ·rw [if_neg e,if_neg fun e2=>e e2.symm]
theorem LX (xs:List Int) {v:Nat} {x:Int} (hv:v<xs.length) (h:xs.getD v 0=x):xs.set v x=xs:=by
 refine qh (by simp) fun u hu =>?_
 rw [wX xs v u x hv]
 split
 ·rename_i e;subst e;exact h.symm
 ·rfl
theorem set_set (xs:List Int) (v:Nat) (x y:Int):(xs.set v x).set v y=xs.set v y:=by simp
def moR (N:Int) (row:List (List Int)) (m:Int):Nat->Int
 | 0=>m
 | k+1=>max (moR N row m k) ((arW (row.getD k [])*N-1).natAbs:Int)
def moA (N:Int) (ar:List (List (List Int))):Nat->Int
 | 0=>1
 | i+1=>moR N (aG ar i) (moA N ar i) (aG ar i).length
theorem N7 (N:Int) (row:List (List Int)) (m:Int):∀ k,m<=moR N row m k/\∀ j,j<k -> -moR N row m k<=arW (row.getD j [])*N-1/\arW (row.getD j [])*N-1<=moR N row m k
 | 0=>⟨Int.le_refl _,fun j hj=>by omega⟩
 | k+1=>by
  obtain ⟨h1,h2⟩:=N7 N row m k
  unfold moR
  refine ⟨by omega,fun j hj =>?_⟩
  by_cases e:j=k
  ·subst e;omega
  ·have:=h2 j (by omega);omega
theorem VL {N:Int} {row:List (List Int)} {m b:Int} (hm:m<=b):∀ k,(∀ j,j<k -> -b<=arW (row.getD j [])*N-1/\arW (row.getD j [])*N-1<=b)->moR N row m k<=b
 | 0,_=>hm
 | k+1,h=>by
  have h1:=VL hm k fun j hj=>h j (by omega)
  have h2:=h k (by omega)
  unfold moR
  omega
theorem Ad (N:Int) (ar:List (List (List Int))):∀ i,1<=moA N ar i/\∀ v,v<i->∀ k,k<(aG ar v).length -> -moA N ar i<=arW ((aG ar v).getD k [])*N-1/\arW ((aG ar v).getD k [])*N-1<=moA N ar i
 | 0=>⟨Int.le_refl _,fun v hv=>by omega⟩
 | i+1=>by
  obtain ⟨h1,h2⟩:=Ad N ar i
  obtain ⟨h3,h4⟩:=N7 N (aG ar i) (moA N ar i) (aG ar i).length
  unfold moA
  refine ⟨by omega,fun v hv k hk =>?_⟩
  by_cases e:v=i
  ·subst e;exact h4 k hk
  ·have:=h2 v (by omega) k hk;omega
theorem VK {N:Int} {ar:List (List (List Int))} {b:Int} (hb:1<=b):∀ i,(∀ v,v<i->∀ k,k<(aG ar v).length -> -b<=arW ((aG ar v).getD k [])*N-1/\arW ((aG ar v).getD k [])*N-1<=b)->moA N ar i<=b
 | 0,_=>hb
 | i+1,h=>by
  have h1:=VK hb i fun v hv=>h v (by omega)
  unfold moA
  exact VL h1 _ fun j hj=>h i (by omega) j hj
theorem yX {G w N:Int} (hG:0<=G) (hw : -G<=w/\w<=G) (hN:0<=N) : -(G*N+1)<=w*N-1/\w*N-1<=G*N+1:=by
 have h1:=Int.mul_le_mul_of_nonneg_right hw.2 hN
 have h2:=Int.mul_le_mul_of_nonneg_right hw.1 hN
 rw [Int.neg_mul] at h2
 omega
theorem OC {cfl:List Bool} {ar:List (List (List Int))} {G:Int} (h:qG cfl ar G):qG cfl (scl ar) (moA ((ar.length:Int)+1) ar ar.length):=by
 refine ⟨by simp [scl,h.len],fun v hv k hk =>?_,fun v hv hc k hk =>?_⟩
 ·rw [jK] at hk
  obtain ⟨t,w,e,h1,h2,h3⟩:=h.el v hv k hk
  have h4:=(Ad ((ar.length:Int)+1) ar ar.length).2 v (by rw [h.len];exact hv) k hk
  rw [e] at h4
  refine ⟨t,w*((ar.length:Int)+1)-1,?_,h1,h4⟩
  rw [CU,iC hk [] [],e]
  rfl
 ·rw [jK] at hk
  rw [(Fb hk).1]
  exact h.bip v hv hc k hk
theorem VJ {cfl:List Bool} {ar:List (List (List Int))} {G:Int} (h:qG cfl ar G) (hG:0<=G):moA ((ar.length:Int)+1) ar ar.length<=G*((ar.length:Int)+1)+1 :=
 VK (by have:=Int.mul_nonneg hG (show (0:Int)<=(ar.length:Int)+1 by omega);omega) ar.length fun v hv k hk=>by
  obtain ⟨t,w,e,h1,h2⟩:=h.el v (by rw [← h.len];exact hv) k hk
  rw [e]
  exact yX hG h2 (by omega)
theorem zF {cfl:List Bool} {ar:List (List (List Int))} {K great:Int} (hok:qG cfl ar K) (hK:0<=K) (hg:0<=great):ACh cfl ar (List.replicate cfl.length (-1))/\∃ k W,ArX cfl ar great k (List.replicate cfl.length (-1)) W:=by
 have hat:∀ v,v<cfl.length->(List.replicate cfl.length (-1:Int)).getD v 0 = -1:=fun v hv=>by simp [hv]
 have hc:ACh cfl ar (List.replicate cfl.length (-1)):=⟨by simp,fun v hv=>by rw [hat v hv];omega,fun v hv=>by rw [hat v hv];omega⟩
 obtain ⟨V,hV⟩:=RD (great:=great) hok hc hat hK hg
 exact ⟨hc,Zp hok _ _ V (Nat.le_refl _) hc hV⟩
theorem ArX.val {cfl:List Bool} {ar:List (List (List Int))} {great:Int} {k:Nat} {ch W:List Int} (h:ArX cfl ar great k ch W):∃ V,ArV cfl ar great ch V/\((jk cfl ar V ch=ch/\V=W)\/(jk cfl ar V ch≠ch/\∃ j,k=j+1/\ArX cfl ar great j (jk cfl ar V ch) W)):=by
 cases h with
 | stop h1 h2=>exact ⟨W,h1,.inl ⟨h2,rfl⟩⟩
 | step h1 h2 h3=>exact ⟨_,h1,.inr ⟨h2,_,rfl,h3⟩⟩
theorem Yb {cfl:List Bool} {ar:List (List (List Int))} {great:Int} {ch V:List Int} (hc:ACh cfl ar ch) (h:ArV cfl ar great ch V) {v:Nat} (hv:v<cfl.length) (hcv:arC cfl v=true) (hlt:(jY V (aG ar v) (V.getD v 0) (ch.getD v 0) (aG ar v).length).1<V.getD v 0):(jk cfl ar V ch).getD v 0≠ch.getD v 0:=by
 rw [uK hv,if_pos hcv]
 obtain ⟨_,_,_,h4⟩:=uM V (aG ar v) (V.getD v 0) (ch.getD v 0) (aG ar v).length
 obtain ⟨j,hj,e1,e2⟩:=h4 hlt
 rw [e1]
 intro e
 have h5:=h.old hv hcv (by rw [← e];omega)
 rw [← e,Int.toNat_natCast] at h5
 omega
theorem Ya {cfl:List Bool} {ar:List (List (List Int))} {ch V:List Int} {v:Nat} (hv:v<cfl.length) (hcv:arC cfl v=true) (h:¬ (jY V (aG ar v) (V.getD v 0) (ch.getD v 0) (aG ar v).length).1<V.getD v 0):(jk cfl ar V ch).getD v 0=ch.getD v 0:=by
 rw [uK hv,if_pos hcv]
 obtain ⟨h1,h2,_,_⟩:=uM V (aG ar v) (V.getD v 0) (ch.getD v 0) (aG ar v).length
 exact h2 (by omega)
end Go.Proofs.YtkcelmnbfbehbaaGreat
