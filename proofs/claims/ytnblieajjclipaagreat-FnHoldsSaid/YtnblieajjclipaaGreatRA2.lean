/- Credits of games: an algorithm that has a credit somewhere has one everywhere, by mimicking. Plain laws. Conditions: games that are whole. -/
import Derived.Test.YtnblieajjclipaaGreatRA1
import Derived.Test.YtnblieajjclipaaGreatZZStratP
set_option linter.all false
namespace Go.Proofs.YtnblieajjclipaaGreat
def gmE (g:GmT) (num den:Int) (i r t:Nat) (w:Int):Prop:=∃ k,k<((g.ch.getD i []).getD r []).length/\t=toC (((g.ch.getD i []).getD r []).getD k [])/\w=aW num den (((g.ch.getD i []).getD r []).getD k [])
abbrev rqR (s:List (List Int)) (_ r:Nat):Prop:=r<s.length
def dMx (v w:List Int):Nat->Int
 | 0=>0
 | n+1=>max (dMx v w n) (v.getD n 0-w.getD n 0)
theorem MR (v w:List Int):∀ n,0<=dMx v w n/\∀ y,y<n->v.getD y 0<=w.getD y 0+dMx v w n
 | 0=>⟨Int.le_refl _,fun y hy=>by omega⟩
 | n+1=>by
  obtain ⟨h1,h2⟩:=MR v w n
  unfold dMx
  refine ⟨by omega,fun y hy =>?_⟩
  by_cases e:y=n
  ·subst e;omega
  ·have:=h2 y (by omega);omega
theorem Uk {v w:List Int} {c:Int} (h0:0<=c):∀ n,(∀ y,y<n->v.getD y 0<=w.getD y 0+c)->dMx v w n<=c
 | 0,_=>h0
 | n+1,h=>by
  have h1:=Uk h0 n fun y hy=>h y (by omega)
  have h2:=h n (by omega)
  unfold dMx
  omega
theorem RS {v w:List Int} {c:Int} (k:Nat) (h:∀ y,y<=k->v.getD y 0<=w.getD y 0+c):dn v k<=dn w k+c:=by
 obtain ⟨j,h1,h2⟩:=zK w k
 have h3:=ku v k j h1
 have h4:=h j h1
 omega
theorem acw {m s:List (List Int)} {v w:List Int} {c:Int} (hc:0<=c) (h:∀ y,y<m.length->v.getD y 0<=w.getD y 0+c) (r x:Nat):wAt m s v r x<=wAt m s w r x+c:=by
 unfold wAt
 refine DV hc m.length fun y hy _ =>?_
 have:=h y hy
 unfold lG
 omega
theorem Ul {m s:List (List Int)} (hm:0<m.length) (v w:List Int) (r:Nat):dMx (iG m s v r) (iG m s w r) m.length+iM m s v r<=dMx v w m.length+iM m s w r:=by
 obtain ⟨h0,h1⟩:=MR v w m.length
 have h2:=acw (s:=s) h0 h1 r
 have h3:iM m s v r<=iM m s w r+dMx v w m.length:=by
  unfold iM
  exact RS _ fun y hy=>by
   rw [sJ (by omega),sJ (by omega)]
   exact h2 y
 have:=Uk (v:=iG m s v r) (w:=iG m s w r) (c:=dMx v w m.length+iM m s w r-iM m s v r) (by omega) m.length fun y hy=>by
  rw [BD hy,BD hy]
  have:=h2 y
  omega
 omega
theorem Bv (f:Nat->Int) (P:Nat->Prop):∀ n,(∃ j,j<n/\P j)->∃ j,j<n/\P j/\∀ i,i<n->P i->f j<=f i
 | 0,⟨j,hj,_⟩=>by omega
 | n+1,⟨j,hj,hp⟩=>by
  by_cases hx:∃ j,j<n/\P j
  ·obtain ⟨i,h1,h2,h3⟩:=Bv f P n hx
   by_cases hn:P n/\f n<f i
   ·refine ⟨n,by omega,hn.1,fun k hk hpk =>?_⟩
    by_cases e:k=n
    ·rw [e];exact Int.le_refl _
    ·have:=h3 k (by omega) hpk;omega
   ·refine ⟨i,by omega,h2,fun k hk hpk =>?_⟩
    by_cases e:k=n
    ·subst e
     exact Int.not_lt.1 fun h4=>hn ⟨hpk,h4⟩
    ·exact h3 k (by omega) hpk
  ·have e:j=n:=Classical.byContradiction fun h=>hx ⟨j,by omega,hp⟩
   subst e
   refine ⟨j,hj,hp,fun k hk hpk =>?_⟩
   by_cases e:k=j
   ·rw [e];exact Int.le_refl _
   ·exact absurd ⟨k,by omega,hpk⟩ hx
structure GmX (m s:List (List Int)) (t:dD) (g:GmT):Prop where
 full:aU m s g
 off:∀ j r,j<t.list.length->r<s.length->∃ k:Nat,(t.next.getD j []).getD r 0=k/\k<t.list.length/\t.list.getD k []=iG m s (t.list.getD j []) r/\(t.grows.getD j []).getD r 0=iM m s (t.list.getD j []) r
 at_:∀ i,i<g.list.length->∃ st w:Nat,g.list.getD i []=[(st:Int),(w:Int)]/\st<m.length/\w<t.list.length
 ch:∀ a∈g.ch,∀ row∈a,∀ c∈row,chP m s t g.list c
theorem PV (m s:List (List Int)) (t:dD) (x:Nat):∀ i,(gmT m s t x i).list.getD 0 []=[(x:Int),0]/\0<(gmT m s t x i).list.length
 | 0=>⟨rfl,Nat.zero_lt_one⟩
 | i+1=>by
  obtain ⟨h1,h2⟩:=PV m s t x i
  obtain ⟨e,h3⟩:=ug m s t i (fF (gmT m s t x i) i) (iE (gmT m s t x i) i) (gmT m s t x i).list s.length
  have h4:(gmT m s t x (i+1)).list=(gmT m s t x i).list++e:=h3
  rw [h4]
  refine ⟨?_,by rw [List.length_append];omega⟩
  rw [List.getD_eq_getElem?_getD,List.getElem?_append_left h2,← List.getD_eq_getElem?_getD]
  exact h1
theorem Y1 {m s:List (List Int)} {x:Int} (h:(gmQ m s x).2=false):∃ k:Nat,x=k/\k<m.length/\GmX m s (jq m s k).1 (gmQ m s x).1/\(gmQ m s x).1.list.getD 0 []=[(k:Int),0]:=by
 have hf:=fM h
 have ht:=gV h
 obtain ⟨hp,⟨y,rfl,hy⟩,-,-⟩:=qc ht
 rw [Nl ht] at h hf ⊢
 cases ho:(jq m s y).2
 ·unfold gm at h hf ⊢
  rw [ho] at h hf ⊢
  simp only [cond_false] at h hf ⊢
  have htab:=EM hp hy ho
  obtain ⟨k,h1,h2,h3,h4⟩:=vV 100 0 h (fun j hj=>by omega) (Nat.zero_le _) (by simp [gmT])
  rw [h1] at hf ⊢
  have hok:=vW htab hy k h4
  refine ⟨y,rfl,hy,⟨hf,?_,fun i hi =>?_,YZ htab hy k h4⟩,(PV m s _ y k).1⟩
  ·unfold jq at ho ⊢
   obtain ⟨k',k1,k2,k3,k4⟩:=oC 500 0 ho fun j hj=>by omega
   rw [k1]
   have hx:=NZ (m:=m) (s:=s) (x:=y) k' k4
   exact fun j r hj hr=>hx.at_ j r (by
    have:(aP m s y k').list.length<=k':=k3
    have:j<(aP m s y k').list.length:=hj
    omega) hr
  ·obtain ⟨st,w,e1,-,-,e2,e3⟩:=FX hok hi
   exact ⟨st,w,e1,e2,e3⟩
 ·unfold gm at h;rw [ho] at h;simp at h
theorem X0 {m s:List (List Int)} {x:Int} (h:(gmQ m s x).2=false):∃ t,GmX m s t (gmQ m s x).1:=by
 obtain ⟨_,-,-,h,-⟩:=Y1 h
 exact ⟨_,h⟩
theorem GmX.choice {m s:List (List Int)} {t:dD} {g:GmT} (h:GmX m s t g) {i r k:Nat} (hi:i<g.list.length) (hr:r<s.length) (hk:k<((g.ch.getD i []).getD r []).length) {st w:Nat} (hst:g.list.getD i []=[(st:Int),(w:Int)]) :
  ∃ u nx to:Nat,((g.ch.getD i []).getD r []).getD k []=[(i:Int),(to:Int),at2 m st u+at2 s r u,iM m s (t.list.getD w []) r,(r:Int),(u:Int)]/\to<g.list.length/\g.list.getD to []=[(u:Int),(nx:Int)]/\u<m.length/\t.list.getD nx []=iG m s (t.list.getD w []) r:=by
 have hcl:=h.full.clen
 have h1:=h.full.c.len i (by omega)
 have hrow:=h.full.c.row i r (by omega) hr
 have hmem:((g.ch.getD i []).getD r []).getD k []∈(g.ch.getD i []).getD r []:=by rw [getD_in hk];exact List.getElem_mem hk
 obtain ⟨i',st',w',r',u,to,nx,e1,e2,e3,e4,e5,e6,e7,e8,e9,e10⟩:=h.ch (g.ch.getD i []) (by rw [getD_in (show i<g.ch.length by omega)];exact List.getElem_mem _) ((g.ch.getD i []).getD r []) (by rw [getD_in (show r<(g.ch.getD i []).length by omega)];exact List.getElem_mem _) _ hmem
 obtain ⟨k',u',a,b,f1,-⟩:=hrow.el _ hmem
 rw [e1] at f1
 simp only [List.cons.injEq,Int.natCast_inj] at f1
 obtain ⟨rfl,-,-,-,rfl,-,-⟩:=f1
 rw [hst] at e4
 simp only [List.cons.injEq,Int.natCast_inj] at e4
 obtain ⟨rfl,rfl,-⟩:=e4
 obtain ⟨k2,g1,g2,g3,g4⟩:=h.off w r' e8 hr
 refine ⟨u,k2,to,?_,e5,?_,e10,g3⟩
 ·rw [e1];unfold Dq;rw [g4]
 ·rw [e6,e2,g1]
theorem mimic {m s:List (List Int)} {t:dD} {g:GmT} (h:GmX m s t g) {num den:Int} (hn:0<=num) (hd:0<=den) (P:Nat->Prop) (C:Nat->Int) (hne:∃ j,j<g.list.length/\P j)
  (hP:∀ j,j<g.list.length->P j->0<=C j/\∀ r,r<s.length->∃ t w,gmE g num den j r t w/\P t/\w+C t<=C j):∃ D,CrP g.list.length (rqR s) (gmE g num den) D:=by
 have hm:0<m.length:=by have:=bI h.full.prob;omega
 let F:Nat->Nat->Int:=fun i j=>den*at2 m (fF g i) (fF g j)+C j+num*dMx (t.list.getD (iE g j) []) (t.list.getD (iE g i) []) m.length
 have hat:∀ i,i<g.list.length->∃ st w:Nat,g.list.getD i []=[(st:Int),(w:Int)]/\fF g i=st/\iE g i=w/\st<m.length:=fun i hi=>by
  obtain ⟨st,w,h1,h2,_⟩:=h.at_ i hi
  exact ⟨st,w,h1,by unfold fF;rw [h1];rfl,by unfold iE;rw [h1];rfl,h2⟩
 obtain ⟨J,hJ⟩:=Classical.axiomOfChoice fun i=>Bv (F i) P g.list.length hne
 refine ⟨fun i=>F i (J i),fun i hi =>?_,fun i r hi hr =>?_⟩
 ·obtain ⟨h1,h2,_⟩:=hJ i
  obtain ⟨st,w,_,e1,_,e3⟩:=hat i hi
  obtain ⟨st',w',_,f1,_,f3⟩:=hat _ h1
  have h3:=(hP _ h1 h2).1
  have h4:=Int.mul_nonneg hd (show 0<=at2 m (fF g i) (fF g (J i)) by rw [e1,f1];exact ((iC h.full.prob e3).2 st' f3).1)
  have h5:=Int.mul_nonneg hn (MR (t.list.getD (iE g (J i)) []) (t.list.getD (iE g i) []) m.length).1
  show 0<=den*_+C (J i)+num*_
  omega
 ·obtain ⟨h1,h2,h3⟩:=hJ i
  obtain ⟨st,w,a1,e1,e2,e3⟩:=hat i hi
  obtain ⟨st',w',b1,f1,f2,f3⟩:=hat _ h1
  obtain ⟨tj,wj,⟨k,hk,rfl,rfl⟩,h4,h5⟩:=(hP _ h1 h2).2 r hr
  obtain ⟨u,nx,to,g1,g2,g3,g4,g5⟩:=h.choice h1 hr hk b1
  have hcl:=h.full.clen
  have rowJ:=h.full.c.row (J i) r (by omega) hr
  have rowI:=h.full.c.row i r (by omega) hr
  have hu:(u:Int)∈srv s m.length r:=by
   rw [← rowJ.st,List.mem_map]
   exact ⟨((g.ch.getD (J i) []).getD r []).getD k [],by rw [getD_in hk];exact List.getElem_mem hk,by rw [g1];rfl⟩
  rw [← rowI.st,List.mem_map] at hu
  obtain ⟨c',hc',hcu⟩:=hu
  obtain ⟨k',hk',rfl⟩:=List.getElem_of_mem hc'
  rw [← getD_in (d:=[]) hk'] at hcu
  obtain ⟨u',nx',to',i1,i2,i3,i4,i5⟩:=h.choice hi hr hk' a1
  rw [i1] at hcu
  have hcu:(u':Int)=u:=hcu
  obtain rfl:u'=u:=by omega
  refine ⟨to',aW num den (((g.ch.getD i []).getD r []).getD k' []),⟨k',hk',by rw [i1];unfold toC;simp,rfl⟩,?_⟩
  have toE:toC (((g.ch.getD (J i) []).getD r []).getD k [])=to:=by rw [g1];unfold toC;simp
  rw [toE] at h4 h5
  have h6:=(hJ to').2.2 to g2 h4
  have s1:fF g to'=u':=by unfold fF;rw [i3];rfl
  have s2:fF g to=u':=by unfold fF;rw [g3];rfl
  have o1:iE g to'=nx':=by unfold iE;rw [i3];rfl
  have o2:iE g to=nx:=by unfold iE;rw [g3];rfl
  have F1:F to' to=den*0+C to+num*dMx (iG m s (t.list.getD w' []) r) (iG m s (t.list.getD w []) r) m.length:=by
   show den*at2 m (fF g to') (fF g to)+C to+num*dMx (t.list.getD (iE g to) []) (t.list.getD (iE g to') []) m.length=_
   rw [s1,s2,o1,o2,g5,i5,prob_0 h.full.prob g4]
  have F2:F i (J i)=den*at2 m st st'+C (J i)+num*dMx (t.list.getD w' []) (t.list.getD w []) m.length:=by
   show den*at2 m (fF g i) (fF g (J i))+C (J i)+num*dMx (t.list.getD (iE g (J i)) []) (t.list.getD (iE g i) []) m.length=_
   rw [e1,f1,e2,f2]
  have G1:aW num den (((g.ch.getD i []).getD r []).getD k' [])=den*(at2 m st u'+at2 s r u')-num*iM m s (t.list.getD w []) r:=by rw [i1];rfl
  have G2:aW num den (((g.ch.getD (J i) []).getD r []).getD k [])=den*(at2 m st' u'+at2 s r u')-num*iM m s (t.list.getD w' []) r:=by rw [g1];rfl
  have T1:=Int.mul_le_mul_of_nonneg_left (Lj h.full.prob e3 f3 g4) hd
  have T2:=Int.mul_le_mul_of_nonneg_left (Ul (s:=s) hm (t.list.getD w' []) (t.list.getD w []) r) hn
  show _+F to' (J to')<=F i (J i)
  rw [F1] at h6
  rw [F2,G1]
  rw [G2] at h5
  rw [Int.mul_add] at T1 T2 h5 ⊢
  rw [Int.mul_add] at T2
  have z:den*0=0:=Int.mul_zero _
  omega
def scl (ar:List (List (List Int))):List (List (List Int)):=ar.map fun l=>l.map fun e=>[e.getD 0 0,e.getD 1 0*((ar.length:Int)+1)-1]
def arR (cfl:List Bool) (ar:List (List (List Int))) (v r:Nat):Prop:=(arC cfl v=true/\r=0)\/(arC cfl v=false/\r<(aG ar v).length)
def arE (cfl:List Bool) (ar:List (List (List Int))) (v r t:Nat) (w:Int):Prop :=
 (arC cfl v=true/\∃ k,k<(aG ar v).length/\t=rD ((aG ar v).getD k [])/\w=arW ((aG ar v).getD k [])) \/
 (arC cfl v=false/\r<(aG ar v).length/\t=rD ((aG ar v).getD r [])/\w=arW ((aG ar v).getD r []))
theorem BK {ar:List (List (List Int))} {v:Nat}:aG (scl ar) v=(aG ar v).map fun e=>[e.getD 0 0,e.getD 1 0*((ar.length:Int)+1)-1]:=by
 unfold aG scl
 by_cases h:v<ar.length
 ·simp [h]
 ·simp [List.getElem?_eq_none (Nat.not_lt.1 h)]
theorem jL {ar:List (List (List Int))} {v:Nat}:(aG (scl ar) v).length=(aG ar v).length:=by rw [BK,List.length_map]
theorem Ez {ar:List (List (List Int))} {v k:Nat} (hk:k<(aG ar v).length):rD ((aG (scl ar) v).getD k [])=rD ((aG ar v).getD k [])/\arW ((aG (scl ar) v).getD k [])=((ar.length:Int)+1)*arW ((aG ar v).getD k [])-1:=by
 rw [BK,iw hk [] []]
 exact ⟨rfl,by unfold arW;show _*_-1=_;rw [Int.mul_comm]⟩
theorem ArX.fin {cfl:List Bool} {ar:List (List (List Int))} {great:Int} {n:Nat} {ch V:List Int} (h:ArX cfl ar great n ch V) (hc:ACh cfl ar ch):∃ ch',ACh cfl ar ch'/\ArV cfl ar great ch' V/\ArE cfl ar V:=by
 induction h with
 | @stop ch V h1 h2 =>
  exact ⟨ch,hc,h1,UZ (fun v hv hcv k hk hk2=>by subst hk2;exact h1.old hv hcv hk) h2⟩
 | @step _ ch V W h1 h2 h3 ih=>exact ih (Ia hc).ok
theorem OY {cfl:List Bool} {ar:List (List (List Int))} {great K:Int} {n:Nat} {ch V:List Int} (h:ArX cfl (scl ar) great n ch V) (hc:ACh cfl (scl ar) ch) (hok:qj cfl (scl ar) K) (hK:0<=K) :
  ql cfl.length (arR cfl ar) (arE cfl ar) ((ar.length:Int)+1) great (cfl.length*K) (fun v=>V.getD v 0):=by
 obtain ⟨ch',h1,h2,h3⟩:=h.fin hc
 refine ⟨h2.lst.sup.pos,?_,?_,fun v hv =>?_⟩
 ·rintro v r hv (⟨hcv,rfl⟩ | ⟨hcv,hr⟩)
  ·rcases Int.lt_or_le (ch'.getD v 0) 0 with h4 | h4
   ·exact .inr (h2.lst.sup.flr v _ hv ⟨hcv,h4,rfl⟩)
   ·left
    have h5:=h2.lst.sup.arc v _ _ hv (.inr ⟨hcv,h4,rfl,rfl⟩)
    have h6:=h1.lt v hv
    rw [jL] at h6
    have h7:=Ez (ar:=ar) (v:=v) (k:=(ch'.getD v 0).toNat) (by omega)
    refine ⟨_,_,.inl ⟨hcv,(ch'.getD v 0).toNat,by omega,rfl,rfl⟩,?_⟩
    rw [h7.1,h7.2] at h5
    exact h5
  ·left
   have h5:=h2.lst.sup.arc v _ _ hv (.inl ⟨hcv,r,by rw [jL];exact hr,rfl,rfl⟩)
   have h7:=Ez hr
   refine ⟨_,_,.inr ⟨hcv,hr,rfl,rfl⟩,?_⟩
   rw [h7.1,h7.2] at h5
   exact h5
 ·intro v hv h0
  cases hcv:arC cfl v
  ·rcases h2.lst.tight hv h0 with ⟨c,⟨h4,_⟩,_⟩ | ⟨t,w,ha,h5⟩
   ·rw [hcv] at h4;cases h4
   ·rcases ha with ⟨_,k,hk,rfl,rfl⟩ | ⟨h4,_⟩
    ·rw [jL] at hk
     have h7:=Ez hk
     refine ⟨k,.inr ⟨hcv,hk⟩,?_⟩
     rintro t w (⟨h8,_⟩ | ⟨_,_,rfl,rfl⟩)
     ·rw [hcv] at h8;cases h8
     ·rw [h7.1,h7.2] at h5
      exact h5
    ·rw [hcv] at h4;cases h4
  ·refine ⟨0,.inl ⟨hcv,rfl⟩,?_⟩
   rintro t w (⟨_,k,hk,rfl,rfl⟩ | ⟨h8,_⟩)
   ·have h4:=h3 v hv hcv k (by rw [jL];exact hk)
    have h7:=Ez hk
    unfold arS at h4
    rw [h7.1,h7.2] at h4
    show V.getD v 0<=_
    have h0:0<V.getD v 0:=h0
    omega
   ·rw [hcv] at h8;cases h8
 ·rcases h2.lst.gap hK (zl hok h1) (fun v c _ ⟨_,_,e⟩=>e) v hv with h4 | h4
  ·exact .inl h4
  ·exact .inr h4.1
def xB (n q j c:Nat):List (List Int):=(List.range c).map fun r=>[((n+(j*q+r):Nat):Int),0]
def pq (g:GmT) (num den:Int) (q e:Nat):List (List Int):=((g.ch.getD (e / q) []).getD (e % q) []).map fun c=>[c.getD 1 0,den*c.getD 2 0-num*c.getD 3 0]
def arG (g:GmT) (num den:Int) (q a r:Nat):List (List (List Int)):=((List.range g.list.length).map fun j=>xB g.list.length q j (if j<a then q else if j=a then r else 0))++(List.range (a*q+r)).map (pq g num den q)
def cfG (g:GmT) (k:Nat):List Bool:=List.replicate g.list.length false++List.replicate k true
theorem rH {g:GmT} {num den:Int} {q a r v:Nat} (hv:v<g.list.length):aG (arG g num den q a r) v=xB g.list.length q v (if v<a then q else if v=a then r else 0):=by
 unfold aG arG
 rw [List.getD_eq_getElem?_getD,List.getElem?_append_left (by simpa using hv)]
 simp [hv]
theorem zn {g:GmT} {num den:Int} {q a r e:Nat} (he:e<a*q+r):aG (arG g num den q a r) (g.list.length+e)=pq g num den q e:=by
 unfold aG arG
 rw [List.getD_eq_getElem?_getD,List.getElem?_append_right (by simp)]
 simp [he]
theorem kG (g:GmT) (num den:Int) (q a r:Nat):(arG g num den q a r).length=g.list.length+(a*q+r):=by simp [arG]
theorem jd (g:GmT) (k:Nat):(cfG g k).length=g.list.length+k:=by simp [cfG]
theorem rM {g:GmT} {k v:Nat} (hv:v<g.list.length):arC (cfG g k) v=false:=by
 unfold arC cfG
 rw [List.getD_eq_getElem?_getD,List.getElem?_append_left (by simpa using hv)]
 simp [hv]
theorem zq {g:GmT} {k v:Nat} (hv:g.list.length<=v) (hk:v<g.list.length+k):arC (cfG g k) v=true:=by
 unfold arC cfG
 rw [List.getD_eq_getElem?_getD,List.getElem?_append_right (by simpa using hv)]
 simp [show v-g.list.length<k by omega]
theorem tN {n q j c r:Nat} (hr:r<c):(xB n q j c).getD r []=[((n+(j*q+r):Nat):Int),0]:=by simp [xB,hr]
theorem jl (n q j c:Nat):(xB n q j c).length=c:=by simp [xB]
theorem Xy {g:GmT} {num den:Int} {q e k:Nat} (hk:k<((g.ch.getD (e / q) []).getD (e % q) []).length):(pq g num den q e).getD k []=[(((g.ch.getD (e / q) []).getD (e % q) []).getD k []).getD 1 0,aW num den (((g.ch.getD (e / q) []).getD (e % q) []).getD k [])]:=by
 unfold pq
 rw [iw hk [] []]
 rfl
theorem Jv (g:GmT) (num den:Int) (q e:Nat):(pq g num den q e).length=((g.ch.getD (e / q) []).getD (e % q) []).length:=by simp [pq]
theorem lC {q i r:Nat} (hr:r<q):(i*q+r) / q=i/\(i*q+r) % q=r:=by
 rw [Nat.mul_comm,Nat.mul_add_div (by omega),Nat.mul_add_mod,Nat.div_eq_of_lt hr,Nat.mod_eq_of_lt hr]
 exact ⟨rfl,rfl⟩
theorem kP {n q i r:Nat} (hi:i<n) (hr:r<q):i*q+r<n*q:=by
 have:=Nat.mul_le_mul_right q (show i+1<=n from hi)
 rw [Nat.add_mul,Nat.one_mul] at this
 omega
structure GmB (m s:List (List Int)) (g:GmT) (num den G:Int):Prop where
 full:aU m s g
 n0:0<=num
 d0:0<=den
 bd:∀ i r k,i<g.list.length->r<s.length->k<((g.ch.getD i []).getD r []).length -> -G<=aW num den (((g.ch.getD i []).getD r []).getD k [])/\aW num den (((g.ch.getD i []).getD r []).getD k [])<=G
theorem GmB.to_ {m s:List (List Int)} {g:GmT} {num den G:Int} (h:GmB m s g num den G) {i r k:Nat} (hi:i<g.list.length) (hr:r<s.length) (hk:k<((g.ch.getD i []).getD r []).length):toC (((g.ch.getD i []).getD r []).getD k [])<g.list.length/\(((g.ch.getD i []).getD r []).getD k []).getD 1 0=(toC (((g.ch.getD i []).getD r []).getD k []):Int):=by
 have hcl:=h.full.clen
 have hrow:=h.full.c.row i r (by omega) hr
 have hmem:((g.ch.getD i []).getD r []).getD k []∈(g.ch.getD i []).getD r []:=by rw [getD_in hk];exact List.getElem_mem hk
 obtain ⟨t,u,a,b,e,h1,_⟩:=hrow.el _ hmem
 rw [e]
 exact ⟨by unfold toC;simpa using h1,by unfold toC;simp⟩
theorem GmB.eok {m s:List (List Int)} {g:GmT} {num den G:Int} (h:GmB m s g num den G):EOK g.list.length (rqR s) (gmE g num den) G:=by
 rintro i r t w hi hr ⟨k,hk,rfl,rfl⟩
 exact ⟨(h.to_ hi hr hk).1,h.bd i r k hi hr hk⟩
abbrev cfX (s:List (List Int)) (g:GmT):List Bool:=cfG g (g.list.length*s.length)
abbrev eH (s:List (List Int)) (g:GmT) (num den:Int):List (List (List Int)):=arG g num den s.length g.list.length 0
theorem jU {s:List (List Int)} {g:GmT} {num den:Int} {v:Nat} (hv:v<g.list.length):aG (eH s g num den) v=xB g.list.length s.length v s.length:=by
 rw [rH hv,if_pos hv]
theorem jT {s:List (List Int)} {g:GmT} {num den:Int} {i r:Nat} (hi:i<g.list.length) (hr:r<s.length):aG (eH s g num den) (g.list.length+(i*s.length+r))=((g.ch.getD i []).getD r []).map fun c=>[c.getD 1 0,den*c.getD 2 0-num*c.getD 3 0]:=by
 rw [zn (by have:=kP hi hr;omega)]
 unfold pq
 rw [(lC hr).1,(lC hr).2]
theorem yD {n q v:Nat} (h1:n<=v) (h2:v<n+n*q):∃ i r,i<n/\r<q/\v=n+(i*q+r):=by
 have hq:0<q:=by
  rcases Nat.eq_zero_or_pos q with rfl | h
  ·simp at h2;omega
  ·exact h
 refine ⟨(v-n) / q,(v-n) % q,(Nat.div_lt_iff_lt_mul hq).2 (by omega),Nat.mod_lt _ hq,?_⟩
 have:=Nat.div_add_mod (v-n) q
 rw [Nat.mul_comm] at this
 omega
theorem Me {m s:List (List Int)} {g:GmT} {num den G:Int} (h:GmB m s g num den G) (hG:0<=G):qj (cfX s g) (eH s g num den) G:=by
 refine ⟨by rw [kG,jd];omega,fun v hv k hk =>?_,fun v hv hc k hk =>?_⟩
 ·rw [jd] at hv ⊢
  by_cases hlt:v<g.list.length
  ·rw [jU hlt] at hk ⊢
   rw [jl] at hk
   rw [tN hk]
   exact ⟨_,0,rfl,by have:=kP hlt hk;omega,by omega,hG⟩
  ·obtain ⟨i,r,hi,hr,rfl⟩:=yD (Nat.not_lt.1 hlt) hv
   rw [jT hi hr] at hk ⊢
   rw [List.length_map] at hk
   rw [iw hk [] []]
   have h1:=h.to_ hi hr hk
   have h2:=h.bd i r k hi hr hk
   exact ⟨_,_,by rw [h1.2];rfl,by omega,h2⟩
 ·rw [jd] at hv
  have hlt:v<g.list.length:=Nat.lt_of_not_ge fun h1=>by rw [zq h1 hv] at hc;cases hc
  rw [jU hlt] at hk ⊢
  rw [jl] at hk
  rw [tN hk,(iO rfl).1]
  exact zq (by omega) (by have:=kP hlt hk;omega)
theorem Zn {m s:List (List Int)} {g:GmT} {num den G:Int} (h:GmB m s g num den G):(∃ C,CrP (cfX s g).length (arR (cfX s g) (eH s g num den)) (arE (cfX s g) (eH s g num den)) C)↔∃ C,CrP g.list.length (rqR s) (gmE g num den) C:=by
 constructor
 ·rintro ⟨C,hC⟩
  refine ⟨C,fun i hi=>hC.pos i (by rw [jd];omega),fun i r hi hr =>?_⟩
  have hnl:=kP hi hr
  obtain ⟨t,w,h1,h2⟩:=hC.ok i r (by rw [jd];omega) (.inr ⟨rM hi,by rw [jU hi,jl];exact hr⟩)
  rcases h1 with ⟨h3,_⟩ | ⟨_,_,rfl,rfl⟩
  ·rw [rM hi] at h3;cases h3
  rw [jU hi,tN hr,(iO rfl).1,(iO rfl).2] at h2
  obtain ⟨t,w,h3,h4⟩:=hC.ok (g.list.length+(i*s.length+r)) 0 (by rw [jd];omega) (.inl ⟨zq (by omega) (by omega),rfl⟩)
  rcases h3 with ⟨_,k,hk,rfl,rfl⟩ | ⟨h5,_⟩
  ·rw [jT hi hr] at hk h4
   rw [List.length_map] at hk
   rw [iw hk [] []] at h4
   refine ⟨_,_,⟨k,hk,rfl,rfl⟩,?_⟩
   have h5:aW num den (((g.ch.getD i []).getD r []).getD k [])+C (toC (((g.ch.getD i []).getD r []).getD k []))<=C (g.list.length+(i*s.length+r)):=h4
   omega
  ·rw [zq (by omega) (by omega)] at h5;cases h5
 ·rintro ⟨C,hC⟩
  refine ⟨fun v=>if v<g.list.length then C v else C ((v-g.list.length) / s.length),fun v hv =>?_,fun v r hv hr =>?_⟩
  ·rw [jd] at hv
   show 0<=ite _ _ _
   split
   ·rename_i h1;exact hC.pos v h1
   ·rename_i h1
    obtain ⟨i,r,hi,hr,rfl⟩:=yD (Nat.not_lt.1 h1) hv
    rw [Nat.add_sub_cancel_left,(lC hr).1]
    exact hC.pos i hi
  ·rw [jd] at hv
   by_cases h1:v<g.list.length
   ·rcases hr with ⟨h2,_⟩ | ⟨_,h2⟩
    ·rw [rM h1] at h2;cases h2
    rw [jU h1,jl] at h2
    refine ⟨_,_,.inr ⟨rM h1,by rw [jU h1,jl];exact h2,rfl,rfl⟩,?_⟩
    rw [jU h1,tN h2,(iO rfl).1,(iO rfl).2]
    show _+ite _ _ _<=ite _ _ _
    rw [if_neg (by omega),if_pos h1,Nat.add_sub_cancel_left,(lC h2).1]
    omega
   ·obtain ⟨i,r',hi,hr',rfl⟩:=yD (Nat.not_lt.1 h1) hv
    obtain ⟨t,w,⟨k,hk,rfl,rfl⟩,h2⟩:=hC.ok i r' hi hr'
    have h3:=h.to_ hi hr' hk
    refine ⟨_,_,.inl ⟨zq (by omega) (by have:=kP hi hr';omega),k,by rw [jT hi hr',List.length_map];exact hk,rfl,rfl⟩,?_⟩
    rw [jT hi hr',iw hk [] []]
    show aW num den _+ite (toC _<_) _ _<=ite _ _ _
    rw [if_pos h3.1,if_neg h1,Nat.add_sub_cancel_left,(lC hr').1]
    exact h2
theorem Xx {cfl:List Bool} {ar:List (List (List Int))} {G:Int} (h:qj cfl ar G):EOK cfl.length (arR cfl ar) (arE cfl ar) G:=by
 rintro v r t w hv hr (⟨_,k,hk,rfl,rfl⟩ | ⟨_,hk,rfl,rfl⟩)
 ·have:=h.at hv hk
  exact ⟨this.1,this.2.1,this.2.2.1⟩
 ·have:=h.at hv hk
  exact ⟨this.1,this.2.1,this.2.2.1⟩
theorem OX {m s:List (List Int)} {g:GmT} {num den G K:Int} (h:GmB m s g num den G) (hG:0<=G) {V:List Int} (hK:1<=K) (hGK:(((eH s g num den).length:Int)+1)*G<=K+1)
  (hV:ql (cfX s g).length (arR (cfX s g) (eH s g num den)) (arE (cfX s g) (eH s g num den)) (((eH s g num den).length:Int)+1) (4*((((eH s g num den).length:Int)+1)*K)) ((cfX s g).length*K) (fun v=>V.getD v 0)) :
  (∀ v,v<(cfX s g).length->V.getD v 0<=(((eH s g num den).length:Int)+1)*K)↔∃ C,CrP g.list.length (rqR s) (gmE g num den) C:=by
 have hl:(eH s g num den).length=(cfX s g).length:=by rw [kG,jd];omega
 rw [hl] at hV hGK ⊢
 generalize hn:(cfX s g).length=n at *
 have hE:EOK n (arR (cfX s g) (eH s g num den)) (arE (cfX s g) (eH s g num den)) G:=by rw [← hn];exact Xx (Me h hG)
 have hcr:=Zn h
 rw [hn] at hcr
 have hnK:(0:Int)<=n*K:=Int.mul_nonneg (by omega) (by omega)
 have e1:((n:Int)+1)*K=n*K+K:=by rw [Int.add_mul];omega
 rw [e1] at hV ⊢
 have hGn:(n:Int)*G<=K+1-G:=by rw [Int.add_mul] at hGK;omega
 rw [← hcr]
 constructor
 ·intro hall
  have hall':∀ i,i<n->V.getD i 0<=n*K:=fun i hi=>by
   rcases hV.gap i hi with h1 | h1
   ·exact h1
   ·have h2:=hall i hi
    have h1:4*(n*K+K)-n*K<=V.getD i 0:=h1
    omega
  have hV':ql n (arR (cfX s g) (eH s g num den)) (arE (cfX s g) (eH s g num den)) ((n+1:Nat):Int) (4*(n*K+K)) (n*K) (fun v=>V.getD v 0):=by
   rw [Int.natCast_add];exact hV
  exact hV'.all hE (by omega) (by rw [Int.natCast_add,Int.add_mul];omega) hG hall'
 ·rintro ⟨C,hC⟩ v hv
  have h1:((n:Int)+1)*(n*G)<=n*(K+1):=by
   rw [← Int.mul_assoc,Int.mul_comm _ (n:Int),Int.mul_assoc]
   exact Int.mul_le_mul_of_nonneg_left hGK (by omega)
  have h2:(n:Int)<=n*K:=by
   have:=Int.mul_le_mul_of_nonneg_left hK (show (0:Int)<=n by omega)
   omega
  rw [Int.mul_add] at h1
  have:=hV.small hE hG (by omega) (by omega) hC v hv
  have this:V.getD v 0<=n*K:=this
  omega
theorem rU {xs ys:List Int} (hl:xs.length=ys.length) (h:∀ v,v<ys.length->xs.getD v 0=ys.getD v 0):xs=ys :=
 List.ext_getElem hl fun v hv hv'=>by
  have:=h v hv'
  simpa [List.getD_eq_getElem?_getD,hv,hv'] using this
theorem wL (xs:List Int) (v u:Nat) (x:Int) (hv:v<xs.length):(xs.set v x).getD u 0=if u=v then x else xs.getD u 0:=by
 simp only [List.getD_eq_getElem?_getD,List.getElem?_set]
 by_cases e:v=u
 ·subst e;simp [hv]
 ·rw [if_neg e,if_neg fun e2=>e e2.symm]
theorem LH (xs:List Int) {v:Nat} {x:Int} (hv:v<xs.length) (h:xs.getD v 0=x):xs.set v x=xs:=by
 refine rU (by simp) fun u hu =>?_
 rw [wL xs v u x hv]
 split
 ·rename_i e;subst e;exact h.symm
 ·rfl
theorem set_set (xs:List Int) (v:Nat) (x y:Int):(xs.set v x).set v y=xs.set v y:=by simp
def moR (N:Int) (row:List (List Int)) (m:Int):Nat->Int
 | 0=>m
 | k+1=>max (moR N row m k) ((arW (row.getD k [])*N-1).natAbs:Int)
def moA (N:Int) (ar:List (List (List Int))):Nat->Int
 | 0=>1
 | i+1=>moR N (aG ar i) (moA N ar i) (aG ar i).length
theorem NT (N:Int) (row:List (List Int)) (m:Int):∀ k,m<=moR N row m k/\∀ j,j<k -> -moR N row m k<=arW (row.getD j [])*N-1/\arW (row.getD j [])*N-1<=moR N row m k
 | 0=>⟨Int.le_refl _,fun j hj=>by omega⟩
 | k+1=>by
  obtain ⟨h1,h2⟩:=NT N row m k
  unfold moR
  refine ⟨by omega,fun j hj =>?_⟩
  by_cases e:j=k
  ·subst e;omega
  ·have:=h2 j (by omega);omega
theorem Vz {N:Int} {row:List (List Int)} {m b:Int} (hm:m<=b):∀ k,(∀ j,j<k -> -b<=arW (row.getD j [])*N-1/\arW (row.getD j [])*N-1<=b)->moR N row m k<=b
 | 0,_=>hm
 | k+1,h=>by
  have h1:=Vz hm k fun j hj=>h j (by omega)
  have h2:=h k (by omega)
  unfold moR
  omega
theorem zO (N:Int) (ar:List (List (List Int))):∀ i,1<=moA N ar i/\∀ v,v<i->∀ k,k<(aG ar v).length -> -moA N ar i<=arW ((aG ar v).getD k [])*N-1/\arW ((aG ar v).getD k [])*N-1<=moA N ar i
 | 0=>⟨Int.le_refl _,fun v hv=>by omega⟩
 | i+1=>by
  obtain ⟨h1,h2⟩:=zO N ar i
  obtain ⟨h3,h4⟩:=NT N (aG ar i) (moA N ar i) (aG ar i).length
  unfold moA
  refine ⟨by omega,fun v hv k hk =>?_⟩
  by_cases e:v=i
  ·subst e;exact h4 k hk
  ·have:=h2 v (by omega) k hk;omega
theorem Vy {N:Int} {ar:List (List (List Int))} {b:Int} (hb:1<=b):∀ i,(∀ v,v<i->∀ k,k<(aG ar v).length -> -b<=arW ((aG ar v).getD k [])*N-1/\arW ((aG ar v).getD k [])*N-1<=b)->moA N ar i<=b
 | 0,_=>hb
 | i+1,h=>by
  have h1:=Vy hb i fun v hv=>h v (by omega)
  unfold moA
  exact Vz h1 _ fun j hj=>h i (by omega) j hj
theorem yO {G w N:Int} (hG:0<=G) (hw : -G<=w/\w<=G) (hN:0<=N) : -(G*N+1)<=w*N-1/\w*N-1<=G*N+1:=by
 have h1:=Int.mul_le_mul_of_nonneg_right hw.2 hN
 have h2:=Int.mul_le_mul_of_nonneg_right hw.1 hN
 rw [Int.neg_mul] at h2
 omega
theorem Oq {cfl:List Bool} {ar:List (List (List Int))} {G:Int} (h:qj cfl ar G):qj cfl (scl ar) (moA ((ar.length:Int)+1) ar ar.length):=by
 refine ⟨by simp [scl,h.len],fun v hv k hk =>?_,fun v hv hc k hk =>?_⟩
 ·rw [jL] at hk
  obtain ⟨t,w,e,h1,h2,h3⟩:=h.el v hv k hk
  have h4:=(zO ((ar.length:Int)+1) ar ar.length).2 v (by rw [h.len];exact hv) k hk
  rw [e] at h4
  refine ⟨t,w*((ar.length:Int)+1)-1,?_,h1,h4⟩
  rw [BK,iw hk [] [],e]
  rfl
 ·rw [jL] at hk
  rw [(Ez hk).1]
  exact h.bip v hv hc k hk
theorem Vx {cfl:List Bool} {ar:List (List (List Int))} {G:Int} (h:qj cfl ar G) (hG:0<=G):moA ((ar.length:Int)+1) ar ar.length<=G*((ar.length:Int)+1)+1 :=
 Vy (by have:=Int.mul_nonneg hG (show (0:Int)<=(ar.length:Int)+1 by omega);omega) ar.length fun v hv k hk=>by
  obtain ⟨t,w,e,h1,h2⟩:=h.el v (by rw [← h.len];exact hv) k hk
  rw [e]
  exact yO hG h2 (by omega)
theorem zo {cfl:List Bool} {ar:List (List (List Int))} {K great:Int} (hok:qj cfl ar K) (hK:0<=K) (hg:0<=great):ACh cfl ar (List.replicate cfl.length (-1))/\∃ k W,ArX cfl ar great k (List.replicate cfl.length (-1)) W:=by
 have hat:∀ v,v<cfl.length->(List.replicate cfl.length (-1:Int)).getD v 0 = -1:=fun v hv=>by simp [hv]
 have hc:ACh cfl ar (List.replicate cfl.length (-1)):=⟨by simp,fun v hv=>by rw [hat v hv];omega,fun v hv=>by rw [hat v hv];omega⟩
 obtain ⟨V,hV⟩:=Rk (great:=great) hok hc hat hK hg
 exact ⟨hc,Zo hok _ _ V (Nat.le_refl _) hc hV⟩
theorem ArX.val {cfl:List Bool} {ar:List (List (List Int))} {great:Int} {k:Nat} {ch W:List Int} (h:ArX cfl ar great k ch W):∃ V,ArV cfl ar great ch V/\((jm cfl ar V ch=ch/\V=W)\/(jm cfl ar V ch≠ch/\∃ j,k=j+1/\ArX cfl ar great j (jm cfl ar V ch) W)):=by
 cases h with
 | stop h1 h2=>exact ⟨W,h1,.inl ⟨h2,rfl⟩⟩
 | step h1 h2 h3=>exact ⟨_,h1,.inr ⟨h2,_,rfl,h3⟩⟩
theorem X6 {cfl:List Bool} {ar:List (List (List Int))} {great:Int} {ch V:List Int} (hc:ACh cfl ar ch) (h:ArV cfl ar great ch V) {v:Nat} (hv:v<cfl.length) (hcv:arC cfl v=true) (hlt:(jX V (aG ar v) (V.getD v 0) (ch.getD v 0) (aG ar v).length).1<V.getD v 0):(jm cfl ar V ch).getD v 0≠ch.getD v 0:=by
 rw [um hv,if_pos hcv]
 obtain ⟨_,_,_,h4⟩:=uo V (aG ar v) (V.getD v 0) (ch.getD v 0) (aG ar v).length
 obtain ⟨j,hj,e1,e2⟩:=h4 hlt
 rw [e1]
 intro e
 have h5:=h.old hv hcv (by rw [← e];omega)
 rw [← e,Int.toNat_natCast] at h5
 omega
theorem X5 {cfl:List Bool} {ar:List (List (List Int))} {ch V:List Int} {v:Nat} (hv:v<cfl.length) (hcv:arC cfl v=true) (h:¬ (jX V (aG ar v) (V.getD v 0) (ch.getD v 0) (aG ar v).length).1<V.getD v 0):(jm cfl ar V ch).getD v 0=ch.getD v 0:=by
 rw [um hv,if_pos hcv]
 obtain ⟨h1,h2,_,_⟩:=uo V (aG ar v) (V.getD v 0) (ch.getD v 0) (aG ar v).length
 exact h2 (by omega)
end Go.Proofs.YtnblieajjclipaaGreat
