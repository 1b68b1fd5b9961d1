/- Credits and the strategies that they allow, in plain: what a run of such a strategy costs, that the least credit is least, and what a schedule costs. Conditions: those that each names. -/
import Derived.Test.YtkcelmnbfbehbaaGreatZArF
import Derived.Test.YtkcelmnbfbehbaaGreatZStratP
import Derived.Test.YtkcelmnbfbehbaaGreatZGrA
import Derived.Test.YtkcelmnbfbehbaaGreatAlgP
set_option linter.all false
namespace Go.Proofs.YtkcelmnbfbehbaaGreat
open Am
theorem zJ {m s:List (List Int)} {g:GmT} (hg:bf m s g) {num den:Int} {tab:List Int}:gU g num den tab=true↔(tab.length=g.list.length/\∀ i,i<g.list.length->0<=tab.getD i 0/\tab.getD i 0<=1000000000000000)/\CrP g.list.length (rqR s) (gmE g num den) (fun i=>tab.getD i 0):=by
 have hcl:=hg.clen
 have ht:vg g tab=true↔tab.length=g.list.length/\∀ i,i<g.list.length->0<=tab.getD i 0/\tab.getD i 0<=1000000000000000:=by
  unfold vg
  rw [Bool.and_eq_true,beq_iff_eq,pU]
  refine ⟨fun ⟨h1,h2⟩=>⟨h1,fun i hi =>?_⟩,fun ⟨h1,h2⟩=>⟨h1,fun y hy =>?_⟩⟩
  ·have:=h2 (tab.getD i 0) (by rw [getD_in (by omega)];exact List.getElem_mem _)
   exact this
  ·obtain ⟨i,hi,rfl⟩:=List.getElem_of_mem hy
   have:=h2 i (by omega)
   rw [getD_in hi] at this
   exact this
 rw [iQ,ht]
 refine and_congr_right fun ⟨h1,h2⟩=>⟨fun h=>⟨fun i hi=>(h2 i hi).1,fun i r hi hr =>?_⟩,fun h i hi r hr =>?_⟩
 ·have hl:=hg.c.len i (by omega)
  have h3:=h i (by omega) r (by unfold rqR at hr;omega)
  rw [List.any_eq_true] at h3
  obtain ⟨c,hc,h4⟩:=h3
  obtain ⟨k,hk,rfl⟩:=List.getElem_of_mem hc
  rw [← getD_in (d:=[]) hk] at h4
  exact ⟨_,_,⟨k,hk,rfl,rfl⟩,of_decide_eq_true h4⟩
 ·have hl:=hg.c.len i hi
  obtain ⟨t,w,⟨k,hk,rfl,rfl⟩,h3⟩:=h.ok i r (by omega) (by unfold rqR;omega)
  rw [List.any_eq_true]
  exact ⟨_,by rw [getD_in hk];exact List.getElem_mem hk,decide_eq_true h3⟩
section
variable {m s:List (List Int)} {x:Int} {a:Int×Int} {tab:List Int}
theorem Cb (h:fcB m s x a=true):okB m s x a=true/\jC m s x a (fcW m s x a)=true:=by
 obtain ⟨h1,h2⟩:=zL h
 have hn:=h1.n
 have hd:=h1.d
 have hB:=jX h1.full (num:=a.1) (den:=a.2) (by omega) (by omega)
 have hL:=Gm h
 have hok:okB m s x a=true:=by unfold okB;rw [h1.q,h1.r];rfl
 refine ⟨hok,?_⟩
 unfold jC
 rw [hok,(zJ h1.full).2 ⟨⟨hL.len,fun i hi =>?_⟩,hL.lc.1⟩]
 ·rfl
 ·have:=Eh hB (by decide) hL hi
  omega
theorem MX (h:jC m s x a tab=true):(tab.length=(gmQ m s x).1.list.length/\∀ i,i<(gmQ m s x).1.list.length->0<=tab.getD i 0/\tab.getD i 0<=1000000000000000)/\CrP (gmQ m s x).1.list.length (rqR s) (gmE (gmQ m s x).1 a.1 a.2) (fun i=>tab.getD i 0):=by
 obtain ⟨h1,_,h3⟩:=uD h
 exact (zJ (dS h1)).1 h3
theorem UN (h:jC m s x a tab=true) (hf:fcB m s x a=true):(fcW m s x a).length=tab.length/\∀ i,i<tab.length->(fcW m s x a).getD i 0<=tab.getD i 0:=by
 obtain ⟨⟨h1,_⟩,h2⟩:=MX h
 have hL:=Gm hf
 exact ⟨hL.len.trans h1.symm,fun i hi=>hL.lc.2 _ h2 i (by omega)⟩
theorem acW (h:jC m s x a tab=true) (h1:a.1<=1000) (h2:a.2<=100):fcB m s x a=true:=by
 obtain ⟨k1,k2,_⟩:=uD h
 rw [(PV k1 k2 (by omega) (by omega)).eq,BX]
 exact ⟨_,(MX h).2⟩
end
theorem Us {g:GmT} {a:Int×Int} {tab:List Int} {i:Nat} (h:i<g.ch.length):(csM g a tab).getD i []=lS a tab i (g.ch.getD i []):=by
 unfold csM
 rw [getD_in (by rw [List.length_map,List.length_range];exact h)]
 simp only [List.getElem_map,List.getElem_range]
structure aeJ (m s:List (List Int)) (g:GmT) (a:Int×Int) (tab:List Int) (i r k:Nat):Prop where
 lt:k<((g.ch.getD i []).getD r []).length
 eq:((csM g a tab).getD i []).getD r 0=(((g.ch.getD i []).getD r []).getD k []).getD 5 0
 al:cO a.1 a.2 (((g.ch.getD i []).getD r []).getD k [])+tab.getD (toC (((g.ch.getD i []).getD r []).getD k [])) 0<=tab.getD i 0
theorem YX {m s:List (List Int)} {g:GmT} (hg:bf m s g) {a:Int×Int} {tab:List Int} (h:gU g a.1 a.2 tab=true) {i r:Nat} (hi:i<g.list.length) (hr:r<s.length):∃ k,aeJ m s g a tab i r k:=by
 have hcl:=hg.clen
 have hl:=hg.c.len i (by omega)
 have h1:=(iQ.1 h).2 i (by omega) r (by omega)
 obtain ⟨k,e,hk,h2⟩:=JH h1
 have h3:dP a.1 a.2 tab i (((g.ch.getD i []).getD r []).getD k [])=true:=by
  have h4:0<=idxOf (dP a.1 a.2 tab i) ((g.ch.getD i []).getD r []):=by omega
  obtain ⟨k',hk',e',h5⟩:=nG h4
  obtain rfl:k'=k:=by omega
  rw [getD_in hk]
  exact h5
 refine ⟨k,hk,?_,of_decide_eq_true h3⟩
 rw [← h2,Us (by omega)]
 unfold lS
 rw [getD_in (by rw [List.length_map];omega),List.getElem_map,getD_in (d:=([]:List (List Int))) (by omega)]
theorem DF {m s:List (List Int)} {g:GmT} (hg:bf m s g) {a:Int×Int} {tab:List Int} (h:gU g a.1 a.2 tab=true):dU m s g (csM g a tab)=true:=by
  have hcl:=hg.clen
  unfold dU
  rw [Bool.and_eq_true,beq_iff_eq,List.all_eq_true]
  refine ⟨by simp [csM];exact hcl,fun row hrow =>?_⟩
  obtain ⟨i,hi,rfl⟩:=List.getElem_of_mem hrow
  have hi' : i < g.list.length := by have : i < g.ch.length := by simpa [csM] using hi
                                     omega
  have hl:=hg.c.len i (by omega)
  have hrl:(csM g a tab)[i].length=s.length:=by
    rw [← getD_in (d:=[]) hi,Us (by omega)]
    unfold lS
    rw [List.length_map]
    exact hl
  refine AA hrl fun r hr =>?_
  have hr':r<s.length:=by omega
  obtain ⟨k,hk⟩:=YX hg h hi' hr'
  have hrow:=hg.c.row i r (by omega) hr'
  rw [Md,← hrow.st,List.mem_map]
  have e:(csM g a tab)[i][r]=((csM g a tab).getD i []).getD r 0:=by rw [getD_in hi,getD_in hr]
  rw [e,hk.eq]
  exact ⟨_,by rw [getD_in hk.lt];exact List.getElem_mem hk.lt,rfl⟩
theorem Zy {m s:List (List Int)} {g:GmT} (hg:bf m s g) {a:Int×Int} {tab:List Int} (h:gU g a.1 a.2 tab=true) {i r:Nat} (hi:i<g.list.length) (hr:r<s.length):∃ k,k<((g.ch.getD i []).getD r []).length/\gW g (csM g a tab) i r=((g.ch.getD i []).getD r []).getD k []/\cO a.1 a.2 (gW g (csM g a tab) i r)+tab.getD (toC (gW g (csM g a tab) i r)) 0<=tab.getD i 0:=by
 have hcl:=hg.clen
 obtain ⟨k,hk⟩:=YX hg h hi hr
 obtain ⟨k',hs⟩:=Az hg (DF hg h) hi hr
 have hrow:=hg.c.row i r (by omega) hr
 have hix:=hs.at_
 rw [hk.eq] at hix
 have h0:0<=BJ (mZ g i r) ((((g.ch.getD i []).getD r []).getD k []).getD 5 0):=by omega
 obtain ⟨j,hj,e1,e2⟩:=nG h0
 have e1:BJ (mZ g i r) ((((g.ch.getD i []).getD r []).getD k []).getD 5 0)=j:=e1
 obtain rfl:j=k':=by omega
 have e2:=of_decide_eq_true e2
 have hst:=hrow.st
 have hj':j<((g.ch.getD i []).getD r []).length:=hj
 have hjk:j=k:=by
  have f1:(srv s m.length r)[j]'(by rw [← hst];simpa using hj')=(((g.ch.getD i []).getD r []).getD k []).getD 5 0:=by
   rw [← e2]
   simp only [← hst,List.getElem_map]
   rfl
  have f2:(srv s m.length r)[k]'(by rw [← hst];simpa using hk.lt)=(((g.ch.getD i []).getD r []).getD k []).getD 5 0:=by
   simp only [← hst,List.getElem_map]
   rw [getD_in hk.lt]
  have hp:=List.pairwise_iff_getElem.1 (acB s m.length r)
  rcases Nat.lt_trichotomy j k with h1 | h1 | h1
  ·have:=hp j k (by rw [← hst];simpa using hj') (by rw [← hst];simpa using hk.lt) h1
   omega
  ·exact h1
  ·have:=hp k j (by rw [← hst];simpa using hk.lt) (by rw [← hst];simpa using hj') h1
   omega
 subst hjk
 have e3:gW g (csM g a tab) i r=((g.ch.getD i []).getD r []).getD j []:=hs.eq
 exact ⟨j,hk.lt,e3,by rw [e3];exact hk.al⟩
theorem Ut {m s:List (List Int)} {t:dF} {g:GmT} (hx:GmX m s t g) {x:Nat} (h0:g.list.getD 0 []=[(x:Int),0]) (hw:acN m s x t) {a:Int×Int} {tab:List Int} (h:gU g a.1 a.2 tab=true) {rs:List Int} (hq:jJ s.length rs):∀ k,k<=rs.length ->
  rAt g (csM g a tab) 0 (rs.take k)<g.list.length/\nO t (rs.take k)<t.list.length/\t.list.getD (iF g (rAt g (csM g a tab) 0 (rs.take k))) []=t.list.getD (nO t (rs.take k)) []/\a.2*oq g (csM g a tab) 0 (rs.take k)+tab.getD (rAt g (csM g a tab) 0 (rs.take k)) 0<=a.1*growS t 0 (rs.take k)+tab.getD 0 0
 | 0,_=>by
  have hf:=hx.full
  refine ⟨hf.pos,hw.pos,?_,?_⟩
  ·show t.list.getD (iF g 0) []=t.list.getD 0 []
   unfold iF
   rw [h0]
   rfl
  ·show a.2*0+tab.getD 0 0<=a.1*0+tab.getD 0 0
   simp
 | k+1,hk=>by
  have hf:=hx.full
  have hk':k<rs.length:=by omega
  obtain ⟨h1,h2,h3,h4⟩:=Ut hx h0 hw h hq k (by omega)
  obtain ⟨r,hr1,hr2⟩:=hq.at hk'
  rw [EO hk',Aj hk',hr1,Int.toNat_natCast]
  have ho:nO t (rs.take (k+1))=((t.next.getD (nO t (rs.take k)) []).getD r 0).toNat:=by
   unfold nO
   rw [bD hk' 0,List.foldl_append,hr1]
   rfl
  have hgs:growS t 0 (rs.take (k+1))=growS t 0 (rs.take k)+(t.grows.getD (nO t (rs.take k)) []).getD r 0:=by
   rw [bD hk' 0,wH,hr1]
   rfl
  generalize rAt g (csM g a tab) 0 (rs.take k)=i at *
  generalize nO t (rs.take k)=w at *
  rw [ho,hgs]
  obtain ⟨j,hj,e1,e2⟩:=Zy hf h h1 hr2
  obtain ⟨st,wi,b1,b2,b3⟩:=hx.at_ i h1
  obtain ⟨u,nx,to,c1,c2,c3,c4,c5⟩:=hx.choice h1 hr2 hj b1
  obtain ⟨k2,o1,o2,o3,o4⟩:=hw.x_.at_ w r h2 hr2
  have eo:iF g i=wi:=by unfold iF;rw [b1];rfl
  rw [eo] at h3
  rw [← e1] at c1
  have est:nY g (csM g a tab) i r=to:=by
   unfold nY
   rw [Int.toNat_natCast,c1]
   simp
  have et:toC (gW g (csM g a tab) i r)=to:=by unfold toC;rw [c1];simp
  have eg:cO a.1 a.2 (gW g (csM g a tab) i r)=a.2*(gW g (csM g a tab) i r).getD 2 0-a.1*iR m s (t.list.getD wi []) r:=by
   unfold cO
   rw [c1]
   rfl
  rw [est]
  rw [et,eg] at e2
  rw [o1,Int.toNat_natCast]
  refine ⟨c2,o2,?_,?_⟩
  ·rw [o3,← h3,← c5]
   unfold iF
   rw [c3]
   rfl
  ·rw [o4,← h3,Int.mul_add,Int.mul_add]
   omega
def su (m s:List (List Int)):Nat->List Int->List Int->Int
 | st,r::rs,u::us=>at2 m st u.toNat+at2 s r.toNat u.toNat+su m s u.toNat rs us
 | _,_,_=>0
theorem QL {m s:List (List Int)} {t:dF} {g:GmT} (hx:GmX m s t g) {q:List (List Int)} (hq:dU m s g q=true):∀ (rs:List Int) (i:Nat),i<g.list.length->jJ s.length rs->su m s (dH g i) rs (qZ g q i rs)=oq g q i rs/\∀ j,j<rs.length->∃ u:Nat,(qZ g q i rs).getD j 0=u/\u<m.length/\0<=at2 s (rs.getD j 0).toNat u
 | [],i,hi,_=>⟨rfl,fun j hj=>by simp at hj⟩
 | r::rs,i,hi,hr=>by
  have hf:=hx.full
  have h1:=hr r (by simp)
  have hr':r.toNat<s.length:=by omega
  have hcl:=hf.clen
  obtain ⟨k,hs⟩:=Az hf hq hi hr'
  obtain ⟨st,wi,b1,b2,b3⟩:=hx.at_ i hi
  have hkl:k<((g.ch.getD i []).getD r.toNat []).length:=hs.lt
  obtain ⟨u,nx,to,c1,c2,c3,c4,c5⟩:=hx.choice hi hr' hkl b1
  have e1:gW g q i r.toNat=((g.ch.getD i []).getD r.toNat []).getD k []:=hs.eq
  rw [← e1] at c1
  have es:dH g i=st:=by unfold dH;rw [b1];rfl
  have est:nY g q i r=to:=by
   unfold nY
   rw [c1]
   simp
  have e5:(gW g q i r.toNat).getD 5 0=(u:Int):=by rw [c1];rfl
  have e2:(gW g q i r.toNat).getD 2 0=at2 m st u+at2 s r.toNat u:=by rw [c1];rfl
  have eu:dH g to=u:=by unfold dH;rw [c3];rfl
  obtain ⟨i1,i2⟩:=QL hx hq rs to c2 fun v hv=>hr v (by simp [hv])
  have hu0:0<=at2 s r.toNat u:=by
   have hrow:=hf.c.row i r.toNat (by omega) hr'
   have hmem:(u:Int)∈srv s m.length r.toNat:=by
    rw [← hrow.st,List.mem_map]
    exact ⟨gW g q i r.toNat,by rw [e1,getD_in hkl];exact List.getElem_mem hkl,e5⟩
   obtain ⟨y,h3,h4,h5⟩:=Qn.1 hmem
   obtain rfl:u=y:=by omega
   exact h5
  refine ⟨?_,fun j hj =>?_⟩
  ·show su m s (dH g i) (r::rs) ((gW g q i r.toNat).getD 5 0::qZ g q (nY g q i r) rs)=(gW g q i r.toNat).getD 2 0+oq g q (nY g q i r) rs
   rw [est,e5,e2,← i1,es,eu]
   show at2 m st (u:Int).toNat+at2 s r.toNat (u:Int).toNat+su m s (u:Int).toNat rs (qZ g q to rs)=_
   rw [Int.toNat_natCast]
  ·cases j with
   | zero=>exact ⟨u,e5,c4,hu0⟩
   | succ j =>
    show ∃ u:Nat,(qZ g q (nY g q i r) rs).getD j 0=u/\_
    rw [est]
    exact i2 j (by simp only [List.length_cons] at hj;omega)
end Go.Proofs.YtkcelmnbfbehbaaGreat
