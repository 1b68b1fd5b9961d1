/- Memoryless algorithms and the ratio of a game, in plain: an algorithm's potential gives a credit; the best algorithm has the least ratio; algorithms that functions tell are among all algorithms. Conditions: those that each names. -/
import Derived.Test.YtkcelmnbfbehbaaGreatGrA
import Derived.Test.YtkcelmnbfbehbaaGreatGrowR
import Derived.Test.YtkcelmnbfbehbaaGreatGBN
set_option linter.all false
namespace Go.Proofs.YtkcelmnbfbehbaaGreat
open Am
structure ExP (m s nx:List (List Int)) (x a b:Int):Prop where
 q:(prQ m s nx x).2=false
 na:0<=a
 nb:1<=b
 pot:∃ L,pX (egs (prQ m s nx x).1.rows) (wtR a b) L
theorem ZY {m s nx:List (List Int)} {x:Int} (h:(exB m s nx x).2=true):ExP m s nx x (exB m s nx x).1.1 (exB m s nx x).1.2:=by
 unfold exB at h ⊢
 cases hq:(prQ m s nx x).2
 ·rw [hq] at h
  have hF:=lJ hq
  simp only [cond_false] at h ⊢
  obtain ⟨h1,h2⟩:=vW (JG hF)
  cases ho:exO (egs (prQ m s nx x).1.rows) with
  | none=>rw [ho] at h;cases h
  | some p =>
   obtain ⟨a,b⟩:=p
   rw [ho] at h1
   have h3:=h2 a b ho
   exact ⟨hq,h3.na,h3.nb,h1.pot⟩
 ·rw [hq] at h;cases h
theorem SL {m s nx:List (List Int)} {x a b:Int} (hg:(gmQ m s x).2=false) (h:ExP m s nx x a b):uU s (gmQ m s x).1 a b:=by
 obtain ⟨k,rfl,hk,hx,h0⟩:=Zh hg
 obtain ⟨k',e,_,hp,ha,hw,hW⟩:=adE h.q
 obtain rfl:k=k':=by omega
 have hF:=lJ h.q
 have hna:=h.na
 have hnb:=h.nb
 obtain ⟨L0,hL0⟩:=h.pot
 generalize (gV m s k).1=t at hx hw hW
 generalize (gmQ m s (k:Int)).1=g at hx h0 ⊢
 generalize (prQ m s nx (k:Int)).1=q at hF hW hL0
 have hf:=hx.full
 let Mt:Nat->Nat->Prop:=fun j v=>dP g j=fM q v/\t.list.getD (iI g j) []=t.list.getD (jM q v) []
 obtain ⟨v0,hv0,-,hmn⟩:=yt L0 (fun _=>True) q.list.length ⟨0,hW.ok.pos,trivial⟩
 obtain ⟨L,hL⟩:∃ L:Nat->Int,L=fun v=>L0 v-L0 v0:=⟨_,rfl⟩
 let P:Nat->Prop:=fun j=>∃ v,v<q.list.length/\Mt j v
 obtain ⟨V,hV⟩:=Classical.axiomOfChoice (r:=fun j v=>P j->v<q.list.length/\Mt j v/\∀ v',v'<q.list.length->Mt j v'->L v<=L v') fun j=>by
  by_cases hj:P j
  ·obtain ⟨v,h1,h2,h3⟩:=yt L (Mt j) q.list.length hj
   exact ⟨v,fun _=>⟨h1,h2,h3⟩⟩
  ·exact ⟨0,fun hj'=>absurd hj' hj⟩
 refine mimic hx hna (by omega) P (fun j=>L (V j)) ⟨0,hf.pos,0,hW.ok.pos,?_,?_⟩ fun j hj hPj=>⟨?_,fun r hr =>?_⟩
 ·unfold dP fM;rw [h0,hW.fst]
 ·unfold iI jM;rw [h0,hW.fst]
 ·have:=hmn (V j) (hV j hPj).1 trivial
  rw [hL]
  show 0<=L0 (V j)-L0 v0
  omega
 ·obtain ⟨hv,⟨hm1,hm2⟩,-⟩:=hV j hPj
  obtain ⟨st,wi,g1,g2,g3⟩:=hx.at_ j hj
  have es:dP g j=st:=by unfold dP;rw [g1];rfl
  have eo:iI g j=wi:=by unfold iI;rw [g1];rfl
  obtain ⟨st',w',-,p2,p3,-,p5⟩:=Qc hW.ok hv
  rw [es,p2] at hm1
  subst hm1
  rw [eo,p3] at hm2
  have hal:=GY ha g2 hr
  obtain ⟨kk,q1,q2,q3⟩:=hW.x_.at_ _ _ hv hr
  rw [p2,p3] at q1 q3
  have hcl:=hf.clen
  have rowI:=hf.c.row j r (by omega) hr
  have hu:((stepS nx st r:Nat):Int)∈srv s m.length r:=Yl.2 ⟨_,rfl,hal.lt,hal.ok⟩
  rw [← rowI.st,List.mem_map] at hu
  obtain ⟨c',hc',hcu⟩:=hu
  obtain ⟨i',hi',rfl⟩:=List.getElem_of_mem hc'
  rw [← getD_in (d:=[]) hi'] at hcu
  obtain ⟨u',nx',to',i1,i2,i3,i4,i5⟩:=hx.choice hj hr hi' g1
  rw [i1] at hcu
  have hcu:(u':Int)=(stepS nx st r:Nat):=hcu
  have eu:u'=stepS nx st r:=by omega
  have toE:toC (((g.ch.getD j []).getD r []).getD i' [])=to':=by rw [i1];unfold toC;simp
  obtain ⟨k2,o1,o2,o3,o4⟩:=hw.x_.at_ w' r p5 hr
  have hMt:Mt to' kk:=by
   refine ⟨?_,?_⟩
   ·unfold dP fM
    rw [i3,q3]
    show (u':Int).toNat=(nxS nx st r).toNat
    unfold nxS
    rw [hal.eq,eu]
   ·have e1:iI g to'=nx':=by unfold iI;rw [i3];rfl
    have e2:jM q kk=k2:=by
     unfold jM
     rw [q3]
     show ((t.next.getD w' []).getD r 0).toNat=k2
     rw [o1];rfl
    rw [e1,e2,i5,o3,hm2]
  refine ⟨to',eX a b (((g.ch.getD j []).getD r []).getD i' []),⟨i',hi',toE.symm,rfl⟩,⟨kk,q2,hMt⟩,?_⟩
  obtain ⟨-,-,hmin⟩:=hV to' ⟨kk,q2,hMt⟩
  have hle:=hmin kk q2 hMt
  have he:(egs q.rows).getD (V j*s.length+r) []=_:=(CJ hF.row _ r (by rw [hF.rlen];exact hv) hr).trans q1
  have hin:V j*s.length+r<(egs q.rows).length:=by
   rw [(adl hF).len]
   exact Nat.lt_of_lt_of_le (by omega) (DK (K:=s.length) hv)
  have hpe:=hL0 ((egs q.rows).getD (V j*s.length+r) []) (by rw [getD_in hin];exact List.getElem_mem hin)
  rw [he] at hpe
  have E1:eX a b (((g.ch.getD j []).getD r []).getD i' [])=b*(at2 m st u'+at2 s r u')-a*iV m s (t.list.getD wi []) r:=by rw [i1];rfl
  have E2:jg m s st r (nxS nx st r)=at2 m st u'+at2 s r u':=by unfold jg nxS;rw [hal.eq,eu];rfl
  have E3:lu t w' r=iV m s (t.list.getD wi []) r:=by unfold lu;rw [o4,hm2]
  have E4:wtR a b [((V j:Nat):Int),(kk:Int),jg m s st r (nxS nx st r),lu t w' r]=b*(at2 m st u'+at2 s r u')-a*iV m s (t.list.getD wi []) r:=by unfold wtR;rw [← E2,← E3];rfl
  have E5:eto [((V j:Nat):Int),(kk:Int),jg m s st r (nxS nx st r),lu t w' r]=kk:=by unfold eto;simp
  have E6:efr [((V j:Nat):Int),(kk:Int),jg m s st r (nxS nx st r),lu t w' r]=V j:=by unfold efr;simp
  rw [E4,E5,E6] at hpe
  rw [E1]
  show _+L (V to')<=L (V j)
  rw [hL] at hle ⊢
  simp only at hle ⊢
  omega
theorem Hf {V:Nat->(Int×Int)×Bool} (hV:∀ i,(V i).2=true->rH (V i).1):∀ k i,i<k->(V i).2=true->∃ p,bT V k=some p/\p.2.1*(V i).1.2<=(V i).1.1*p.2.2
 | 0,i,hi,_=>by omega
 | k+1,i,hi,hvi=>by
  have hR:∀ p,bT V k=some p->rH p.2:=fun p e=>by
   obtain ⟨-,h2,h3⟩:=oH e
   rw [h3]
   exact hV _ h2
  unfold bT
  by_cases hb:y5 (V k) (bT V k)=true
  ·rw [if_pos hb]
   refine ⟨_,rfl,?_⟩
   by_cases e:i=k
   ·subst e;exact Int.le_refl _
   ·obtain ⟨p,h1,h2⟩:=Hf hV k i (by omega) hvi
    rw [h1] at hb
    have hb:((V k).2 && decide ((V k).1.1*p.2.2<p.2.1*(V k).1.2))=true:=hb
    rw [Bool.and_eq_true,decide_eq_true_eq] at hb
    have r1:=hR p h1
    have r2:=hV k hb.1
    have r3:=hV i hvi
    unfold rH at r1 r2 r3
    show (V k).1.1*(V i).1.2<=(V i).1.1*(V k).1.2
    have h3:=Int.mul_le_mul_of_nonneg_right (Int.le_of_lt hb.2) (show 0<=(V i).1.2 by omega)
    have h4:=Int.mul_le_mul_of_nonneg_right h2 (show 0<=(V k).1.2 by omega)
    refine Int.le_of_mul_le_mul_right (a:=p.2.2) ?_ (by omega)
    rw [Int.mul_right_comm,Int.mul_right_comm (V i).1.1]
    refine Int.le_trans h3 ?_
    rw [Int.mul_right_comm]
    exact h4
  ·rw [if_neg hb]
   by_cases e:i=k
   ·subst e
    cases ho:bT V i with
    | none =>
     rw [ho] at hb
     exact absurd hvi hb
    | some p =>
     rw [ho] at hb
     refine ⟨p,rfl,?_⟩
     refine Int.not_lt.1 fun hlt=>hb ?_
     show ((V i).2 && decide _)=true
     rw [hvi,decide_eq_true hlt]
     rfl
   ·exact Hf hV k i (by omega) hvi
theorem PW (o:Nat->List Int):∀ p (l:List Int),l.length=p->(∀ i,i<p->l.getD i 0∈o i)->l∈fQ o p
 | 0,l,h,_=>by
  rw [List.length_eq_zero_iff.1 h]
  simp [fQ]
 | p+1,l,h,k=>by
  have e:l=l.take p++[l.getD p 0]:=by rw [← eH (by omega) 0,List.take_of_length_le (by omega)]
  have ht:l.take p∈fQ o p:=PW o p _ (by rw [List.length_take];omega) fun i hi=>by
   have:=k i (by omega)
   rw [List.getD_eq_getElem?_getD,List.getElem?_take_of_lt hi,← List.getD_eq_getElem?_getD]
   exact this
  rw [e]
  show _∈(fQ o p).flatMap _
  rw [List.mem_flatMap]
  exact ⟨_,ht,List.mem_map.2 ⟨_,k p (by omega),rfl⟩⟩
theorem Xe {m s:List (List Int)} (hp:aO m s=true) {F:Nat->Nat->Int} (hF:∀ i r,i<m.length->r<s.length->F i r∈srv s m.length r):∃ j,j<eU m s/\jr m.length s.length F=dL m s j:=by
 have hl:=aQ hp
 have hK:0<s.length:=by omega
 let l:List Int:=(List.range (m.length*s.length)).map fun p=>F (p / s.length) (p % s.length)
 have hll:l.length=m.length*s.length:=by simp [l]
 have hat:∀ p,p<m.length*s.length->l.getD p 0=F (p / s.length) (p % s.length):=fun p hp=>by
  rw [getD_in (by omega)]
  simp [l]
 have hmem:l∈fQ (opP m s) (m.length*s.length):=PW _ _ l hll fun p hp=>by
  rw [hat p hp]
  exact hF _ _ (Nat.div_lt_of_lt_mul (by rw [Nat.mul_comm];exact hp)) (Nat.mod_lt _ hK)
 obtain ⟨j,hj,e⟩:=List.getElem_of_mem hmem
 refine ⟨j,by rw [jT] at hj;exact hj,?_⟩
 have el:rM m s j=l:=by unfold rM;rw [getD_in hj,e]
 unfold dL
 rw [el]
 unfold jr dB
 refine List.ext_getElem (by simp) fun i h1 h2 =>?_
 have hi:i<m.length:=by simpa using h1
 have hm:=DK (K:=s.length) hi
 simp only [List.getElem_map,List.getElem_range]
 refine List.ext_getElem (by simp;omega) fun r h3 h4 =>?_
 have hr:r<s.length:=by simpa using h3
 simp only [List.getElem_map,List.getElem_range,List.getElem_take,List.getElem_drop]
 rw [← getD_in (d:=0) (by rw [hll];omega),hat _ (by omega),Nat.mul_comm,Nat.mul_add_div hK,Nat.div_eq_of_lt hr,Nat.add_zero,Nat.mul_add_mod,Nat.mod_eq_of_lt hr]
end Go.Proofs.YtkcelmnbfbehbaaGreat
