/- All algorithms of a problem, in order: the plain laws. Conditions: a problem that is right. -/
import Derived.Test.YtkcelmnbfbehbaaGreatGWO
set_option linter.all false
namespace Go.Proofs.YtkcelmnbfbehbaaGreat
def fQ (o:Nat->List Int):Nat->List (List Int)
 | 0=>[[]]
 | p+1=>(fQ o p).flatMap fun l=>(o p).map fun t=>l++[t]
theorem CV {α:Type} {f:List Int->List α} {c:Nat}:∀ {L:List (List Int)},(∀ l∈L,(f l).length=c)->(L.flatMap f).length=L.length*c
 | [],_=>by simp
 | l::L,h=>by
  have h1:=h l (by simp)
  have h2:=CV (L:=L) fun x hx=>h x (by simp [hx])
  simp only [List.flatMap_cons,List.length_append,List.length_cons,Nat.succ_mul]
  omega
theorem flat_get {α:Type} {f:List Int->List α} {c:Nat} {d:α}:∀ {L:List (List Int)} {i r:Nat},(∀ l∈L,(f l).length=c)->i<L.length->r<c->(L.flatMap f).getD (i*c+r) d=(f (L.getD i [])).getD r d
 | [],i,r,_,hi,_=>by simp at hi
 | l::L,0,r,h,_,hr=>by
  have h1:=h l (by simp)
  simp only [List.flatMap_cons,Nat.zero_mul,Nat.zero_add,List.getD_cons_zero]
  rw [List.getD_eq_getElem?_getD,List.getElem?_append_left (by omega),← List.getD_eq_getElem?_getD]
 | l::L,i+1,r,h,hi,hr=>by
  have h1:=h l (by simp)
  have ih:=flat_get (L:=L) (i:=i) (r:=r) (d:=d) (fun x hx=>h x (by simp [hx])) (by simpa using hi) hr
  simp only [List.flatMap_cons,List.getD_cons_succ]
  rw [← ih,List.getD_eq_getElem?_getD,List.getElem?_append_right (by rw [h1,Nat.succ_mul];omega),h1,← List.getD_eq_getElem?_getD]
  congr 1
  rw [Nat.succ_mul]
  omega
def gJ (o:Nat->List Int):Nat->Nat
 | 0=>1
 | p+1=>gJ o p*(o p).length
theorem jT (o:Nat->List Int):∀ p,(fQ o p).length=gJ o p
 | 0=>rfl
 | p+1=>by
  rw [fQ,CV (c:=(o p).length) fun l _=>by simp,jT o p]
  rfl
theorem yg (o:Nat->List Int):∀ p,∀ l∈fQ o p,l.length=p
 | 0,l,hl=>by simp [fQ] at hl;simp [hl]
 | p+1,l,hl=>by
  simp only [fQ,List.mem_flatMap,List.mem_map] at hl
  obtain ⟨l',h1,t,h2,rfl⟩:=hl
  simp [yg o p l' h1]
theorem KO (o:Nat->List Int):∀ p,∀ l∈fQ o p,∀ i,i<p->l.getD i 0∈o i
 | 0,l,hl,i,hi=>by omega
 | p+1,l,hl,i,hi=>by
  simp only [fQ,List.mem_flatMap,List.mem_map] at hl
  obtain ⟨l',h1,t,h2,rfl⟩:=hl
  have h3:=yg o p l' h1
  by_cases e:i=p
  ·subst e
   rw [List.getD_eq_getElem?_getD,List.getElem?_append_right (by omega),h3]
   simpa using h2
  ·rw [List.getD_eq_getElem?_getD,List.getElem?_append_left (by omega),← List.getD_eq_getElem?_getD]
   exact KO o p l' h1 i (by omega)
theorem AP {o:Nat->List Int} (h:∀ p,0<(o p).length) (p:Nat):∀ q,gJ o p<=gJ o (p+q)
 | 0=>Nat.le_refl _
 | q+1=>by
  have h1:=AP h p q
  have h2:=h (p+q)
  have h3:gJ o (p+q)*1<=gJ o (p+q)*(o (p+q)).length:=Nat.mul_le_mul_left _ h2
  show gJ o p<=gJ o (p+q)*(o (p+q)).length
  omega
theorem Ba {o:Nat->List Int} {p j:Nat} (hj:j<gJ o (p+1)):(fQ o (p+1)).getD j []=(fQ o p).getD (j / (o p).length) []++[(o p).getD (j % (o p).length) 0]:=by
 have hc:0<(o p).length:=by
  rcases Nat.eq_zero_or_pos (o p).length with h | h
  ·simp only [gJ,h,Nat.mul_zero] at hj;omega
  ·exact h
 have h1:j / (o p).length<(fQ o p).length:=by
  rw [jT]
  exact Nat.div_lt_of_lt_mul (by rw [Nat.mul_comm];exact hj)
 have h2:=Nat.mod_lt j hc
 have h3:=flat_get (f:=fun l=>(o p).map fun t=>l++[t]) (c:=(o p).length) (d:=[]) (L:=fQ o p) (i:=j / (o p).length) (r:=j % (o p).length) (fun l _=>by simp) h1 h2
 rw [show j / (o p).length*(o p).length+j % (o p).length=j by rw [Nat.mul_comm];exact Nat.div_add_mod _ _] at h3
 rw [fQ,h3,getD_in (by simpa using h2),List.getElem_map,getD_in h2]
def zH (o:Nat->List Int) (w:Nat->Int->Nat):Nat->List Int->Option (List Int)
 | 0,_=>none
 | p+1,l=>if w p (l.getD p 0)+1<(o p).length then some (l.set p ((o p).getD (w p (l.getD p 0)+1) 0)) else zH o w p (l.set p ((o p).getD 0 0))
theorem Xu {a z:List Int} {x:Int} {p:Nat} (h:a.length=p):(a++x::z).getD p 0=x:=by
 subst h
 rw [List.getD_eq_getElem?_getD,List.getElem?_append_right (Nat.le_refl _)]
 simp
theorem OL {a z:List Int} {x y:Int} {p:Nat} (h:a.length=p):(a++x::z).set p y=a++y::z:=by
 subst h
 rw [List.set_append_right _ _ (Nat.le_refl _)]
 simp
theorem VR {o:Nat->List Int} {w:Nat->Int->Nat} (hw:∀ p i,i<(o p).length->w p ((o p).getD i 0)=i):∀ (p j:Nat) (z:List Int),j<gJ o p ->
  zH o w p ((fQ o p).getD j []++z)=if j+1<gJ o p then some ((fQ o p).getD (j+1) []++z) else none
 | 0,j,z,hj=>by
  have:j=0:=by simp only [gJ] at hj;omega
  subst this
  simp [zH,gJ]
 | p+1,j,z,hj=>by
  have hc:0<(o p).length:=by
   rcases Nat.eq_zero_or_pos (o p).length with h | h
   ·simp only [gJ,h,Nat.mul_zero] at hj;omega
   ·exact h
  have h1:j / (o p).length<gJ o p:=Nat.div_lt_of_lt_mul (by rw [Nat.mul_comm];exact hj)
  have h2:=Nat.mod_lt j hc
  have hdm:j / (o p).length*(o p).length+j % (o p).length=j:=by rw [Nat.mul_comm];exact Nat.div_add_mod _ _
  have hla:((fQ o p).getD (j / (o p).length) []).length=p:=yg o p _ (by rw [getD_in (by rw [jT];exact h1)];exact List.getElem_mem _)
  rw [Ba hj,List.append_assoc,List.singleton_append]
  simp only [zH]
  rw [Xu hla,hw p _ h2]
  by_cases hl:j % (o p).length+1<(o p).length
  ·have e1:(j+1) / (o p).length=j / (o p).length:=by
    rw [show j+1=(j % (o p).length+1)+(o p).length*(j / (o p).length) by rw [Nat.mul_comm];omega,Nat.add_mul_div_left _ _ hc,Nat.div_eq_of_lt hl]
    omega
   have e2:(j+1) % (o p).length=j % (o p).length+1:=by
    rw [show j+1=(j % (o p).length+1)+(o p).length*(j / (o p).length) by rw [Nat.mul_comm];omega,Nat.add_mul_mod_self_left,Nat.mod_eq_of_lt hl]
   have hj1:j+1<gJ o (p+1):=by
    have h3:(j / (o p).length+1)*(o p).length<=gJ o p*(o p).length:=Nat.mul_le_mul_right _ h1
    rw [Nat.add_mul,Nat.one_mul] at h3
    show _<gJ o p*_
    omega
   rw [if_pos hl,if_pos hj1,Ba hj1,e1,e2,OL hla,List.append_assoc,List.singleton_append]
  ·have e0:j % (o p).length+1=(o p).length:=by omega
   have e3:j+1=(j / (o p).length+1)*(o p).length:=by rw [Nat.add_mul,Nat.one_mul];omega
   have e1:(j+1) / (o p).length=j / (o p).length+1:=by rw [e3,Nat.mul_div_cancel _ hc]
   have e2:(j+1) % (o p).length=0:=by rw [e3,Nat.mul_mod_left]
   rw [if_neg hl,OL hla,VR hw p _ _ h1]
   by_cases hj1:j+1<gJ o (p+1)
   ·have h4:j / (o p).length+1<gJ o p:=by
     have h5:(j / (o p).length+1)*(o p).length<gJ o p*(o p).length:=by rw [← e3];exact hj1
     exact Nat.lt_of_mul_lt_mul_right h5
    rw [if_pos h4,if_pos hj1,Ba hj1,e1,e2,List.append_assoc,List.singleton_append]
   ·have h4:¬ j / (o p).length+1<gJ o p:=fun h5=>hj1 (by
     have h6:(j / (o p).length+1)*(o p).length<gJ o p*(o p).length:=Nat.mul_lt_mul_of_pos_right h5 hc
     rw [← e3] at h6
     exact h6)
    rw [if_neg h4,if_neg hj1]
def dB (K n:Nat) (l:List Int):List (List Int):=(List.range n).map fun i=>(l.drop (i*K)).take K
theorem fA (K n:Nat) (l:List Int):(dB K n l).length=n:=by simp [dB]
theorem uQ {K n:Nat} {l:List Int} {i:Nat} (hi:i<n):(dB K n l).getD i []=(l.drop (i*K)).take K:=by
 rw [getD_in (by simpa [dB] using hi)]
 simp [dB]
theorem DK {K n i:Nat} (hi:i<n):i*K+K<=n*K:=by
 have h1:=Nat.mul_le_mul_right K (show i+1<=n by omega)
 rw [Nat.succ_mul] at h1
 exact h1
theorem og {K n:Nat} {l:List Int} (hl:l.length=n*K) {i:Nat} (hi:i<n):((dB K n l).getD i []).length=K:=by
 have h1:=DK (K:=K) hi
 rw [uQ hi,List.length_take,List.length_drop]
 omega
theorem Eb {K n:Nat} {l:List Int} {i r:Nat} (hi:i<n) (hr:r<K):((dB K n l).getD i []).getD r 0=l.getD (i*K+r) 0:=by
 rw [uQ hi,List.getD_eq_getElem?_getD,List.getElem?_take,if_pos hr,List.getElem?_drop,← List.getD_eq_getElem?_getD]
theorem Gu {K n:Nat} {l:List Int} (hl:l.length=n*K) {i r:Nat} (hi:i<n) (hr:r<K) (x:Int):(dB K n l).set i (((dB K n l).getD i []).set r x)=dB K n (l.set (i*K+r) x):=by
 have h0:=DK (K:=K) hi
 refine List.ext_getElem (by simp [dB]) fun j h1 h2 =>?_
 have hj:j<n:=by simpa [dB] using h2
 have h3:=DK (K:=K) hj
 rw [List.getElem_set]
 have e1:(dB K n (l.set (i*K+r) x))[j]=((l.set (i*K+r) x).drop (j*K)).take K:=by simp [dB]
 have e2:(dB K n l)[j]'(by simpa [dB] using hj)=(l.drop (j*K)).take K:=by simp [dB]
 rw [e1]
 by_cases e:i=j
 ·subst e
  rw [if_pos rfl,uQ hi]
  refine List.ext_getElem? fun k =>?_
  rw [List.getElem?_set,List.getElem?_take,List.getElem?_take,List.getElem?_drop,List.getElem?_drop,List.getElem?_set]
  simp only [List.length_take,List.length_drop]
  by_cases hk:r=k
  ·subst hk
   rw [if_pos rfl,if_pos hr,if_pos rfl,if_pos (by omega),if_pos (by omega)]
  ·rw [if_neg hk]
   by_cases hkK:k<K
   ·rw [if_pos hkK,if_pos hkK,if_neg (by omega)]
   ·rw [if_neg hkK,if_neg hkK]
 ·rw [if_neg e,e2]
  refine List.ext_getElem? fun k =>?_
  rw [List.getElem?_take,List.getElem?_take,List.getElem?_drop,List.getElem?_drop,List.getElem?_set]
  by_cases hk:k<K
  ·rw [if_pos hk,if_pos hk,if_neg]
   intro h4
   rcases Nat.lt_or_gt_of_ne e with h5 | h5
   ·have h6:=DK (K:=K) h5
    omega
   ·have h6:=DK (K:=K) h5
    omega
  ·rw [if_neg hk,if_neg hk]
theorem F8 {o:Nat->List Int} (h:∀ p,0<(o p).length):∀ p,(fQ o p).getD 0 []=(List.range p).map fun i=>(o i).getD 0 0
 | 0=>rfl
 | p+1=>by
  have h1:∀ q,0<gJ o q:=fun q=>by have:=AP h 0 q;simp only [Nat.zero_add] at this;exact this
  rw [Ba (h1 _),Nat.zero_div,Nat.zero_mod,F8 h p,List.range_succ,List.map_append]
  rfl
theorem TQ {o:Nat->List Int} (h:∀ p,0<(o p).length) (p:Nat):0<gJ o p:=by
 have:=AP h 0 p
 simp only [Nat.zero_add] at this
 exact this
def nY (c:Nat->Nat):Nat->Nat
 | 0=>1
 | k+1=>nY c k*c k
theorem Jz {o:Nat->List Int} {c:Nat->Nat} {K:Nat} (h:∀ i r,r<K->(o (i*K+r)).length=c r) (i:Nat):∀ r,r<=K->gJ o (i*K+r)=gJ o (i*K)*nY c r
 | 0,_=>by simp [nY]
 | r+1,hr=>by
  have ih:=Jz h i r (by omega)
  show gJ o (i*K+r)*(o (i*K+r)).length=_
  rw [ih,h i r (by omega),nY,Nat.mul_assoc]
theorem OX {o:Nat->List Int} {c:Nat->Nat} {K:Nat} (h:∀ i r,r<K->(o (i*K+r)).length=c r):∀ i,gJ o (i*K)=nY c K ^ i
 | 0=>by simp [gJ]
 | i+1=>by
  rw [Nat.succ_mul,Jz h i K (Nat.le_refl _),OX h i,Nat.pow_succ]
theorem Gt (c:Nat->Nat) (n:Nat):∀ k,nY (fun r=>c r ^ n) k=nY c k ^ n
 | 0=>by simp [nY]
 | k+1=>by rw [nY,Gt c n k,nY,Nat.mul_pow]
def opP (m s:List (List Int)) (p:Nat):List Int:=srv s m.length (p % s.length)
def whP (m s:List (List Int)) (p:Nat) (x:Int):Nat:=(idxOf (fun y=>decide (x=y)) (opP m s p)).toNat
theorem acZ (s:List (List Int)) (n r:Nat):(srv s n r).Pairwise (·<·):=by
 unfold srv
 rw [List.pairwise_map]
 exact (List.pairwise_lt_range.filter _).imp fun h=>by omega
theorem IY {s:List (List Int)} {n r i:Nat} (hi:i<(srv s n r).length):idxOf (fun y=>decide ((srv s n r).getD i 0=y)) (srv s n r)=i:=by
 refine fZ hi (decide_eq_true (getD_in hi)) fun x hx=>decide_eq_false fun e =>?_
 obtain ⟨j,hj,rfl⟩:=List.mem_take_iff_getElem.1 hx
 have h1:=List.pairwise_iff_getElem.1 (acZ s n r) j i (by omega) hi (by omega)
 rw [getD_in hi] at e
 omega
theorem wK {m s:List (List Int)} (hp:aO m s=true) (p:Nat):0<(opP m s p).length:=by
 have hl:=aQ hp
 obtain ⟨y,hy,h1⟩:=D5 hp (Nat.mod_lt p (show 0<s.length by omega))
 unfold opP srv
 rw [List.length_map]
 exact List.length_pos_of_mem (List.mem_filter.2 ⟨List.mem_range.2 hy,decide_eq_true h1⟩)
theorem KZ {m s:List (List Int)} (hp:aO m s=true) (p:Nat):(opP m s p).length<=4:=by
 have hl:=aQ hp
 unfold opP srv
 rw [List.length_map]
 have:=List.length_filter_le (fun y=>decide (0<=at2 s (p % s.length) y)) (List.range m.length)
 rw [List.length_range] at this
 omega
theorem aai {m s:List (List Int)} {p:Nat} {x:Int} (h:x∈opP m s p):∃ y:Nat,x=y/\y<m.length/\0<=at2 s (p % s.length) y:=by
 unfold opP srv at h
 rw [List.mem_map] at h
 obtain ⟨y,hy,rfl⟩:=h
 rw [List.mem_filter,List.mem_range] at hy
 exact ⟨y,rfl,hy.1,of_decide_eq_true hy.2⟩
theorem Xh {m s:List (List Int)} (p i:Nat) (hi:i<(opP m s p).length):whP m s p ((opP m s p).getD i 0)=i:=by
 unfold whP
 unfold opP at hi ⊢
 rw [IY hi]
 exact Int.toNat_natCast i
def rM (m s:List (List Int)) (j:Nat):List Int:=(fQ (opP m s) (m.length*s.length)).getD j []
def dL (m s:List (List Int)) (j:Nat):List (List Int):=dB s.length m.length (rM m s j)
def eU (m s:List (List Int)):Nat:=gJ (opP m s) (m.length*s.length)
theorem rX {m s:List (List Int)} {j:Nat} (hj:j<eU m s):(rM m s j).length=m.length*s.length :=
 yg _ _ _ (by unfold rM;rw [getD_in (by rw [jT];exact hj)];exact List.getElem_mem _)
theorem GX {m s:List (List Int)} {j p:Nat} (hj:j<eU m s) (hp:p<m.length*s.length):(rM m s j).getD p 0∈opP m s p :=
 KO _ _ _ (by unfold rM;rw [getD_in (by rw [jT];exact hj)];exact List.getElem_mem _) p hp
theorem WQ {m s:List (List Int)} {l:List Int} (hl:l.length=m.length*s.length) (h:∀ p,p<m.length*s.length->l.getD p 0∈opP m s p):pY m s (dB s.length m.length l)=true:=by
 unfold pY
 simp only [Bool.and_eq_true,beq_iff_eq,List.all_eq_true]
 refine ⟨fA _ _ _,fun row hr =>?_⟩
 obtain ⟨i,hi,rfl⟩:=List.mem_iff_getElem.1 hr
 have hi':i<m.length:=by rw [fA] at hi;exact hi
 have e:(dB s.length m.length l)[i]=(dB s.length m.length l).getD i []:=(getD_in hi).symm
 rw [e]
 have hrl:=og (K:=s.length) hl hi'
 unfold oW
 simp only [Bool.and_eq_true,beq_iff_eq]
 refine ⟨hrl,bg.2 fun r hr =>?_⟩
 rw [hrl] at hr
 have hm:=DK (K:=s.length) hi'
 have h1:=h (i*s.length+r) (by omega)
 rw [Eb hi' hr]
 obtain ⟨y,h2,h3,h4⟩:=aai h1
 rw [h2]
 have e2:(i*s.length+r) % s.length=r:=by rw [Nat.mul_comm,Nat.mul_add_mod,Nat.mod_eq_of_lt hr]
 rw [e2] at h4
 unfold EX
 simp only [Bool.and_eq_true]
 exact ⟨jf.2 ⟨by omega,by omega⟩,decide_eq_true (by rw [Int.toNat_natCast];exact h4)⟩
theorem ZI {m s:List (List Int)} {j:Nat} (hj:j<eU m s):pY m s (dL m s j)=true:=WQ (rX hj) fun _ hp=>GX hj hp
theorem SN {m s:List (List Int)} {j:Nat} (hj:j<eU m s):zH (opP m s) (whP m s) (m.length*s.length) (rM m s j)=if j+1<eU m s then some (rM m s (j+1)) else none:=by
 have:=VR (o:=opP m s) (w:=whP m s) (fun p i hi=>Xh p i hi) (m.length*s.length) j [] hj
 simpa [rM,eU] using this
theorem SH {m s:List (List Int)} (hp:aO m s=true):0<eU m s:=TQ (wK hp) _
theorem SQ {m s:List (List Int)} (hp:aO m s=true):rM m s 0=(List.range (m.length*s.length)).map fun p=>(opP m s p).getD 0 0:=F8 (wK hp) _
def cR (m s:List (List Int)) (r:Nat):Nat:=(srv s m.length r).length
theorem KY {m s:List (List Int)} (i r:Nat) (hr:r<s.length):(opP m s (i*s.length+r)).length=cR m s r:=by
 unfold opP cR
 rw [Nat.mul_comm,Nat.mul_add_mod,Nat.mod_eq_of_lt hr]
theorem Xo (m s:List (List Int)):eU m s=nY (cR m s) s.length ^ m.length:=OX (fun i r hr=>KY i r hr) m.length
end Go.Proofs.YtkcelmnbfbehbaaGreat
