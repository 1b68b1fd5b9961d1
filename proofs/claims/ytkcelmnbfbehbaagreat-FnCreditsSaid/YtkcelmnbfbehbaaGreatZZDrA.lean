/- What a schedule costs, on the machine. Conditions: the states serve. -/
import Derived.Test.YtkcelmnbfbehbaaGreatCdP
import Derived.Test.YtkcelmnbfbehbaaGreatGQU
set_option linter.all false
namespace Go.Proofs.YtkcelmnbfbehbaaGreat
open Go Go.RowKit Am
def Eo:Nat->List Int->Nat
 | st,[]=>st
 | _,u::us=>Eo u.toNat us
theorem Aa:∀ (st:Nat) (us:List Int) (u:Int),Eo st (us++[u])=u.toNat
 | _,[],_=>rfl
 | _,_::us,u=>Aa _ us u
theorem Aw (m s:List (List Int)):∀ (rs us:List Int) (st:Nat) (r u:Int),rs.length=us.length->su m s st (rs++[r]) (us++[u])=su m s st rs us+(at2 m (Eo st us) u.toNat+at2 s r.toNat u.toNat)
 | [],[],st,r,u,_=>by simp [su,Eo]
 | [],_::_,_,_,_,h=>by simp at h
 | _::_,[],_,_,_,h=>by simp at h
 | a::rs,b::us,st,r,u,h=>by
  have h1:=Aw m s rs us b.toNat r u (by simpa using h)
  show at2 m st b.toNat+at2 s a.toNat b.toNat+su m s b.toNat (rs++[r]) (us++[u])=at2 m st b.toNat+at2 s a.toNat b.toNat+su m s b.toNat rs us+_
  rw [h1]
  show _=_+(at2 m (Eo b.toNat us) u.toNat+_)
  omega
set_option maxHeartbeats 2000000 in
theorem OB {m s:List (List Int)} {x:Nat} {rs us:List Int} (ht:bH m s x rs=true) (hl:us.length=rs.length) (hok:∀ j,j<rs.length->∃ u:Nat,us.getD j 0=u/\u<m.length/\0<=at2 s (rs.getD j 0).toNat u):Does Tryz.prog 19 [prA m s,.int x,.sl (.ints rs),.sl (.ints us)] (.imm (.tup [.one (.b (.val (.int .i64 (su m s x rs us)))),.one (.b (.val (.bool true)))])):=by
 obtain ⟨hp,⟨x',e,hx⟩,hq,hr60⟩:=nZ ht
 obtain rfl:x=x':=by omega
 have hpl:=bC hp
 have hS:=oI m s x rs
 rw [ht] at hS
 have hst:∀ k,k<=rs.length->Eo x (us.take k)<m.length/\0<=su m s x (rs.take k) (us.take k)/\su m s x (rs.take k) (us.take k)<=1000*k:=fun k=>by
  induction k with
  | zero=>exact fun _=>⟨hx,by simp [su],by simp [su]⟩
  | succ k ih =>
   intro hk
   obtain ⟨i1,i2,i3⟩:=ih (by omega)
   obtain ⟨u,hu,hu1,hu2⟩:=hok k (by omega)
   obtain ⟨r,hr1,hr2⟩:=hq.at (show k<rs.length by omega)
   rw [bD (show k<us.length by omega) 0,bD (show k<rs.length by omega) 0,Aa,Aw _ _ _ _ _ _ _ (by rw [List.length_take,List.length_take];omega),hu,hr1,Int.toNat_natCast,Int.toNat_natCast]
   have h1:=(gY hp i1).2 u hu1
   have h2:=uh hp hr2 u hu1
   rw [hr1,Int.toNat_natCast] at hu2
   unfold at2 at *
   omega
 refine aF Tryz.func19 rfl Tryz.ntmps19 aP (fun _ _=>by kernel_rfl) rfl (Nat.le_of_ble_eq_true rfl) ?_
 intro M0 w0
 rw [Tryz.results19]
 refine ah ?_
 ((try refine Or.inl ?_);refine ⟨_,(hS),.inl rfl,?_⟩;refine amC ?_)
 refine ah ?_
 refine aj amQ (fun h0 =>?_) (fun h0 =>?_)
 ·simp [hl] at h0
 refine ah ?_
 refine aA (α:=Nat) (fun k=>[(27,true,.int k),(10,true,.int (su m s x (rs.take k) (us.take k))),(1,true,.int (Eo x (us.take k)))]) [2,4,25,26] (fun _=>[.box [.b (.sl (.ii m)),.b (.sl (.ii s))]]) (fun k=>k<=us.length) (fun k=>us.length-k) 0 (by exact bY) (Nat.zero_le _) fun k hk =>?_
 obtain ⟨i1,i2,i3⟩:=hst k (by omega)
 simp only [xr,simprocAttr]
 refine ah ?_
 refine aj amQ (fun h1 =>?_) (fun h1 =>?_)
 ·have h1:=of_decide_eq_true h1
  have hk':k<us.length:=by omega
  have hkr:k<rs.length:=by omega
  obtain ⟨u,hu,hu1,hu2⟩:=hok k hkr
  obtain ⟨r,hr1,hr2⟩:=hq.at hkr
  obtain ⟨j1,j2,j3⟩:=hst (k+1) (by omega)
  have hrow:(s.getD (rs.getD k 0).toNat []).length=m.length:=by rw [hr1,Int.toNat_natCast];exact iZ hp r hr2
  have e1:su m s x (rs.take (k+1)) (us.take (k+1))=su m s x (rs.take k) (us.take k)+(at2 m (Eo x (us.take k)) u+at2 s r u):=by
   rw [bD hk' 0,bD hkr 0,Aw _ _ _ _ _ _ _ (by rw [List.length_take,List.length_take];omega),hu,hr1,Int.toNat_natCast,Int.toNat_natCast]
  have e2:Eo x (us.take (k+1))=u:=by rw [bD hk' 0,Aa,hu,Int.toNat_natCast]
  rw [hr1,Int.toNat_natCast] at hu2
  have hI:=zU m s (u:Int)
  rw [jc.2 (show (0:Int)<=u/\(u:Int)<=(m.length:Int)-1 by omega)] at hI
  have hu2':¬ (s.getD (rs.getD k 0).toNat []).getD u 0<0:=by rw [hr1,Int.toNat_natCast];unfold at2 at hu2;omega
  refine ah ?_
  rw [hu]
  ((try refine Or.inl ?_);refine ⟨_,(hI),.inl rfl,?_⟩;refine amC ?_)
  refine ah ?_
  refine aj amQ (fun h2 =>?_) (fun h2 =>?_)
  ·simp at h2
   exact (hu2' (by simpa using h2)).elim
  refine ah ?_
  ((try refine Or.inl ?_);refine ⟨_,(MW m s (Eo x (us.take k)) u r (Eo x (us.take k)) u (rs.getD k 0) rfl rfl hr1 hp i1 hu1 hr2),.inl rfl,?_⟩;refine amC ?_)
  refine ah ?_
  refine ⟨k+1,by omega,by omega,.inl ?_⟩
  rw [e1,e2]
  exact bY
 ·have h1:=of_decide_eq_false h1
  obtain rfl:k=us.length:=by omega
  rw [List.take_of_length_le (show rs.length<=us.length by omega),List.take_length]
  refine ah ?_
  (simp only [xec,simprocAttr];refine ⟨[_,_],⟨rfl,rfl,trivial⟩,rfl,Imp.eq ?_⟩)
  rfl
theorem L6 {m s:List (List Int)} {c:Cu} (hc:aX 999999999000 c):∃ x c',(∀ m0,aX m0 c->aX (m0+4) c')/\bJ Tryz.prog 65 [.lf (.ptr 0 0),.tv (.agg [.b (.sl (.ii m)),.b (.sl (.ii s))])] [true] [eY c] (.int x) [eY c']:=by
 by_cases h0:(m.length:Int)=0
 ·refine ⟨amV [-1,m.length] c,aqC [-1,m.length] c,fun m0 h=>(dX h).mono (by omega),?_⟩
  refine aU Tryz.func65 rfl Tryz.ntmps65 aP (fun _ _=>by kernel_rfl) rfl rfl rfl ?_
  intro M0 w0 S φ0
  rw [Tryz.results65]
  refine ah ?_
  rw [decide_eq_true h0]
  (refine .inr (.inr (xU (.bool false) (by first | rfl | (simp only [xr,simprocAttr];done)) rfl ?_));refine amC ?_)
  refine ah ?_
  refine aj amQ (fun hb =>?_) (fun hb =>?_)
  ·refine ah ?_
   (refine .inr (.inl (aJ [0] (dn (xs:=[-1,m.length]) (hc.mono (by omega)) (by simp)) rfl rfl rfl rfl ⟨rfl,trivial⟩ rfl rfl rfl rfl ?_));refine amC ?_)
   refine ah ?_
   (simp only [aB,aH];refine aW [0] rfl ⟨rfl,trivial⟩ rfl rfl rfl rfl rfl ?_;try rfl)
  ·simp at hb
 ·by_cases h1:pkV 20 c=0
  ·have hc1:=aV (n:=20) hc
   refine ⟨amV [-1,m.length] (pkC 20 c),aqC [-1,m.length] (pkC 20 c),fun m0 h=>(dX (aV h)).mono (by omega),?_⟩
   refine aU Tryz.func65 rfl Tryz.ntmps65 aP (fun _ _=>by kernel_rfl) rfl rfl rfl ?_
   intro M0 w0 S φ0
   rw [Tryz.results65]
   refine ah ?_
   rw [decide_eq_false h0]
   (refine .inr (.inr (jF [0] (tY (n:=20) (hc.mono (by omega))) (by first | rfl | (simp only [xr,simprocAttr];done)) rfl rfl rfl ⟨rfl,trivial⟩ rfl rfl rfl rfl ?_));refine amC ?_)
   rw [decide_eq_true h1]
   refine ah ?_
   refine aj amQ (fun hb =>?_) (fun hb =>?_)
   ·refine ah ?_
    (refine .inr (.inl (aJ [0] (dn (xs:=[-1,m.length]) (hc1.mono (by omega)) (by simp)) rfl rfl rfl rfl ⟨rfl,trivial⟩ rfl rfl rfl rfl ?_));refine amC ?_)
    refine ah ?_
    (simp only [aB,aH];refine aW [0] rfl ⟨rfl,trivial⟩ rfl rfl rfl rfl rfl ?_;try rfl)
   ·simp at hb
  ·have hc1:=aV (n:=20) hc
   refine ⟨pkV m.length (pkC 20 c),pkC m.length (pkC 20 c),fun m0 h=>(aV (aV h)).mono (by omega),?_⟩
   refine aU Tryz.func65 rfl Tryz.ntmps65 aP (fun _ _=>by kernel_rfl) rfl rfl rfl ?_
   intro M0 w0 S φ0
   rw [Tryz.results65]
   refine ah ?_
   rw [decide_eq_false h0]
   (refine .inr (.inr (jF [0] (tY (n:=20) (hc.mono (by omega))) (by first | rfl | (simp only [xr,simprocAttr];done)) rfl rfl rfl ⟨rfl,trivial⟩ rfl rfl rfl rfl ?_));refine amC ?_)
   rw [decide_eq_false h1]
   refine ah ?_
   refine aj amQ (fun hb =>?_) (fun hb =>?_)
   ·simp at hb
   ·refine ah ?_
    (refine .inr (.inl (aJ [0] (fJ (n:=m.length) (hc1.mono (by omega))) rfl rfl rfl rfl ⟨rfl,trivial⟩ rfl rfl rfl rfl ?_));refine amC ?_)
    refine ah ?_
    (simp only [aB,aH];refine aW [0] rfl ⟨rfl,trivial⟩ rfl rfl rfl rfl rfl ?_;try rfl)
abbrev csG:List Int:=[0,0,1,2,-1,3]
abbrev nsG:List Int:=[2,2,3,1]
abbrev ksG:List Int:=[1,2,2,3]
def rgV (n:Nat) (c:Cu):List Int:=if (!iT n (amL csG n c))=true then (amL csG n c).set (pkV n (vV csG n c)).toNat 0 else amL csG n c
def rgC (n:Nat) (c:Cu):Cu:=if (!iT n (amL csG n c))=true then pkC n (vV csG n c) else vV csG n c
theorem ZY {n:Nat} {m:Int} {c:Cu} (h:aX m c):aX (m+(2*n+2)) (rgC n c):=by
 unfold rgC
 split
 ·exact (aV (qI h n)).mono (by omega)
 ·exact (qI h n).mono (by omega)
def rqC (n:Nat):Nat->Cu->Cu
 | 0,c=>c
 | k+1,c=>rgC n (rqC n k c)
def rqV (n:Nat):Nat->Cu->List (List Int)
 | 0,_=>[]
 | k+1,c=>rqV n k c++[rgV n (rqC n k c)]
theorem Jg (n:Nat) (c:Cu):∀ k,(rqV n k c).length=k
 | 0=>rfl
 | k+1=>by simp [rqV,Jg n c k]
theorem Jf {n:Nat} {m:Int} {c:Cu} (h:aX m c):∀ k:Nat,aX (m+(2*n+2)*k) (rqC n k c)
 | 0=>h.mono (by omega)
 | k+1=>by
  have h1:=ZY (n:=n) (Jf (n:=n) h k)
  exact h1.mono (by rw [Int.natCast_add,Int.natCast_one,Int.mul_add,Int.mul_one];omega)
abbrev Iy (m s:List (List Int)) (x:Int):AV := .tup [.agg [.b (.sl (.ii m)),.b (.sl (.ii s))],.one (.b (.val (.int .i64 x)))]
set_option maxHeartbeats 2000000 in
theorem ZE {c:Cu} (hc:aX 999999980000 c) (h8:pkV 8 c=0):∃ m s x c',m.length<=5/\s.length<=16/\(∀ m0,aX m0 c->aX (m0+90) c')/\bJ Tryz.prog 31 [.lf (.ptr 0 0)] [true] [eY c] (Iy m s x) [eY c']:=by
 have d1:=tY (n:=8) (c:=c) (hc.mono (by omega))
 rw [h8] at d1
 have hc1:=aV (n:=8) hc
 obtain ⟨m,s,c2,a1,a2,a3,b2,d2⟩:=SH (c:=pkC 8 c) (hc1.mono (by omega))
 have hc2:=b2 _ hc1
 obtain ⟨x,c3,b3,d3⟩:=L6 (m:=m) (s:=s) (c:=c2) (hc2.mono (by omega))
 refine ⟨m,s,x,c3,a1,a2,fun m0 h=>(b3 _ (b2 _ (aV h))).mono (by omega),?_⟩
 refine aU Tryz.func31 rfl Tryz.ntmps31 aP (fun _ _=>by kernel_rfl) rfl rfl rfl ?_
 intro M0 w0 S φ0
 rw [Tryz.results31]
 refine ah ?_
 (refine .inr (.inl (aJ [0] (d1) rfl rfl rfl rfl ⟨rfl,trivial⟩ rfl rfl rfl rfl ?_));refine amC ?_)
 refine ah ?_
 refine aj amQ (fun hb =>?_) (fun hb =>?_)
 ·refine ah ?_
  (refine .inr (.inl (aJ [0] (d2) rfl rfl rfl rfl ⟨rfl,trivial⟩ rfl rfl rfl rfl ?_));refine amC ?_)
  refine ah ?_
  (refine amB ?_;refine gu 0 [(3,[0]),(4,[1])] [0,1] [(1,[1]),(3,[1]),(4,[0])] ?_;refine xO ?_)
  ((first | refine .inr (.inr ⟨0,_,_,eX (d3) rfl rfl rfl rfl rfl rfl rfl,?_⟩) | refine .inr ⟨0,_,_,eX (d3) rfl rfl rfl rfl rfl rfl rfl,?_⟩ | refine ⟨0,_,_,eX (d3) rfl rfl rfl rfl rfl rfl rfl,?_⟩);refine zB ?_)
  refine ah ?_
  (simp only [aB,aH];refine nU (vs:=[_,_]) [0] rfl ⟨rfl,trivial⟩ rfl rfl rfl rfl ⟨⟨amK,rfl⟩,rfl,trivial⟩ ?_;try rfl)
 ·simp at hb
def dG (n:Nat) (d:Int):Int:=if n=3 then 1 else 1+d
set_option maxHeartbeats 2000000 in
theorem ZF {c:Cu} (hc:aX 999999980000 c) (h8:¬ pkV 8 c=0):∃ m s x c',m.length<=5/\s.length<=16/\(∀ m0,aX m0 c->aX (m0+90) c')/\bJ Tryz.prog 31 [.lf (.ptr 0 0)] [true] [eY c] (Iy m s x) [eY c']:=by
 have d0:=tY (n:=8) (c:=c) (hc.mono (by omega))
 rw [decide_eq_false h8] at d0
 have hc0:=aV (n:=8) hc
 have b0:∀ m0,aX m0 c->aX (m0+2) (pkC 8 c):=fun _ h=>aV h
 generalize pkC 8 c=cc at hc0 b0 d0
 have hn:=kG (xs:=nsG) hc0 (by simp)
 obtain ⟨n,hnn,hn1,hn2⟩:∃ n:Nat,amV nsG cc=n/\1<=n/\n<=3:=by
  simp only [List.mem_cons,List.not_mem_nil,or_false] at hn
  rcases hn with h | h | h | h
  ·exact ⟨2,h,by omega,by omega⟩
  ·exact ⟨2,h,by omega,by omega⟩
  ·exact ⟨3,h,by omega,by omega⟩
  ·exact ⟨1,h,by omega,by omega⟩
 have hc1:=dX (xs:=nsG) hc0
 have d1:=dn (xs:=nsG) (c:=cc) (hc0.mono (by omega)) (by simp)
 rw [hnn] at d1
 have b1:∀ m0,aX m0 c->aX (m0+4) (aqC nsG cc):=fun m0 h=>(dX (b0 m0 h)).mono (by omega)
 generalize aqC nsG cc=c1 at hc1 d1 b1
 have hd:=fK 3 hc1
 have hd2:=hd.2 (by omega)
 have hc2:=aV (n:=3) hc1
 have d2:=fJ (n:=3) (c:=c1) (hc1.mono (by omega))
 have b2:∀ m0,aX m0 c->aX (m0+6) (pkC 3 c1):=fun m0 h=>(aV (b1 m0 h)).mono (by omega)
 generalize pkC 3 c1=c2 at hc2 d2 b2
 generalize pkV 3 c1=dd at hd hd2 d2
 have hdg:dG n dd=if n=3 then 1 else 1+dd:=rfl
 have hr:=kG (xs:=ksG) hc2 (by simp)
 obtain ⟨R,hR,hR1,hR2⟩:∃ R:Nat,amV ksG c2=R/\1<=R/\R<=3:=by
  simp only [List.mem_cons,List.not_mem_nil,or_false] at hr
  rcases hr with h | h | h | h
  ·exact ⟨1,h,by omega,by omega⟩
  ·exact ⟨2,h,by omega,by omega⟩
  ·exact ⟨2,h,by omega,by omega⟩
  ·exact ⟨3,h,by omega,by omega⟩
 have d4:=dn (xs:=ksG) (c:=c2) (hc2.mono (by omega)) (by simp)
 rw [hR] at d4
 have hc4:=dX (xs:=ksG) hc2
 have b4:∀ m0,aX m0 c->aX (m0+8) (aqC ksG c2):=fun m0 h=>(dX (b2 m0 h)).mono (by omega)
 generalize aqC ksG c2=c4 at hc4 b4 d4
 have hkb0:(2*(n:Int)+2)*(R:Int)<=24:=by
  have h1:(2*n+2)*R<=8*3:=Nat.mul_le_mul (by omega) (by omega)
  have h2:(((2*n+2)*R:Nat):Int)<=24:=by omega
  simpa using h2
 have hk0:aX 999999981000 (rqC n R c4):=(Jf (n:=n) hc4 R).mono (by omega)
 obtain ⟨x,c5,b5,d5⟩:=L6 (m:=sF n (dG n dd) n) (s:=rqV n R c4) (c:=rqC n R c4) (hk0.mono (by omega))
 refine ⟨sF n (dG n dd) n,rqV n R c4,x,c5,by rw [zn];omega,by rw [Jg];omega,fun m0 h=>(b5 _ (Jf (n:=n) (b4 m0 h) R)).mono (by omega),?_⟩
 refine aU Tryz.func31 rfl Tryz.ntmps31 aP (fun _ _=>by kernel_rfl) rfl rfl rfl ?_
 intro M0 w0 S φ0
 rw [Tryz.results31]
 refine ah ?_
 (refine .inr (.inl (aJ [0] (d0) rfl rfl rfl rfl ⟨rfl,trivial⟩ rfl rfl rfl rfl ?_));refine amC ?_)
 refine ah ?_
 refine aj amQ (fun hb =>?_) (fun hb =>?_)
 ·simp at hb
 refine ah ?_
 (refine .inr (.inl (aJ [0] (d1) rfl rfl rfl rfl ⟨rfl,trivial⟩ rfl rfl rfl rfl ?_));refine amC ?_)
 refine ah ?_
 (refine .inr (.inl (aJ [0] (d2) rfl rfl rfl rfl ⟨rfl,trivial⟩ rfl rfl rfl rfl ?_));refine amC ?_)
 refine ah ?_
 refine BR [(6,true,.int (dG n dd))] [0,2,5] [eY c2,.box [.b (.val (.slice none 0 0)),.b (.val (.slice none 0 0))]] ?_ ?_
 ·refine aj amQ (fun h =>?_) (fun h =>?_)
  ·have h:=of_decide_eq_true h
   rw [show dG n dd=1 by unfold dG;rw [if_pos (by omega)]]
   refine ah ?_
   refine .inl ?_
   exact bY
  ·have h:=of_decide_eq_false h
   rw [show dG n dd=1+dd by unfold dG;rw [if_neg (by omega)]]
   refine ah ?_
   refine .inl ?_
   exact bY
 generalize dG n dd=dv at hdg d5
 simp only [xr,simprocAttr]
 refine ah ?_
 (refine .inr (.inl (aJ [] (oJ n dv (by omega)) rfl rfl rfl rfl trivial rfl rfl rfl rfl ?_));refine amC ?_)
 refine ah ?_
 (refine .inr (.inl (aJ [0] (d4) rfl rfl rfl rfl ⟨rfl,trivial⟩ rfl rfl rfl rfl ?_));refine amC ?_)
 refine ah ?_
 (refine kK 3 1 29 (.ii []) rfl rfl rfl (by first | trivial | (intro _ h;cases h)) ?_;simp only [xr,simprocAttr])
 (refine qJ 4 3 [] rfl rfl rfl ?_;simp only [xu,simprocAttr])
 refine aA (α:=Nat) (fun k=>[(8,true,.int ((R:Int)-(k:Int)))]) [0,2,5,7] (fun k=>[eY (rqC n k c4),.box [.b (.val (.slice none 0 0)),.b (.val (.slice none 0 0))],.tree [29,3] (.ii (sF n dv n)),.box [.own 2,.own 4],.tree [29,3] (.ii (rqV n k c4))]) (fun k=>k<=R) (fun k=>R-k) 0 (by exact bY) (Nat.zero_le _) fun k hk =>?_
 have hkl:=Jg n c4 k
 have hkc:=Jf (n:=n) hc4 k
 have hkb:(2*(n:Int)+2)*(k:Int)<=24:=by
  have h1:(2*n+2)*k<=8*3:=Nat.mul_le_mul (by omega) (by omega)
  have h2:(((2*n+2)*k:Nat):Int)<=24:=by omega
  simpa using h2
 simp only [xr,simprocAttr]
 refine ah ?_
 refine aj amQ (fun hc7 =>?_) (fun hc7 =>?_)
 ·have hc7:=of_decide_eq_true hc7
  have hk':k<R:=by omega
  generalize hr0:rqC n k c4=r at hkc
  have hrc:aX 999999981000 r:=hkc.mono (by omega)
  refine ah ?_
  refine aA (α:=Nat) (fun j=>[(10,true,.int j)]) [0,2,5,7,8,9] (fun j=>[eY (vV csG j r),.box [.b (.val (.slice none 0 0)),.b (.val (.slice none 0 0))],.tree [29,3] (.ii (sF n dv n)),.box [.own 2,.own 4],.tree [29,3] (.ii (rqV n k c4)),.row 3 (.ints (amL csG j r))]) (fun j=>j<=n) (fun j=>n-j) 0 (by exact bY) (Nat.zero_le _) fun j hj =>?_
  have hjl:=xM csG r j
  have hjc:=qI (xs:=csG) hrc j
  simp only [xr,simprocAttr]
  refine ah ?_
  refine aj amQ (fun hc8 =>?_) (fun hc8 =>?_)
  ·have hc8:=of_decide_eq_true hc8
   refine ah ?_
   (refine .inr (.inl (aJ [0] (dn (xs:=csG) (hjc.mono (by omega)) (by simp)) rfl rfl rfl rfl ⟨rfl,trivial⟩ rfl rfl rfl rfl ?_));refine amC ?_)
   refine ah ?_
   refine ⟨j+1,by omega,by omega,.inr ⟨6,Nat.le_of_ble_eq_true rfl,aS ?_ rfl rfl rfl⟩⟩
   exact bV (rfl)
  ·have hc8:=of_decide_eq_false hc8
   obtain rfl:j=n:=by omega
   refine ah ?_
   ((try refine Or.inl ?_);refine ⟨_,(tq j _ (by omega)),.inl rfl,?_⟩;refine amC ?_)
   have fin:∀ v c',rgV j r=v->rgC j r=c'->rqV j (k+1) c4=rqV j k c4++[v]/\rqC j (k+1) c4=c':=fun v c' h1 h2=>by subst h1 h2;simp [rqV,rqC,hr0]
   refine ah ?_
   refine aj amQ (fun hB =>?_) (fun hB =>?_)
   ·obtain ⟨f1,f2⟩:=fin _ _ (if_pos hB) (if_pos hB)
    obtain ⟨q1,q2⟩:=fK j hjc
    have q2:=q2 (by omega)
    refine ah ?_
    (refine .inr (.inl (aJ [0] (fJ (n:=j) (hjc.mono (by omega))) rfl rfl rfl rfl ⟨rfl,trivial⟩ rfl rfl rfl rfl ?_));refine amC ?_)
    refine ah ?_
    refine ⟨k+1,by omega,by omega,.inr ⟨5,Nat.le_of_ble_eq_true rfl,aS ?_ rfl rfl rfl⟩⟩
    exact bV (by rw [f1,f2];rfl)
   ·obtain ⟨f1,f2⟩:=fin _ _ (if_neg (by rw [hB];simp)) (if_neg (by rw [hB];simp))
    refine ah ?_
    refine ⟨k+1,by omega,by omega,.inr ⟨5,Nat.le_of_ble_eq_true rfl,aS ?_ rfl rfl rfl⟩⟩
    exact bV (by rw [f1,f2];rfl)
 ·have hc7:=of_decide_eq_false hc7
  obtain rfl:k=R:=by omega
  (refine dQ 2 rfl ?_;simp only [xz,simprocAttr])
  (refine dQ 4 rfl ?_;simp only [xz,simprocAttr])
  refine ah ?_
  (refine amB ?_;refine gu 0 [(3,[0]),(4,[1])] [0,1] [(1,[1]),(3,[1]),(4,[0])] ?_;refine xO ?_)
  ((first | refine .inr (.inr ⟨0,_,_,eX (d5) rfl rfl rfl rfl rfl rfl rfl,?_⟩) | refine .inr ⟨0,_,_,eX (d5) rfl rfl rfl rfl rfl rfl rfl,?_⟩ | refine ⟨0,_,_,eX (d5) rfl rfl rfl rfl rfl rfl rfl,?_⟩);refine zB ?_)
  refine ah ?_
  (simp only [aB,aH];refine nU (vs:=[_,_]) [0] rfl ⟨rfl,trivial⟩ rfl rfl rfl rfl ⟨⟨amK,rfl⟩,rfl,trivial⟩ ?_;try rfl)
theorem U7 {c:Cu} (hc:aX 999999980000 c):∃ m s x c',m.length<=5/\s.length<=16/\(∀ m0,aX m0 c->aX (m0+90) c')/\bJ Tryz.prog 31 [.lf (.ptr 0 0)] [true] [eY c] (Iy m s x) [eY c']:=by
 by_cases h:pkV 8 c=0
 ·exact ZE hc h
 ·exact ZF hc h
end Go.Proofs.YtkcelmnbfbehbaaGreat
