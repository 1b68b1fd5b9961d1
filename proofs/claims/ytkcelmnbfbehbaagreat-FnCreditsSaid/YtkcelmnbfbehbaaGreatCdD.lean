/- The reference's draws of credits: numbers, and lists with changes, on the machine. Conditions: the place is small. -/
import Derived.Test.YtkcelmnbfbehbaaGreatZGDR
import Derived.Test.YtkcelmnbfbehbaaGreatRG4
set_option linter.all false
namespace Go.Proofs.YtkcelmnbfbehbaaGreat
open Go Go.RowKit Am
theorem Wv {n m0:Int} {c:Cu} (hn:0<n) (h:aX m0 c):∀ (k:Nat),∀ v∈pkL n k c,0<=v/\v<n
 | 0=>by simp [pkL]
 | k+1=>fun v hv=>by
  simp only [pkL,List.mem_append,List.mem_singleton] at hv
  rcases hv with hv | rfl
  ·exact Wv hn h k v hv
  ·obtain ⟨q1,q2⟩:=fK n (mF h k)
   exact ⟨q1,q2 hn⟩
def adS (V:List Int) (i:Nat):List Int:=(List.range V.length).map fun j=>if j<i then V.getD j 0+5 else V.getD j 0
theorem Xv (V:List Int) (i:Nat):(adS V i).length=V.length:=by simp [adS]
theorem acQ (V:List Int):adS V 0=V:=by
 refine List.ext_getElem (by simp [adS]) fun j h1 h2 =>?_
 simp only [adS,List.getElem_map,List.getElem_range]
 rw [if_neg (by omega),getD_in h2]
theorem Zm {V:List Int} {i:Nat} (h:i<V.length):(adS V i).getD i 0=V.getD i 0:=by
 unfold adS
 rw [dN _ _ h,if_neg (by omega)]
theorem Xw {V:List Int} {i:Nat}:(adS V i).set i (V.getD i 0+5)=adS V (i+1):=by
 unfold adS
 rw [ru]
 refine gZ fun j _ =>?_
 by_cases e:j=i
 ·subst e
  rw [if_pos rfl,if_pos (by omega)]
 ·rw [if_neg e]
  by_cases h:j<i
  ·rw [if_pos h,if_pos (by omega)]
  ·rw [if_neg h,if_neg (by omega)]
abbrev n0L:List Int:=[1,-1,2]
abbrev n1L:List Int:=[-1,0,1000000000000000,1000000000000001,-9223372036854775808]
set_option maxRecDepth 8000 in
set_option maxHeartbeats 8000000 in
theorem Bq {V:List Int} {c:Cu} (hVl:V.length<=1000) (hVb:∀ k,0<=V.getD k 0/\V.getD k 0<=100000000000000) (hc5:aX 100000 c):∃ W c',bJ Tryz.prog 34 [.lf (.ptr 0 0),.sl (.ints V)] [true] [eY c] (.sl (.ints W)) [eY c']:=by
 have hO:=KP V hVl
 by_cases hV:V=[]
 ·subst hV
  refine ⟨[],c,?_⟩
  refine aU Tryz.func34 rfl Tryz.ntmps34 aP (fun _ _=>by kernel_rfl) rfl rfl rfl ?_
  intro M0 w0 S φ0
  rw [Tryz.results34]
  refine ah ?_
  (refine .inr (.inl (fC (hO) rfl rfl rfl rfl rfl rfl rfl ?_));refine amC ?_)
  refine ah ?_
  refine aj amQ (fun e2 =>?_) (fun e2 =>?_)
  ·(refine aN 1 rfl ?_;simp only [xz,simprocAttr])
   refine ah ?_
   (simp only [aB,aH];refine aW [0] rfl ⟨rfl,trivial⟩ rfl rfl rfl rfl rfl ?_;try rfl)
  ·simp at e2
 have hVp:0<V.length:=List.length_pos_iff.2 hV
 have d5:=fJ (n:=(V.length:Int)) (c:=c) (hc5.mono (by omega))
 obtain ⟨q1,q2⟩:=fK (V.length:Int) hc5
 have q2:=q2 (by omega)
 have hc6:=aV (n:=(V.length:Int)) hc5
 obtain ⟨k,hk⟩:∃ k:Nat,pkV (V.length:Int) c=k:=⟨(pkV (V.length:Int) c).toNat,by omega⟩
 rw [hk] at d5 q2
 generalize pkC (V.length:Int) c=c6 at d5 hc6
 have d6:=fJ (n:=12) (c:=c6) (hc6.mono (by omega))
 have hc7:=aV (n:=12) hc6
 generalize pkV 12 c6=tg at d6
 generalize pkC 12 c6=c7 at d6 hc7
 have d7:=dn (xs:=n0L) (c:=c7) (hc7.mono (by omega)) (by simp)
 have h7:=kG (xs:=n0L) hc7 (by simp)
 have d8:=dn (xs:=n1L) (c:=c7) (hc7.mono (by omega)) (by simp)
 generalize amV n0L c7=e0 at d7 h7
 generalize amV n1L c7=e1 at d8
 generalize aqC n0L c7=c8 at d7
 generalize aqC n1L c7=c9 at d8
 simp only [List.mem_cons,List.not_mem_nil,or_false] at h7
 have hkl:k<V.length:=by omega
 have hbk:=hVb k
 refine ⟨if tg=0 then V.set k (V.getD k 0+e0) else if tg=1 then V.set k e1 else if tg=2 then (V.take V.length).drop 1 else if tg=3 then adS V V.length else V,if tg=0 then c8 else if tg=1 then c9 else c7,?_⟩
 refine aU Tryz.func34 rfl Tryz.ntmps34 aP (fun _ _=>by kernel_rfl) rfl rfl rfl ?_
 intro M0 w0 S φ0
 rw [Tryz.results34]
 refine ah ?_
 (refine .inr (.inl (fC (hO) rfl rfl rfl rfl rfl rfl rfl ?_));refine amC ?_)
 refine ah ?_
 refine aj amQ (fun e2 =>?_) (fun e2 =>?_)
 ·have e2:=of_decide_eq_true e2
  omega
 refine ah ?_
 (refine .inr (.inl (aJ [0] (d5) rfl rfl rfl rfl ⟨rfl,trivial⟩ rfl rfl rfl rfl ?_));refine amC ?_)
 refine ah ?_
 (refine .inr (.inl (aJ [0] (d6) rfl rfl rfl rfl ⟨rfl,trivial⟩ rfl rfl rfl rfl ?_));refine amC ?_)
 refine ah ?_
 by_cases t0:tg=0
 ·rw [if_pos t0,if_pos t0]
  refine aj amQ (fun e3 =>?_) (fun e3 =>?_)
  ·(refine amB ?_;refine mM 0 [(8,[0]),(11,[1])] [0,1] [(4,[0]),(5,[0]),(8,[1]),(10,[0]),(11,[0])] [(8,0,eY c8,.int e0)] ?_;refine Rw ?_)
   (refine ⟨eX (d7) rfl rfl rfl rfl rfl rfl rfl,?_⟩;refine MH ?_)
   (refine aN 1 rfl ?_;simp only [xz,simprocAttr])
   refine ah ?_
   (simp only [aB,aH];refine aW [0] rfl ⟨rfl,trivial⟩ rfl rfl rfl rfl rfl ?_;try rfl)
  ·simp [t0] at e3
 rw [if_neg t0,if_neg t0]
 refine aj amQ (fun e3 =>?_) (fun e3 =>?_)
 ·exact (t0 (of_decide_eq_true e3)).elim
 refine ah ?_
 by_cases t1:tg=1
 ·rw [if_pos t1,if_pos t1]
  refine aj amQ (fun e4 =>?_) (fun e4 =>?_)
  ·refine ah ?_
   (refine .inr (.inl (aJ [0] (d8) rfl rfl rfl rfl ⟨rfl,trivial⟩ rfl rfl rfl rfl ?_));refine amC ?_)
   (refine aN 1 rfl ?_;simp only [xz,simprocAttr])
   refine ah ?_
   (simp only [aB,aH];refine aW [0] rfl ⟨rfl,trivial⟩ rfl rfl rfl rfl rfl ?_;try rfl)
  ·simp [t1] at e4
 rw [if_neg t1,if_neg t1]
 refine aj amQ (fun e4 =>?_) (fun e4 =>?_)
 ·exact (t1 (of_decide_eq_true e4)).elim
 refine ah ?_
 by_cases t2:tg=2
 ·rw [if_pos t2]
  refine aj amQ (fun e5 =>?_) (fun e5 =>?_)
  ·(refine aN 1 rfl ?_;simp only [xz,simprocAttr])
   refine ah ?_
   (simp only [aB,aH];refine aW [0] rfl ⟨rfl,trivial⟩ rfl rfl rfl rfl rfl ?_;try rfl)
  ·simp [t2] at e5
 rw [if_neg t2]
 refine aj amQ (fun e5 =>?_) (fun e5 =>?_)
 ·exact (t2 (of_decide_eq_true e5)).elim
 refine ah ?_
 by_cases t3:tg=3
 ·rw [if_pos t3]
  refine aj amQ (fun e6 =>?_) (fun e6 =>?_)
  ·refine ah ?_
   refine aA (α:=Nat) (fun i=>[(7,true,.int i)]) [0,5] (fun i=>[eY c7,.row 3 (.ints (adS V i))]) (fun i=>i<=V.length) (fun i=>V.length-i) 0 (by exact bV (by rw [acQ]<;>rfl)) (by omega) fun i hi =>?_
   have hai:=Xv V i
   have hbi:=hVb i
   simp only [xr,simprocAttr]
   refine ah ?_
   refine aj amQ (fun e7 =>?_) (fun e7 =>?_)
   ·have e7:=of_decide_eq_true e7
    have hat:=Zm (V:=V) (i:=i) (by omega)
    have hst:=Xw (V:=V) (i:=i)
    rw [← hat] at hbi hst
    refine ah ?_
    refine ⟨i+1,by omega,by omega,.inl ?_⟩
    exact bV (by rw [← hst]<;>rfl)
   ·have e7:=of_decide_eq_false e7
    obtain rfl:i=V.length:=by omega
    (refine aN 1 rfl ?_;simp only [xz,simprocAttr])
    refine ah ?_
    (simp only [aB,aH];refine aW [0] rfl ⟨rfl,trivial⟩ rfl rfl rfl rfl rfl ?_;try rfl)
  ·simp [t3] at e6
 rw [if_neg t3]
 refine aj amQ (fun e6 =>?_) (fun e6 =>?_)
 ·exact (t3 (of_decide_eq_true e6)).elim
 (refine aN 1 rfl ?_;simp only [xz,simprocAttr])
 refine ah ?_
 (simp only [aB,aH];refine aW [0] rfl ⟨rfl,trivial⟩ rfl rfl rfl rfl rfl ?_;try rfl)
theorem Xg {m s:List (List Int)} {x:Int} {c:Cu} (hc:aX 50000 c):∃ V c',V.length<=60/\(∀ k,0<=V.getD k 0/\V.getD k 0<=10)/\aX 60000 c'/\bJ Tryz.prog 33 [.lf (.ptr 0 0),prA m s,.int x,.int 10] [true] [eY c] (.sl (.ints V)) [eY c']:=by
 cases hq:(gmQ m s x).2
 ·have hle:=(dS hq).le
  have hG:=gG (iJ hq)
  rw [hq] at hG
  refine ⟨pkL 10 (gmQ m s x).1.list.length c,yQ 10 (gmQ m s x).1.list.length c,by rw [qY];exact hle,fun k =>?_,(mF hc _).mono (by omega),?_⟩
  ·by_cases hk:k<(pkL 10 (gmQ m s x).1.list.length c).length
   ·have:=Wv (n:=10) (by omega) hc (gmQ m s x).1.list.length ((pkL 10 (gmQ m s x).1.list.length c).getD k 0) (by rw [getD_in hk];exact List.getElem_mem hk)
    omega
   ·rw [List.getD_eq_getElem?_getD,List.getElem?_eq_none (by omega)]
    simp
  have hpl:=qY 10 c
  generalize (gmQ m s x).1=g at hG hle
  refine aU Tryz.func33 rfl Tryz.ntmps33 aP (fun _ _=>by kernel_rfl) rfl rfl rfl ?_
  intro M0 w0 S φ0
  rw [Tryz.results33]
  refine ah ?_
  ((try refine Or.inl ?_);refine ⟨_,(hG),amF,?_⟩;refine amC ?_)
  refine ah ?_
  refine aA (α:=Nat) (fun i=>[(12,true,.int i),(9,true,.lf (.own 2))]) [0,3,10,11] (fun i=>[eY (yQ 10 i c),.box [.b (.sl (.ii m)),.b (.sl (.ii s))],.row 3 (.ints (pkL 10 i c)),.box [.b (.sl (.k 2 g.list)),.b (.sl (.kii 4 (ch4 g.ch))),.b (.val (.bool false))]]) (fun i=>i<=g.list.length) (fun i=>g.list.length-i) 0 (by exact bZ) (by omega) fun i hi =>?_
  have hci:=mF (n:=10) hc i
  have hli:=hpl i
  simp only [xr,simprocAttr]
  refine ah ?_
  refine aj amQ (fun e4 =>?_) (fun e4 =>?_)
  ·have e4:=of_decide_eq_true e4
   refine ah ?_
   (refine .inr (.inl (aJ [0] (fJ (n:=10) (c:=yQ 10 i c) (hci.mono (by omega))) rfl rfl rfl rfl ⟨rfl,trivial⟩ rfl rfl rfl rfl ?_));refine amC ?_)
   refine ah ?_
   refine ⟨i+1,by omega,by omega,.inl ?_⟩
   exact bZ
  ·have e4:=of_decide_eq_false e4
   obtain rfl:i=g.list.length:=by omega
   (refine aN 2 rfl ?_;simp only [xz,simprocAttr])
   refine ah ?_
   (simp only [aB,aH];refine aW [0] rfl ⟨rfl,trivial⟩ rfl rfl rfl rfl rfl ?_;try rfl)
 ·refine ⟨[],c,by simp,fun k=>by simp,hc.mono (by omega),?_⟩
  cases ht:bH m s x []
  ·skip
   refine aU Tryz.func33 rfl Tryz.ntmps33 aP (fun _ _=>by kernel_rfl) rfl rfl rfl ?_
   intro M0 w0 S φ0
   rw [Tryz.results33]
   refine ah ?_
   ((try refine Or.inl ?_);refine ⟨_,(nK ht),amF,?_⟩;refine amC ?_)
   refine ah ?_
   refine aA (α:=Nat) (fun i=>[(12,true,.int i)]) [0,3,9,10,11] (fun i=>_) (fun i=>i=0) (fun i=>1-i) 0 (by exact bZ) rfl fun i hi =>?_
   subst hi
   simp only [xr,simprocAttr]
   refine ah ?_
   refine aj amQ (fun e4 =>?_) (fun e4 =>?_)
   ·cases e4
   ·(refine aN 2 rfl ?_;simp only [xz,simprocAttr])
    refine ah ?_
    (simp only [aB,aH];refine aW [0] rfl ⟨rfl,trivial⟩ rfl rfl rfl rfl rfl ?_;try rfl)
  ·have hG:=gG ht
   rw [hq] at hG
   refine aU Tryz.func33 rfl Tryz.ntmps33 aP (fun _ _=>by kernel_rfl) rfl rfl rfl ?_
   intro M0 w0 S φ0
   rw [Tryz.results33]
   refine ah ?_
   ((try refine Or.inl ?_);refine ⟨_,(hG),amF,?_⟩;refine amC ?_)
   refine ah ?_
   refine aA (α:=Nat) (fun i=>[(12,true,.int i)]) [0,3,9,10,11] (fun i=>_) (fun i=>i=0) (fun i=>1-i) 0 (by exact bZ) rfl fun i hi =>?_
   subst hi
   simp only [xr,simprocAttr]
   refine ah ?_
   refine aj amQ (fun e4 =>?_) (fun e4 =>?_)
   ·cases e4
   ·(refine aN 2 rfl ?_;simp only [xz,simprocAttr])
    refine ah ?_
    (simp only [aB,aH];refine aW [0] rfl ⟨rfl,trivial⟩ rfl rfl rfl rfl rfl ?_;try rfl)
theorem acY {m s:List (List Int)} {x:Int} (h:(grP m s x).2=true):frB (grP m s x).1.1 (grP m s x).1.2=true:=by
 cases hg:(gmQ m s x).2
 ·have hr:=Va hg
  obtain ⟨o,ho1,ho2⟩:=LP (dS hg)
  obtain rfl:=ES hr ho1
  unfold grP at h ⊢
  cases hw:grW m s x with
  | none=>rw [hw] at h;cases h
  | some q =>
   obtain ⟨c,d⟩:=q
   rw [hw] at hr
   have hr:acK s (gmQ m s x).1 c d:=hr
   have hbd:=ho2 c d hw
   have h1:=hr.na
   have h2:=hr.nb
   exact lX.2 ⟨h2,by show d<=_;omega,by show _<=c;omega,by show c<=_;omega,hr.low⟩
 ·unfold grP at h
  rw [P9 hg] at h
  cases h
theorem Yn {a:Int×Int} {e d:Int} (hf:frB a.1 a.2=true) (hd:frB e d=true) (hp:1<=d):Does Tryz.prog 90 [frA a,frA (e,d)] (.imm (.tup [frT (vw (a.1*d+e*a.2) (a.2*d)),blT (mD (a.1*d+e*a.2) (a.2*d))])):=by
 have h1:=(lX.1 hf).1
 exact Yf (a:=a) (b:=(e,d)) (A:=a.1*d) (B:=e*a.2) (D:=a.2*d) ⟨hf,by rw [Int.mul_right_comm,← Int.mul_assoc,Int.mul_right_comm],Int.mul_pos (by omega) (by omega)⟩ ⟨hd,by show e*(a.2*d)=e*a.2*d;rw [Int.mul_assoc],Int.mul_pos (by omega) (by omega)⟩
abbrev r0L:List Int:=[1000,1001,7]
abbrev r1L:List Int:=[1,99,100,101]
abbrev r2L:List Int:=[1,-1]
abbrev r3L:List Int:=[2,5,10]
set_option maxHeartbeats 2000000 in
theorem SS {m s:List (List Int)} {x:Int} {c:Cu} (hc:aX 40000 c):∃ a c',aX 50000 c'/\bJ Tryz.prog 32 [.lf (.ptr 0 0),prA m s,.int x] [true] [eY c] (frA a) [eY c']:=by
 have hG:=AP m s x
 have hfr:=acY (m:=m) (s:=s) (x:=x)
 generalize grP m s x=gr at hG hfr
 obtain ⟨g,cg⟩:=gr
 have d1:=tY (n:=3) (c:=c) (hc.mono (by omega))
 have hc1:=aV (n:=3) hc
 have alt:∀ c1:Cu,aX 40010 c1->∃ a c',aX 50000 c'/\((pkV 12 c1=0/\a=(amV r0L (pkC 12 c1),amV r1L (aqC r0L (pkC 12 c1)))/\c'=aqC r1L (aqC r0L (pkC 12 c1)))\/(pkV 12 c1≠0/\bJ Tryz.prog 89 [.lf (.ptr 0 0)] [true] [eY (pkC 12 c1)] (frA a) [eY c'])):=fun c1 h1=>by
  have h2:=aV (n:=12) h1
  by_cases h12:pkV 12 c1=0
  ·exact ⟨_,_,(dX (xs:=r1L) (dX (xs:=r0L) h2)).mono (by omega),.inl ⟨h12,rfl,rfl⟩⟩
  ·obtain ⟨a,c',b1,e1⟩:=WJ (c:=pkC 12 c1) (h2.mono (by omega))
   exact ⟨a,c',(b1 _ h2).mono (by omega),.inr ⟨h12,e1⟩⟩
 cases cg
 ·obtain ⟨a,c',hc',ha⟩:=alt c (hc.mono (by omega))
  refine ⟨a,c',hc',?_⟩
  have d2:=tY (n:=12) (c:=c) (hc.mono (by omega))
  have hc2:=aV (n:=12) hc
  rcases ha with ⟨k1,rfl,rfl⟩ | ⟨k1,d3⟩
  ·have d3:=dn (xs:=r0L) (c:=pkC 12 c) (hc2.mono (by omega)) (by simp)
   have hc3:=dX (xs:=r0L) hc2
   have d4:=dn (xs:=r1L) (c:=aqC r0L (pkC 12 c)) (hc3.mono (by omega)) (by simp)
   rw [decide_eq_true k1] at d2
   refine aU Tryz.func32 rfl Tryz.ntmps32 aP (fun _ _=>by kernel_rfl) rfl rfl rfl ?_
   intro M0 w0 S φ0
   rw [Tryz.results32]
   refine ah ?_
   ((try refine Or.inl ?_);refine ⟨_,(hG),amF,?_⟩;refine amC ?_)
   refine ah ?_
   (refine .inr (.inr (xU (.bool false) (by first | rfl | (simp only [xr,simprocAttr];done)) rfl ?_));refine amC ?_)
   refine ah ?_
   refine aj amQ (fun h4 =>?_) (fun h4 =>?_)
   ·refine ah ?_
    (refine .inr (.inl (aJ [0] (d2) rfl rfl rfl rfl ⟨rfl,trivial⟩ rfl rfl rfl rfl ?_));refine amC ?_)
    refine ah ?_
    refine aj amQ (fun h5 =>?_) (fun h5 =>?_)
    ·refine ah ?_
     (refine .inr (.inl (aJ [0] (d3) rfl rfl rfl rfl ⟨rfl,trivial⟩ rfl rfl rfl rfl ?_));refine amC ?_)
     refine ah ?_
     (refine .inr (.inl (aJ [0] (d4) rfl rfl rfl rfl ⟨rfl,trivial⟩ rfl rfl rfl rfl ?_));refine amC ?_)
     refine ah ?_
     (simp only [aB,aH];refine aW [0] rfl ⟨rfl,trivial⟩ rfl rfl rfl rfl ⟨amK,rfl⟩ ?_;try rfl)
    ·cases h5
   ·cases h4
  ·rw [decide_eq_false k1] at d2
   refine aU Tryz.func32 rfl Tryz.ntmps32 aP (fun _ _=>by kernel_rfl) rfl rfl rfl ?_
   intro M0 w0 S φ0
   rw [Tryz.results32]
   refine ah ?_
   ((try refine Or.inl ?_);refine ⟨_,(hG),amF,?_⟩;refine amC ?_)
   refine ah ?_
   (refine .inr (.inr (xU (.bool false) (by first | rfl | (simp only [xr,simprocAttr];done)) rfl ?_));refine amC ?_)
   refine ah ?_
   refine aj amQ (fun h4 =>?_) (fun h4 =>?_)
   ·refine ah ?_
    (refine .inr (.inl (aJ [0] (d2) rfl rfl rfl rfl ⟨rfl,trivial⟩ rfl rfl rfl rfl ?_));refine amC ?_)
    refine ah ?_
    refine aj amQ (fun h5 =>?_) (fun h5 =>?_)
    ·cases h5
    ·refine ah ?_
     (refine .inr (.inl (aJ [0] (d3) rfl rfl rfl rfl ⟨rfl,trivial⟩ rfl rfl rfl rfl ?_));refine amC ?_)
     refine ah ?_
     (simp only [aB,aH];refine aW [0] rfl ⟨rfl,trivial⟩ rfl rfl rfl rfl ⟨amK,rfl⟩ ?_;try rfl)
   ·cases h4
 have hf:=hfr rfl
 by_cases h3:pkV 3 c=0
 ·rw [decide_eq_true h3] at d1
  obtain ⟨a,c',hc',ha⟩:=alt (pkC 3 c) (hc1.mono (by omega))
  refine ⟨a,c',hc',?_⟩
  have d2:=tY (n:=12) (c:=pkC 3 c) (hc1.mono (by omega))
  have hc2:=aV (n:=12) hc1
  generalize pkC 3 c=c1 at *
  rcases ha with ⟨k1,rfl,rfl⟩ | ⟨k1,d3⟩
  ·have d3:=dn (xs:=r0L) (c:=pkC 12 c1) (hc2.mono (by omega)) (by simp)
   have hc3:=dX (xs:=r0L) hc2
   have d4:=dn (xs:=r1L) (c:=aqC r0L (pkC 12 c1)) (hc3.mono (by omega)) (by simp)
   rw [decide_eq_true k1] at d2
   refine aU Tryz.func32 rfl Tryz.ntmps32 aP (fun _ _=>by kernel_rfl) rfl rfl rfl ?_
   intro M0 w0 S φ0
   rw [Tryz.results32]
   refine ah ?_
   ((try refine Or.inl ?_);refine ⟨_,(hG),amF,?_⟩;refine amC ?_)
   refine ah ?_
   (refine .inr (.inr (jF [0] (d1) (by first | rfl | (simp only [xr,simprocAttr];done)) rfl rfl rfl ⟨rfl,trivial⟩ rfl rfl rfl rfl ?_));refine amC ?_)
   refine ah ?_
   refine aj amQ (fun h4 =>?_) (fun h4 =>?_)
   ·refine ah ?_
    (refine .inr (.inl (aJ [0] (d2) rfl rfl rfl rfl ⟨rfl,trivial⟩ rfl rfl rfl rfl ?_));refine amC ?_)
    refine ah ?_
    refine aj amQ (fun h5 =>?_) (fun h5 =>?_)
    ·refine ah ?_
     (refine .inr (.inl (aJ [0] (d3) rfl rfl rfl rfl ⟨rfl,trivial⟩ rfl rfl rfl rfl ?_));refine amC ?_)
     refine ah ?_
     (refine .inr (.inl (aJ [0] (d4) rfl rfl rfl rfl ⟨rfl,trivial⟩ rfl rfl rfl rfl ?_));refine amC ?_)
     refine ah ?_
     (simp only [aB,aH];refine aW [0] rfl ⟨rfl,trivial⟩ rfl rfl rfl rfl ⟨amK,rfl⟩ ?_;try rfl)
    ·cases h5
   ·cases h4
  ·rw [decide_eq_false k1] at d2
   refine aU Tryz.func32 rfl Tryz.ntmps32 aP (fun _ _=>by kernel_rfl) rfl rfl rfl ?_
   intro M0 w0 S φ0
   rw [Tryz.results32]
   refine ah ?_
   ((try refine Or.inl ?_);refine ⟨_,(hG),amF,?_⟩;refine amC ?_)
   refine ah ?_
   (refine .inr (.inr (jF [0] (d1) (by first | rfl | (simp only [xr,simprocAttr];done)) rfl rfl rfl ⟨rfl,trivial⟩ rfl rfl rfl rfl ?_));refine amC ?_)
   refine ah ?_
   refine aj amQ (fun h4 =>?_) (fun h4 =>?_)
   ·refine ah ?_
    (refine .inr (.inl (aJ [0] (d2) rfl rfl rfl rfl ⟨rfl,trivial⟩ rfl rfl rfl rfl ?_));refine amC ?_)
    refine ah ?_
    refine aj amQ (fun h5 =>?_) (fun h5 =>?_)
    ·cases h5
    ·refine ah ?_
     (refine .inr (.inl (aJ [0] (d3) rfl rfl rfl rfl ⟨rfl,trivial⟩ rfl rfl rfl rfl ?_));refine amC ?_)
     refine ah ?_
     (simp only [aB,aH];refine aW [0] rfl ⟨rfl,trivial⟩ rfl rfl rfl rfl ⟨amK,rfl⟩ ?_;try rfl)
   ·cases h4
 rw [decide_eq_false h3] at d1
 generalize pkC 3 c=c1 at *
 have d2:=tY (n:=3) (c:=c1) (hc1.mono (by omega))
 have hc2:=aV (n:=3) hc1
 by_cases h3:pkV 3 c1=0
 ·rw [decide_eq_true h3] at d2
  generalize pkC 3 c1=c2 at *
  have d3:=dn (xs:=r2L) (c:=c2) (hc2.mono (by omega)) (by simp)
  have k3:=kG (xs:=r2L) hc2 (by simp)
  have hc3:=dX (xs:=r2L) hc2
  generalize amV r2L c2=e at *
  generalize aqC r2L c2=c3 at *
  have d4:=dn (xs:=r3L) (c:=c3) (hc3.mono (by omega)) (by simp)
  have k4:=kG (xs:=r3L) hc3 (by simp)
  have hc4:=dX (xs:=r3L) hc3
  generalize amV r3L c3=d at *
  generalize aqC r3L c3=c4 at *
  simp only [List.mem_cons,List.not_mem_nil,or_false] at k3 k4
  have hd:frB e d=true/\1<=d:=by
   rcases k3 with rfl | rfl<;>rcases k4 with rfl | rfl | rfl<;>decide
  have hN:=Yn hf hd.1 hd.2
  generalize vw (g.1*d+e*g.2) (g.2*d)=b at hN
  generalize mD (g.1*d+e*g.2) (g.2*d)=cb at hN
  refine ⟨if (bif cb then decide (0<=b.1) else false)=true then b else g,c4,hc4.mono (by omega),?_⟩
  refine aU Tryz.func32 rfl Tryz.ntmps32 aP (fun _ _=>by kernel_rfl) rfl rfl rfl ?_
  intro M0 w0 S φ0
  rw [Tryz.results32]
  refine ah ?_
  ((try refine Or.inl ?_);refine ⟨_,(hG),amF,?_⟩;refine amC ?_)
  refine ah ?_
  (refine .inr (.inr (jF [0] (d1) (by first | rfl | (simp only [xr,simprocAttr];done)) rfl rfl rfl ⟨rfl,trivial⟩ rfl rfl rfl rfl ?_));refine amC ?_)
  refine ah ?_
  refine aj amQ (fun h4 =>?_) (fun h4 =>?_)
  ·cases h4
  refine ah ?_
  (refine .inr (.inl (aJ [0] (d2) rfl rfl rfl rfl ⟨rfl,trivial⟩ rfl rfl rfl rfl ?_));refine amC ?_)
  refine ah ?_
  refine aj amQ (fun h5 =>?_) (fun h5 =>?_)
  ·(refine amB ?_;refine mM 1 [(3,[0]),(6,[0]),(12,[4]),(13,[4])] [0,4] [(3,[4]),(6,[4]),(12,[0]),(13,[0])] [(3,0,eY c3,.int e),(6,0,eY c4,.int d)] ?_;refine Rw ?_)
   (refine ⟨eX (d3) rfl rfl rfl rfl rfl rfl rfl,?_⟩;refine MH ?_)
   (refine ⟨eX (d4) rfl rfl rfl rfl rfl rfl rfl,?_⟩;refine MH ?_)
   ((try refine Or.inl ?_);refine ⟨_,(hN),amF,?_⟩;refine zB ?_)
   refine ah ?_
   refine aj amQ (fun h6 =>?_) (fun h6 =>?_)
   ·rw [if_pos h6]
    refine ah ?_
    (simp only [aB,aH];refine aW [0] rfl ⟨rfl,trivial⟩ rfl rfl rfl rfl ⟨amK,rfl⟩ ?_;try rfl)
   ·rw [if_neg (by rw [h6];exact Bool.false_ne_true)]
    refine ah ?_
    (simp only [aB,aH];refine aW [0] rfl ⟨rfl,trivial⟩ rfl rfl rfl rfl ⟨amK,rfl⟩ ?_;try rfl)
  ·cases h5
 ·rw [decide_eq_false h3] at d2
  refine ⟨g,_,hc2.mono (by omega),?_⟩
  refine aU Tryz.func32 rfl Tryz.ntmps32 aP (fun _ _=>by kernel_rfl) rfl rfl rfl ?_
  intro M0 w0 S φ0
  rw [Tryz.results32]
  refine ah ?_
  ((try refine Or.inl ?_);refine ⟨_,(hG),amF,?_⟩;refine amC ?_)
  refine ah ?_
  (refine .inr (.inr (jF [0] (d1) (by first | rfl | (simp only [xr,simprocAttr];done)) rfl rfl rfl ⟨rfl,trivial⟩ rfl rfl rfl rfl ?_));refine amC ?_)
  refine ah ?_
  refine aj amQ (fun h4 =>?_) (fun h4 =>?_)
  ·cases h4
  refine ah ?_
  (refine .inr (.inl (aJ [0] (d2) rfl rfl rfl rfl ⟨rfl,trivial⟩ rfl rfl rfl rfl ?_));refine amC ?_)
  refine ah ?_
  refine aj amQ (fun h5 =>?_) (fun h5 =>?_)
  ·cases h5
  refine ah ?_
  (simp only [aB,aH];refine aW [0] rfl ⟨rfl,trivial⟩ rfl rfl rfl rfl ⟨amK,rfl⟩ ?_;try rfl)
end Go.Proofs.YtkcelmnbfbehbaaGreat
