/- The reference's draws of credits: numbers, and lists with changes, on the machine. Conditions: the place is small. -/
import Derived.Test.YtnblieajjclipaaGreatZDrE
import Derived.Test.YtnblieajjclipaaGreatRG4
import Derived.Test.YtnblieajjclipaaGreatGQU
set_option linter.all false
namespace Go.Proofs.YtnblieajjclipaaGreat
open Go Go.RowKit Am
theorem V7 {n m0:Int} {c:Cu} (hn:0<n) (h:bn m0 c):∀ (k:Nat),∀ v∈pkL n k c,0<=v/\v<n
 | 0=>by simp [pkL]
 | k+1=>fun v hv=>by
  simp only [pkL,List.mem_append,List.mem_singleton] at hv
  rcases hv with hv | rfl
  ·exact V7 hn h k v hv
  ·obtain ⟨q1,q2⟩:=fP n (BG h k)
   exact ⟨q1,q2 hn⟩
def adS (V:List Int) (i:Nat):List Int:=(List.range V.length).map fun j=>if j<i then V.getD j 0+5 else V.getD j 0
theorem Xp (V:List Int) (i:Nat):(adS V i).length=V.length:=by simp [adS]
theorem acI (V:List Int):adS V 0=V:=by
 refine List.ext_getElem (by simp [adS]) fun j h1 h2 =>?_
 simp only [adS,List.getElem_map,List.getElem_range]
 rw [if_neg (by omega),getD_in h2]
theorem Zl {V:List Int} {i:Nat} (h:i<V.length):(adS V i).getD i 0=V.getD i 0:=by
 unfold adS
 rw [dN _ _ h,if_neg (by omega)]
theorem Xq {V:List Int} {i:Nat}:(adS V i).set i (V.getD i 0+5)=adS V (i+1):=by
 unfold adS
 rw [qK]
 refine gW fun j _ =>?_
 by_cases e:j=i
 ·subst e
  rw [if_pos rfl,if_pos (by omega)]
 ·rw [if_neg e]
  by_cases h:j<i
  ·rw [if_pos h,if_pos (by omega)]
  ·rw [if_neg h,if_neg (by omega)]
abbrev n0L:List Int:=[1,-1,2]
abbrev n1L:List Int:=[-1,0,1000000000000000,1000000000000001,-9223372036854775808]
set_option maxRecDepth 8000 in
set_option maxHeartbeats 8000000 in
theorem jD {V:List Int} {c:Cu} (hVl:V.length<=1000) (hVb:∀ k,0<=V.getD k 0/\V.getD k 0<=100000000000000) {M:Int} (hM:M<=900000000) (hc5:bn M c):∃ W c',bn (M+10) c'/\bP Tryz.prog 53 [.lf (.ptr 0 0),.sl (.ints V)] [true] [eu c] (.sl (.ints W)) [eu c']:=by
 have hO:=KF V hVl
 by_cases hV:V=[]
 ·subst hV
  refine ⟨[],c,hc5.mono (by omega),?_⟩
  refine aZ Tryz.func53 rfl Tryz.ntmps53 aQ (fun _ _=>by kernel_rfl) rfl rfl rfl ?_
  intro M0 w0 S φ0
  rw [Tryz.results53]
  refine ah ?_
  (refine .inr (.inl (gJ (hO) rfl rfl rfl rfl rfl rfl rfl ?_));refine amC ?_)
  refine ah ?_
  refine aj amQ (fun e2 =>?_) (fun e2 =>?_)
  ·(refine aK 1 rfl ?_;simp only [xz,simprocAttr])
   refine ah ?_
   (simp only [aC,aH];refine bf [0] rfl ⟨rfl,trivial⟩ rfl rfl rfl rfl rfl ?_;try rfl)
  ·simp at e2
 have hVp:0<V.length:=List.length_pos_iff.2 hV
 have d5:=iy (n:=(V.length:Int)) (c:=c) (hc5.mono (by omega))
 obtain ⟨q1,q2⟩:=fP (V.length:Int) hc5
 have q2:=q2 (by omega)
 have hc6:=aV (n:=(V.length:Int)) hc5
 obtain ⟨k,hk⟩:∃ k:Nat,pkV (V.length:Int) c=k:=⟨(pkV (V.length:Int) c).toNat,by omega⟩
 rw [hk] at d5 q2
 generalize pkC (V.length:Int) c=c6 at d5 hc6
 have d6:=iy (n:=12) (c:=c6) (hc6.mono (by omega))
 have hc7:=aV (n:=12) hc6
 generalize pkV 12 c6=tg at d6
 generalize pkC 12 c6=c7 at d6 hc7
 have d7:=dF (xs:=n0L) (c:=c7) (hc7.mono (by omega)) (by simp)
 have h7:=lY (xs:=n0L) hc7 (by simp)
 have d8:=dF (xs:=n1L) (c:=c7) (hc7.mono (by omega)) (by simp)
 have hc8:=dZ (xs:=n0L) hc7
 have hc9:=dZ (xs:=n1L) hc7
 generalize amV n0L c7=e0 at d7 h7
 generalize amV n1L c7=e1 at d8
 generalize aqC n0L c7=c8 at d7 hc8
 generalize aqC n1L c7=c9 at d8 hc9
 simp only [List.mem_cons,List.not_mem_nil,or_false] at h7
 have hkl:k<V.length:=by omega
 have hbk:=hVb k
 refine ⟨if tg=0 then V.set k (V.getD k 0+e0) else if tg=1 then V.set k e1 else if tg=2 then (V.take V.length).drop 1 else if tg=3 then adS V V.length else V,if tg=0 then c8 else if tg=1 then c9 else c7,?_,?_⟩
 ·repeat' split
  ·exact hc8.mono (by omega)
  ·exact hc9.mono (by omega)
  ·exact hc7.mono (by omega)
 refine aZ Tryz.func53 rfl Tryz.ntmps53 aQ (fun _ _=>by kernel_rfl) rfl rfl rfl ?_
 intro M0 w0 S φ0
 rw [Tryz.results53]
 refine ah ?_
 (refine .inr (.inl (gJ (hO) rfl rfl rfl rfl rfl rfl rfl ?_));refine amC ?_)
 refine ah ?_
 refine aj amQ (fun e2 =>?_) (fun e2 =>?_)
 ·have e2:=of_decide_eq_true e2
  omega
 refine ah ?_
 (refine .inr (.inl (aJ [0] (d5) rfl rfl rfl rfl ⟨rfl,trivial⟩ rfl rfl rfl rfl ?_));refine amC ?_)
 refine ah ?_
 (refine .inr (.inl (aJ [0] (d6) rfl rfl rfl rfl ⟨rfl,trivial⟩ rfl rfl rfl rfl ?_));refine amC ?_)
 refine ah ?_
 by_cases t0:tg=0
 ·rw [if_pos t0,if_pos t0]
  refine aj amQ (fun e3 =>?_) (fun e3 =>?_)
  ·(refine amB ?_;refine jV 0 [(8,[0]),(11,[1])] [0,1] [(4,[0]),(5,[0]),(8,[1]),(10,[0]),(11,[0])] [(8,0,eu c8,.int e0)] ?_;refine Mc ?_)
   (refine ⟨dh (d7) rfl rfl rfl rfl rfl rfl rfl,?_⟩;refine xA ?_)
   (refine aK 1 rfl ?_;simp only [xz,simprocAttr])
   refine ah ?_
   (simp only [aC,aH];refine bf [0] rfl ⟨rfl,trivial⟩ rfl rfl rfl rfl rfl ?_;try rfl)
  ·simp [t0] at e3
 rw [if_neg t0,if_neg t0]
 refine aj amQ (fun e3 =>?_) (fun e3 =>?_)
 ·exact (t0 (of_decide_eq_true e3)).elim
 refine ah ?_
 by_cases t1:tg=1
 ·rw [if_pos t1,if_pos t1]
  refine aj amQ (fun e4 =>?_) (fun e4 =>?_)
  ·refine ah ?_
   (refine .inr (.inl (aJ [0] (d8) rfl rfl rfl rfl ⟨rfl,trivial⟩ rfl rfl rfl rfl ?_));refine amC ?_)
   (refine aK 1 rfl ?_;simp only [xz,simprocAttr])
   refine ah ?_
   (simp only [aC,aH];refine bf [0] rfl ⟨rfl,trivial⟩ rfl rfl rfl rfl rfl ?_;try rfl)
  ·simp [t1] at e4
 rw [if_neg t1,if_neg t1]
 refine aj amQ (fun e4 =>?_) (fun e4 =>?_)
 ·exact (t1 (of_decide_eq_true e4)).elim
 refine ah ?_
 by_cases t2:tg=2
 ·rw [if_pos t2]
  refine aj amQ (fun e5 =>?_) (fun e5 =>?_)
  ·(refine aK 1 rfl ?_;simp only [xz,simprocAttr])
   refine ah ?_
   (simp only [aC,aH];refine bf [0] rfl ⟨rfl,trivial⟩ rfl rfl rfl rfl rfl ?_;try rfl)
  ·simp [t2] at e5
 rw [if_neg t2]
 refine aj amQ (fun e5 =>?_) (fun e5 =>?_)
 ·exact (t2 (of_decide_eq_true e5)).elim
 refine ah ?_
 by_cases t3:tg=3
 ·rw [if_pos t3]
  refine aj amQ (fun e6 =>?_) (fun e6 =>?_)
  ·refine ah ?_
   refine aA (α:=Nat) (fun i=>[(7,true,.int i)]) [0,5] (fun i=>[eu c7,.row 3 (.ints (adS V i))]) (fun i=>i<=V.length) (fun i=>V.length-i) 0 (by exact dw (by rw [acI]<;>rfl)) (by omega) fun i hi =>?_
   have hai:=Xp V i
   have hbi:=hVb i
   simp only [xr,simprocAttr]
   refine ah ?_
   refine aj amQ (fun e7 =>?_) (fun e7 =>?_)
   ·have e7:=of_decide_eq_true e7
    have hat:=Zl (V:=V) (i:=i) (by omega)
    have hst:=Xq (V:=V) (i:=i)
    rw [← hat] at hbi hst
    refine ah ?_
    refine ⟨i+1,by omega,by omega,.inl ?_⟩
    exact dw (by rw [← hst]<;>rfl)
   ·have e7:=of_decide_eq_false e7
    obtain rfl:i=V.length:=by omega
    (refine aK 1 rfl ?_;simp only [xz,simprocAttr])
    refine ah ?_
    (simp only [aC,aH];refine bf [0] rfl ⟨rfl,trivial⟩ rfl rfl rfl rfl rfl ?_;try rfl)
  ·simp [t3] at e6
 rw [if_neg t3]
 refine aj amQ (fun e6 =>?_) (fun e6 =>?_)
 ·exact (t3 (of_decide_eq_true e6)).elim
 (refine aK 1 rfl ?_;simp only [xz,simprocAttr])
 refine ah ?_
 (simp only [aC,aH];refine bf [0] rfl ⟨rfl,trivial⟩ rfl rfl rfl rfl rfl ?_;try rfl)
theorem EG {m s:List (List Int)} {x:Int} {c:Cu} (n:Nat) (hn:0<n/\n<=50) {M:Int} (hM:M<=900000000) (hc:bn M c):∃ V c',V.length<=60/\(∀ k,0<=V.getD k 0/\V.getD k 0<=50)/\bn (M+120) c'/\bP Tryz.prog 51 [.lf (.ptr 0 0),prA m s,.int x,.int n] [true] [eu c] (.sl (.ints V)) [eu c']:=by
 cases hq:(gmQ m s x).2
 ·have hle:=(fM hq).le
  have hG:=fC (gV hq)
  rw [hq] at hG
  refine ⟨pkL n (gmQ m s x).1.list.length c,Sm n (gmQ m s x).1.list.length c,by rw [II];exact hle,fun k =>?_,(BG hc _).mono (by omega),?_⟩
  ·by_cases hk:k<(pkL n (gmQ m s x).1.list.length c).length
   ·have:=V7 (n:=(n:Int)) (by omega) hc (gmQ m s x).1.list.length ((pkL n (gmQ m s x).1.list.length c).getD k 0) (by rw [getD_in hk];exact List.getElem_mem hk)
    omega
   ·rw [List.getD_eq_getElem?_getD,List.getElem?_eq_none (by omega)]
    simp
  have hpl:=II (n:Int) c
  generalize (gmQ m s x).1=g at hG hle
  refine aZ Tryz.func51 rfl Tryz.ntmps51 aQ (fun _ _=>by kernel_rfl) rfl rfl rfl ?_
  intro M0 w0 S φ0
  rw [Tryz.results51]
  refine ah ?_
  ((try refine Or.inl ?_);refine ⟨_,(hG),amF,?_⟩;refine amC ?_)
  refine ah ?_
  refine aA (α:=Nat) (fun i=>[(12,true,.int i),(9,true,.lf (.own 2))]) [0,3,10,11] (fun i=>[eu (Sm n i c),.box [.b (.sl (.ii m)),.b (.sl (.ii s))],.row 3 (.ints (pkL n i c)),.box [.b (.sl (.k 2 g.list)),.b (.sl (.kii 4 (ch4 g.ch))),.b (.val (.bool false))]]) (fun i=>i<=g.list.length) (fun i=>g.list.length-i) 0 (by exact dJ) (by omega) fun i hi =>?_
  have hci:=BG (n:=(n:Int)) hc i
  have hli:=hpl i
  simp only [xr,simprocAttr]
  refine ah ?_
  refine aj amQ (fun e4 =>?_) (fun e4 =>?_)
  ·have e4:=of_decide_eq_true e4
   refine ah ?_
   (refine .inr (.inl (aJ [0] (iy (n:=(n:Int)) (c:=Sm n i c) (hci.mono (by omega))) rfl rfl rfl rfl ⟨rfl,trivial⟩ rfl rfl rfl rfl ?_));refine amC ?_)
   refine ah ?_
   refine ⟨i+1,by omega,by omega,.inl ?_⟩
   exact dJ
  ·have e4:=of_decide_eq_false e4
   obtain rfl:i=g.list.length:=by omega
   (refine aK 2 rfl ?_;simp only [xz,simprocAttr])
   refine ah ?_
   (simp only [aC,aH];refine bf [0] rfl ⟨rfl,trivial⟩ rfl rfl rfl rfl rfl ?_;try rfl)
 ·refine ⟨[],c,by simp,fun k=>by simp,hc.mono (by omega),?_⟩
  cases ht:bH m s x []
  ·skip
   refine aZ Tryz.func51 rfl Tryz.ntmps51 aQ (fun _ _=>by kernel_rfl) rfl rfl rfl ?_
   intro M0 w0 S φ0
   rw [Tryz.results51]
   refine ah ?_
   ((try refine Or.inl ?_);refine ⟨_,(kY ht),amF,?_⟩;refine amC ?_)
   refine ah ?_
   refine aA (α:=Nat) (fun i=>[(12,true,.int i)]) [0,3,9,10,11] (fun i=>_) (fun i=>i=0) (fun i=>1-i) 0 (by exact dJ) rfl fun i hi =>?_
   subst hi
   simp only [xr,simprocAttr]
   refine ah ?_
   refine aj amQ (fun e4 =>?_) (fun e4 =>?_)
   ·cases e4
   ·(refine aK 2 rfl ?_;simp only [xz,simprocAttr])
    refine ah ?_
    (simp only [aC,aH];refine bf [0] rfl ⟨rfl,trivial⟩ rfl rfl rfl rfl rfl ?_;try rfl)
  ·have hG:=fC ht
   rw [hq] at hG
   refine aZ Tryz.func51 rfl Tryz.ntmps51 aQ (fun _ _=>by kernel_rfl) rfl rfl rfl ?_
   intro M0 w0 S φ0
   rw [Tryz.results51]
   refine ah ?_
   ((try refine Or.inl ?_);refine ⟨_,(hG),amF,?_⟩;refine amC ?_)
   refine ah ?_
   refine aA (α:=Nat) (fun i=>[(12,true,.int i)]) [0,3,9,10,11] (fun i=>_) (fun i=>i=0) (fun i=>1-i) 0 (by exact dJ) rfl fun i hi =>?_
   subst hi
   simp only [xr,simprocAttr]
   refine ah ?_
   refine aj amQ (fun e4 =>?_) (fun e4 =>?_)
   ·cases e4
   ·(refine aK 2 rfl ?_;simp only [xz,simprocAttr])
    refine ah ?_
    (simp only [aC,aH];refine bf [0] rfl ⟨rfl,trivial⟩ rfl rfl rfl rfl rfl ?_;try rfl)
theorem acQ {m s:List (List Int)} {x:Int} (h:(grP m s x).2=true):frB (grP m s x).1.1 (grP m s x).1.2=true:=by
 cases hg:(gmQ m s x).2
 ·have hr:=UQ hg
  obtain ⟨o,ho1,ho2⟩:=Eh (fM hg)
  obtain rfl:=Ei hr ho1
  unfold grP at h ⊢
  cases hw:grW m s x with
  | none=>rw [hw] at h;cases h
  | some q =>
   obtain ⟨c,d⟩:=q
   rw [hw] at hr
   have hr:Tj s (gmQ m s x).1 c d:=hr
   have hbd:=ho2 c d hw
   have h1:=hr.na
   have h2:=hr.nb
   exact kK.2 ⟨h2,by show d<=_;omega,by show _<=c;omega,by show c<=_;omega,hr.low⟩
 ·unfold grP at h
  rw [PW hg] at h
  cases h
theorem Yl {a:Int×Int} {e d:Int} (hf:frB a.1 a.2=true) (hd:frB e d=true) (hp:1<=d):Does Tryz.prog 117 [frA a,frA (e,d)] (.imm (.tup [frT (jw (a.1*d+e*a.2) (a.2*d)),blT (iL (a.1*d+e*a.2) (a.2*d))])):=by
 have h1:=(kK.1 hf).1
 exact Yb (a:=a) (b:=(e,d)) (A:=a.1*d) (B:=e*a.2) (D:=a.2*d) ⟨hf,by rw [Int.mul_right_comm,← Int.mul_assoc,Int.mul_right_comm],Int.mul_pos (by omega) (by omega)⟩ ⟨hd,by show e*(a.2*d)=e*a.2*d;rw [Int.mul_assoc],Int.mul_pos (by omega) (by omega)⟩
abbrev r0L:List Int:=[1000,1001,7]
abbrev r1L:List Int:=[1,99,100,101]
abbrev r2L:List Int:=[1,-1]
abbrev r3L:List Int:=[2,5,10]
set_option maxHeartbeats 2000000 in
theorem GK {m s:List (List Int)} {x:Int} {c:Cu} {M:Int} (hM:M<=900000000) (hc:bn M c):∃ a c',bn (M+100) c'/\bP Tryz.prog 52 [.lf (.ptr 0 0),prA m s,.int x] [true] [eu c] (frA a) [eu c']:=by
 have hG:=Ae m s x
 have hfr:=acQ (m:=m) (s:=s) (x:=x)
 generalize grP m s x=gr at hG hfr
 obtain ⟨g,cg⟩:=gr
 have d1:=sS (n:=3) (c:=c) (hc.mono (by omega))
 have hc1:=aV (n:=3) hc
 have alt:∀ c1:Cu,bn (M+10) c1->∃ a c',bn (M+100) c'/\((pkV 12 c1=0/\a=(amV r0L (pkC 12 c1),amV r1L (aqC r0L (pkC 12 c1)))/\c'=aqC r1L (aqC r0L (pkC 12 c1)))\/(pkV 12 c1≠0/\bP Tryz.prog 116 [.lf (.ptr 0 0)] [true] [eu (pkC 12 c1)] (frA a) [eu c'])):=fun c1 h1=>by
  have h2:=aV (n:=12) h1
  by_cases h12:pkV 12 c1=0
  ·exact ⟨_,_,(dZ (xs:=r1L) (dZ (xs:=r0L) h2)).mono (by omega),.inl ⟨h12,rfl,rfl⟩⟩
  ·obtain ⟨a,c',b1,e1⟩:=Wv (c:=pkC 12 c1) (h2.mono (by omega))
   exact ⟨a,c',(b1 _ h2).mono (by omega),.inr ⟨h12,e1⟩⟩
 cases cg
 ·obtain ⟨a,c',hc',ha⟩:=alt c (hc.mono (by omega))
  refine ⟨a,c',hc',?_⟩
  have d2:=sS (n:=12) (c:=c) (hc.mono (by omega))
  have hc2:=aV (n:=12) hc
  rcases ha with ⟨k1,rfl,rfl⟩ | ⟨k1,d3⟩
  ·have d3:=dF (xs:=r0L) (c:=pkC 12 c) (hc2.mono (by omega)) (by simp)
   have hc3:=dZ (xs:=r0L) hc2
   have d4:=dF (xs:=r1L) (c:=aqC r0L (pkC 12 c)) (hc3.mono (by omega)) (by simp)
   rw [decide_eq_true k1] at d2
   refine aZ Tryz.func52 rfl Tryz.ntmps52 aQ (fun _ _=>by kernel_rfl) rfl rfl rfl ?_
   intro M0 w0 S φ0
   rw [Tryz.results52]
   refine ah ?_
   ((try refine Or.inl ?_);refine ⟨_,(hG),amF,?_⟩;refine amC ?_)
   refine ah ?_
   (refine .inr (.inr (xH (.bool false) (by first | rfl | (simp only [xr,simprocAttr];done)) rfl ?_));refine amC ?_)
   refine ah ?_
   refine aj amQ (fun h4 =>?_) (fun h4 =>?_)
   ·refine ah ?_
    (refine .inr (.inl (aJ [0] (d2) rfl rfl rfl rfl ⟨rfl,trivial⟩ rfl rfl rfl rfl ?_));refine amC ?_)
    refine ah ?_
    refine aj amQ (fun h5 =>?_) (fun h5 =>?_)
    ·refine ah ?_
     (refine .inr (.inl (aJ [0] (d3) rfl rfl rfl rfl ⟨rfl,trivial⟩ rfl rfl rfl rfl ?_));refine amC ?_)
     refine ah ?_
     (refine .inr (.inl (aJ [0] (d4) rfl rfl rfl rfl ⟨rfl,trivial⟩ rfl rfl rfl rfl ?_));refine amC ?_)
     refine ah ?_
     (simp only [aC,aH];refine bf [0] rfl ⟨rfl,trivial⟩ rfl rfl rfl rfl ⟨amK,rfl⟩ ?_;try rfl)
    ·cases h5
   ·cases h4
  ·rw [decide_eq_false k1] at d2
   refine aZ Tryz.func52 rfl Tryz.ntmps52 aQ (fun _ _=>by kernel_rfl) rfl rfl rfl ?_
   intro M0 w0 S φ0
   rw [Tryz.results52]
   refine ah ?_
   ((try refine Or.inl ?_);refine ⟨_,(hG),amF,?_⟩;refine amC ?_)
   refine ah ?_
   (refine .inr (.inr (xH (.bool false) (by first | rfl | (simp only [xr,simprocAttr];done)) rfl ?_));refine amC ?_)
   refine ah ?_
   refine aj amQ (fun h4 =>?_) (fun h4 =>?_)
   ·refine ah ?_
    (refine .inr (.inl (aJ [0] (d2) rfl rfl rfl rfl ⟨rfl,trivial⟩ rfl rfl rfl rfl ?_));refine amC ?_)
    refine ah ?_
    refine aj amQ (fun h5 =>?_) (fun h5 =>?_)
    ·cases h5
    ·refine ah ?_
     (refine .inr (.inl (aJ [0] (d3) rfl rfl rfl rfl ⟨rfl,trivial⟩ rfl rfl rfl rfl ?_));refine amC ?_)
     refine ah ?_
     (simp only [aC,aH];refine bf [0] rfl ⟨rfl,trivial⟩ rfl rfl rfl rfl ⟨amK,rfl⟩ ?_;try rfl)
   ·cases h4
 have hf:=hfr rfl
 by_cases h3:pkV 3 c=0
 ·rw [decide_eq_true h3] at d1
  obtain ⟨a,c',hc',ha⟩:=alt (pkC 3 c) (hc1.mono (by omega))
  refine ⟨a,c',hc',?_⟩
  have d2:=sS (n:=12) (c:=pkC 3 c) (hc1.mono (by omega))
  have hc2:=aV (n:=12) hc1
  generalize pkC 3 c=c1 at *
  rcases ha with ⟨k1,rfl,rfl⟩ | ⟨k1,d3⟩
  ·have d3:=dF (xs:=r0L) (c:=pkC 12 c1) (hc2.mono (by omega)) (by simp)
   have hc3:=dZ (xs:=r0L) hc2
   have d4:=dF (xs:=r1L) (c:=aqC r0L (pkC 12 c1)) (hc3.mono (by omega)) (by simp)
   rw [decide_eq_true k1] at d2
   refine aZ Tryz.func52 rfl Tryz.ntmps52 aQ (fun _ _=>by kernel_rfl) rfl rfl rfl ?_
   intro M0 w0 S φ0
   rw [Tryz.results52]
   refine ah ?_
   ((try refine Or.inl ?_);refine ⟨_,(hG),amF,?_⟩;refine amC ?_)
   refine ah ?_
   (refine .inr (.inr (jG [0] (d1) (by first | rfl | (simp only [xr,simprocAttr];done)) rfl rfl rfl ⟨rfl,trivial⟩ rfl rfl rfl rfl ?_));refine amC ?_)
   refine ah ?_
   refine aj amQ (fun h4 =>?_) (fun h4 =>?_)
   ·refine ah ?_
    (refine .inr (.inl (aJ [0] (d2) rfl rfl rfl rfl ⟨rfl,trivial⟩ rfl rfl rfl rfl ?_));refine amC ?_)
    refine ah ?_
    refine aj amQ (fun h5 =>?_) (fun h5 =>?_)
    ·refine ah ?_
     (refine .inr (.inl (aJ [0] (d3) rfl rfl rfl rfl ⟨rfl,trivial⟩ rfl rfl rfl rfl ?_));refine amC ?_)
     refine ah ?_
     (refine .inr (.inl (aJ [0] (d4) rfl rfl rfl rfl ⟨rfl,trivial⟩ rfl rfl rfl rfl ?_));refine amC ?_)
     refine ah ?_
     (simp only [aC,aH];refine bf [0] rfl ⟨rfl,trivial⟩ rfl rfl rfl rfl ⟨amK,rfl⟩ ?_;try rfl)
    ·cases h5
   ·cases h4
  ·rw [decide_eq_false k1] at d2
   refine aZ Tryz.func52 rfl Tryz.ntmps52 aQ (fun _ _=>by kernel_rfl) rfl rfl rfl ?_
   intro M0 w0 S φ0
   rw [Tryz.results52]
   refine ah ?_
   ((try refine Or.inl ?_);refine ⟨_,(hG),amF,?_⟩;refine amC ?_)
   refine ah ?_
   (refine .inr (.inr (jG [0] (d1) (by first | rfl | (simp only [xr,simprocAttr];done)) rfl rfl rfl ⟨rfl,trivial⟩ rfl rfl rfl rfl ?_));refine amC ?_)
   refine ah ?_
   refine aj amQ (fun h4 =>?_) (fun h4 =>?_)
   ·refine ah ?_
    (refine .inr (.inl (aJ [0] (d2) rfl rfl rfl rfl ⟨rfl,trivial⟩ rfl rfl rfl rfl ?_));refine amC ?_)
    refine ah ?_
    refine aj amQ (fun h5 =>?_) (fun h5 =>?_)
    ·cases h5
    ·refine ah ?_
     (refine .inr (.inl (aJ [0] (d3) rfl rfl rfl rfl ⟨rfl,trivial⟩ rfl rfl rfl rfl ?_));refine amC ?_)
     refine ah ?_
     (simp only [aC,aH];refine bf [0] rfl ⟨rfl,trivial⟩ rfl rfl rfl rfl ⟨amK,rfl⟩ ?_;try rfl)
   ·cases h4
 rw [decide_eq_false h3] at d1
 generalize pkC 3 c=c1 at *
 have d2:=sS (n:=3) (c:=c1) (hc1.mono (by omega))
 have hc2:=aV (n:=3) hc1
 by_cases h3:pkV 3 c1=0
 ·rw [decide_eq_true h3] at d2
  generalize pkC 3 c1=c2 at *
  have d3:=dF (xs:=r2L) (c:=c2) (hc2.mono (by omega)) (by simp)
  have k3:=lY (xs:=r2L) hc2 (by simp)
  have hc3:=dZ (xs:=r2L) hc2
  generalize amV r2L c2=e at *
  generalize aqC r2L c2=c3 at *
  have d4:=dF (xs:=r3L) (c:=c3) (hc3.mono (by omega)) (by simp)
  have k4:=lY (xs:=r3L) hc3 (by simp)
  have hc4:=dZ (xs:=r3L) hc3
  generalize amV r3L c3=d at *
  generalize aqC r3L c3=c4 at *
  simp only [List.mem_cons,List.not_mem_nil,or_false] at k3 k4
  have hd:frB e d=true/\1<=d:=by
   rcases k3 with rfl | rfl<;>rcases k4 with rfl | rfl | rfl<;>decide
  have hN:=Yl hf hd.1 hd.2
  generalize jw (g.1*d+e*g.2) (g.2*d)=b at hN
  generalize iL (g.1*d+e*g.2) (g.2*d)=cb at hN
  refine ⟨if (bif cb then decide (0<=b.1) else false)=true then b else g,c4,hc4.mono (by omega),?_⟩
  refine aZ Tryz.func52 rfl Tryz.ntmps52 aQ (fun _ _=>by kernel_rfl) rfl rfl rfl ?_
  intro M0 w0 S φ0
  rw [Tryz.results52]
  refine ah ?_
  ((try refine Or.inl ?_);refine ⟨_,(hG),amF,?_⟩;refine amC ?_)
  refine ah ?_
  (refine .inr (.inr (jG [0] (d1) (by first | rfl | (simp only [xr,simprocAttr];done)) rfl rfl rfl ⟨rfl,trivial⟩ rfl rfl rfl rfl ?_));refine amC ?_)
  refine ah ?_
  refine aj amQ (fun h4 =>?_) (fun h4 =>?_)
  ·cases h4
  refine ah ?_
  (refine .inr (.inl (aJ [0] (d2) rfl rfl rfl rfl ⟨rfl,trivial⟩ rfl rfl rfl rfl ?_));refine amC ?_)
  refine ah ?_
  refine aj amQ (fun h5 =>?_) (fun h5 =>?_)
  ·(refine amB ?_;refine jV 1 [(3,[0]),(6,[0]),(12,[4]),(13,[4])] [0,4] [(3,[4]),(6,[4]),(12,[0]),(13,[0])] [(3,0,eu c3,.int e),(6,0,eu c4,.int d)] ?_;refine Mc ?_)
   (refine ⟨dh (d3) rfl rfl rfl rfl rfl rfl rfl,?_⟩;refine xA ?_)
   (refine ⟨dh (d4) rfl rfl rfl rfl rfl rfl rfl,?_⟩;refine xA ?_)
   ((try refine Or.inl ?_);refine ⟨_,(hN),amF,?_⟩;refine zk ?_)
   refine ah ?_
   refine aj amQ (fun h6 =>?_) (fun h6 =>?_)
   ·rw [if_pos h6]
    refine ah ?_
    (simp only [aC,aH];refine bf [0] rfl ⟨rfl,trivial⟩ rfl rfl rfl rfl ⟨amK,rfl⟩ ?_;try rfl)
   ·rw [if_neg (by rw [h6];exact Bool.false_ne_true)]
    refine ah ?_
    (simp only [aC,aH];refine bf [0] rfl ⟨rfl,trivial⟩ rfl rfl rfl rfl ⟨amK,rfl⟩ ?_;try rfl)
  ·cases h5
 ·rw [decide_eq_false h3] at d2
  refine ⟨g,_,hc2.mono (by omega),?_⟩
  refine aZ Tryz.func52 rfl Tryz.ntmps52 aQ (fun _ _=>by kernel_rfl) rfl rfl rfl ?_
  intro M0 w0 S φ0
  rw [Tryz.results52]
  refine ah ?_
  ((try refine Or.inl ?_);refine ⟨_,(hG),amF,?_⟩;refine amC ?_)
  refine ah ?_
  (refine .inr (.inr (jG [0] (d1) (by first | rfl | (simp only [xr,simprocAttr];done)) rfl rfl rfl ⟨rfl,trivial⟩ rfl rfl rfl rfl ?_));refine amC ?_)
  refine ah ?_
  refine aj amQ (fun h4 =>?_) (fun h4 =>?_)
  ·cases h4
  refine ah ?_
  (refine .inr (.inl (aJ [0] (d2) rfl rfl rfl rfl ⟨rfl,trivial⟩ rfl rfl rfl rfl ?_));refine amC ?_)
  refine ah ?_
  refine aj amQ (fun h5 =>?_) (fun h5 =>?_)
  ·cases h5
  refine ah ?_
  (simp only [aC,aH];refine bf [0] rfl ⟨rfl,trivial⟩ rfl rfl rfl rfl ⟨amK,rfl⟩ ?_;try rfl)
abbrev csG:List Int:=[0,0,1,2,-1,3]
abbrev nsG:List Int:=[2,2,3,1]
abbrev ksG:List Int:=[1,2,2,3]
def rgV (n:Nat) (c:Cu):List Int:=if (!iY n (amL csG n c))=true then (amL csG n c).set (pkV n (vI csG n c)).toNat 0 else amL csG n c
def rgC (n:Nat) (c:Cu):Cu:=if (!iY n (amL csG n c))=true then pkC n (vI csG n c) else vI csG n c
theorem ZX {n:Nat} {m:Int} {c:Cu} (h:bn m c):bn (m+(2*n+2)) (rgC n c):=by
 unfold rgC
 split
 ·exact (aV (qm h n)).mono (by omega)
 ·exact (qm h n).mono (by omega)
def rqC (n:Nat):Nat->Cu->Cu
 | 0,c=>c
 | k+1,c=>rgC n (rqC n k c)
def rqV (n:Nat):Nat->Cu->List (List Int)
 | 0,_=>[]
 | k+1,c=>rqV n k c++[rgV n (rqC n k c)]
theorem IZ (n:Nat) (c:Cu):∀ k,(rqV n k c).length=k
 | 0=>rfl
 | k+1=>by simp [rqV,IZ n c k]
theorem IY {n:Nat} {m:Int} {c:Cu} (h:bn m c):∀ k:Nat,bn (m+(2*n+2)*k) (rqC n k c)
 | 0=>h.mono (by omega)
 | k+1=>by
  have h1:=ZX (n:=n) (IY (n:=n) h k)
  exact h1.mono (by rw [Int.natCast_add,Int.natCast_one,Int.mul_add,Int.mul_one];omega)
abbrev H8 (m s:List (List Int)) (x:Int):AV := .tup [.agg [.b (.sl (.ii m)),.b (.sl (.ii s))],.one (.b (.val (.int .i64 x)))]
set_option maxHeartbeats 2000000 in
theorem ZE {c:Cu} (hc:bn 999999980000 c) (h8:pkV 8 c=0):∃ m s x c',m.length<=5/\s.length<=16/\(∀ m0,bn m0 c->bn (m0+90) c')/\bP Tryz.prog 50 [.lf (.ptr 0 0)] [true] [eu c] (H8 m s x) [eu c']:=by
 have d1:=sS (n:=8) (c:=c) (hc.mono (by omega))
 rw [h8] at d1
 have hc1:=aV (n:=8) hc
 obtain ⟨m,s,c2,a1,a2,a3,b2,d2⟩:=Sr (c:=pkC 8 c) (hc1.mono (by omega))
 have hc2:=b2 _ hc1
 obtain ⟨x,c3,b3,d3⟩:=LP (m:=m) (s:=s) (c:=c2) (hc2.mono (by omega))
 refine ⟨m,s,x,c3,a1,a2,fun m0 h=>(b3 _ (b2 _ (aV h))).mono (by omega),?_⟩
 refine aZ Tryz.func50 rfl Tryz.ntmps50 aQ (fun _ _=>by kernel_rfl) rfl rfl rfl ?_
 intro M0 w0 S φ0
 rw [Tryz.results50]
 refine ah ?_
 (refine .inr (.inl (aJ [0] (d1) rfl rfl rfl rfl ⟨rfl,trivial⟩ rfl rfl rfl rfl ?_));refine amC ?_)
 refine ah ?_
 refine aj amQ (fun hb =>?_) (fun hb =>?_)
 ·refine ah ?_
  (refine .inr (.inl (aJ [0] (d2) rfl rfl rfl rfl ⟨rfl,trivial⟩ rfl rfl rfl rfl ?_));refine amC ?_)
  refine ah ?_
  (refine amB ?_;refine gq 0 [(3,[0]),(4,[1])] [0,1] [(1,[1]),(3,[1]),(4,[0])] ?_;refine xw ?_)
  ((first | refine .inr (.inr ⟨0,_,_,dh (d3) rfl rfl rfl rfl rfl rfl rfl,?_⟩) | refine .inr ⟨0,_,_,dh (d3) rfl rfl rfl rfl rfl rfl rfl,?_⟩ | refine ⟨0,_,_,dh (d3) rfl rfl rfl rfl rfl rfl rfl,?_⟩);refine zk ?_)
  refine ah ?_
  (simp only [aC,aH];refine qL (vs:=[_,_]) [0] rfl ⟨rfl,trivial⟩ rfl rfl rfl rfl ⟨⟨amK,rfl⟩,rfl,trivial⟩ ?_;try rfl)
 ·simp at hb
def dG (n:Nat) (d:Int):Int:=if n=3 then 1 else 1+d
set_option maxHeartbeats 2000000 in
theorem ZF {c:Cu} (hc:bn 999999980000 c) (h8:¬ pkV 8 c=0):∃ m s x c',m.length<=5/\s.length<=16/\(∀ m0,bn m0 c->bn (m0+90) c')/\bP Tryz.prog 50 [.lf (.ptr 0 0)] [true] [eu c] (H8 m s x) [eu c']:=by
 have d0:=sS (n:=8) (c:=c) (hc.mono (by omega))
 rw [decide_eq_false h8] at d0
 have hc0:=aV (n:=8) hc
 have b0:∀ m0,bn m0 c->bn (m0+2) (pkC 8 c):=fun _ h=>aV h
 generalize pkC 8 c=cc at hc0 b0 d0
 have hn:=lY (xs:=nsG) hc0 (by simp)
 obtain ⟨n,hnn,hn1,hn2⟩:∃ n:Nat,amV nsG cc=n/\1<=n/\n<=3:=by
  simp only [List.mem_cons,List.not_mem_nil,or_false] at hn
  rcases hn with h | h | h | h
  ·exact ⟨2,h,by omega,by omega⟩
  ·exact ⟨2,h,by omega,by omega⟩
  ·exact ⟨3,h,by omega,by omega⟩
  ·exact ⟨1,h,by omega,by omega⟩
 have hc1:=dZ (xs:=nsG) hc0
 have d1:=dF (xs:=nsG) (c:=cc) (hc0.mono (by omega)) (by simp)
 rw [hnn] at d1
 have b1:∀ m0,bn m0 c->bn (m0+4) (aqC nsG cc):=fun m0 h=>(dZ (b0 m0 h)).mono (by omega)
 generalize aqC nsG cc=c1 at hc1 d1 b1
 have hd:=fP 3 hc1
 have hd2:=hd.2 (by omega)
 have hc2:=aV (n:=3) hc1
 have d2:=iy (n:=3) (c:=c1) (hc1.mono (by omega))
 have b2:∀ m0,bn m0 c->bn (m0+6) (pkC 3 c1):=fun m0 h=>(aV (b1 m0 h)).mono (by omega)
 generalize pkC 3 c1=c2 at hc2 d2 b2
 generalize pkV 3 c1=dd at hd hd2 d2
 have hdg:dG n dd=if n=3 then 1 else 1+dd:=rfl
 have hr:=lY (xs:=ksG) hc2 (by simp)
 obtain ⟨R,hR,hR1,hR2⟩:∃ R:Nat,amV ksG c2=R/\1<=R/\R<=3:=by
  simp only [List.mem_cons,List.not_mem_nil,or_false] at hr
  rcases hr with h | h | h | h
  ·exact ⟨1,h,by omega,by omega⟩
  ·exact ⟨2,h,by omega,by omega⟩
  ·exact ⟨2,h,by omega,by omega⟩
  ·exact ⟨3,h,by omega,by omega⟩
 have d4:=dF (xs:=ksG) (c:=c2) (hc2.mono (by omega)) (by simp)
 rw [hR] at d4
 have hc4:=dZ (xs:=ksG) hc2
 have b4:∀ m0,bn m0 c->bn (m0+8) (aqC ksG c2):=fun m0 h=>(dZ (b2 m0 h)).mono (by omega)
 generalize aqC ksG c2=c4 at hc4 b4 d4
 have hkb0:(2*(n:Int)+2)*(R:Int)<=24:=by
  have h1:(2*n+2)*R<=8*3:=Nat.mul_le_mul (by omega) (by omega)
  have h2:(((2*n+2)*R:Nat):Int)<=24:=by omega
  simpa using h2
 have hk0:bn 999999981000 (rqC n R c4):=(IY (n:=n) hc4 R).mono (by omega)
 obtain ⟨x,c5,b5,d5⟩:=LP (m:=rE n (dG n dd) n) (s:=rqV n R c4) (c:=rqC n R c4) (hk0.mono (by omega))
 refine ⟨rE n (dG n dd) n,rqV n R c4,x,c5,by rw [y5];omega,by rw [IZ];omega,fun m0 h=>(b5 _ (IY (n:=n) (b4 m0 h) R)).mono (by omega),?_⟩
 refine aZ Tryz.func50 rfl Tryz.ntmps50 aQ (fun _ _=>by kernel_rfl) rfl rfl rfl ?_
 intro M0 w0 S φ0
 rw [Tryz.results50]
 refine ah ?_
 (refine .inr (.inl (aJ [0] (d0) rfl rfl rfl rfl ⟨rfl,trivial⟩ rfl rfl rfl rfl ?_));refine amC ?_)
 refine ah ?_
 refine aj amQ (fun hb =>?_) (fun hb =>?_)
 ·simp at hb
 refine ah ?_
 (refine .inr (.inl (aJ [0] (d1) rfl rfl rfl rfl ⟨rfl,trivial⟩ rfl rfl rfl rfl ?_));refine amC ?_)
 refine ah ?_
 (refine .inr (.inl (aJ [0] (d2) rfl rfl rfl rfl ⟨rfl,trivial⟩ rfl rfl rfl rfl ?_));refine amC ?_)
 refine ah ?_
 refine Bf [(6,true,.int (dG n dd))] [0,2,5] [eu c2,.box [.b (.val (.slice none 0 0)),.b (.val (.slice none 0 0))]] ?_ ?_
 ·refine aj amQ (fun h =>?_) (fun h =>?_)
  ·have h:=of_decide_eq_true h
   rw [show dG n dd=1 by unfold dG;rw [if_pos (by omega)]]
   refine ah ?_
   refine .inl ?_
   exact bW
  ·have h:=of_decide_eq_false h
   rw [show dG n dd=1+dd by unfold dG;rw [if_neg (by omega)]]
   refine ah ?_
   refine .inl ?_
   exact bW
 generalize dG n dd=dv at hdg d5
 simp only [xr,simprocAttr]
 refine ah ?_
 (refine .inr (.inl (aJ [] (nZ n dv (by omega)) rfl rfl rfl rfl trivial rfl rfl rfl rfl ?_));refine amC ?_)
 refine ah ?_
 (refine .inr (.inl (aJ [0] (d4) rfl rfl rfl rfl ⟨rfl,trivial⟩ rfl rfl rfl rfl ?_));refine amC ?_)
 refine ah ?_
 (refine kJ 3 1 26 (.ii []) rfl rfl rfl (by first | trivial | (intro _ h;cases h)) ?_;simp only [xr,simprocAttr])
 (refine tV 4 3 [] rfl rfl rfl ?_;simp only [xu,simprocAttr])
 refine aA (α:=Nat) (fun k=>[(8,true,.int ((R:Int)-(k:Int)))]) [0,2,5,7] (fun k=>[eu (rqC n k c4),.box [.b (.val (.slice none 0 0)),.b (.val (.slice none 0 0))],.tree [26,3] (.ii (rE n dv n)),.box [.own 2,.own 4],.tree [26,3] (.ii (rqV n k c4))]) (fun k=>k<=R) (fun k=>R-k) 0 (by exact bW) (Nat.zero_le _) fun k hk =>?_
 have hkl:=IZ n c4 k
 have hkc:=IY (n:=n) hc4 k
 have hkb:(2*(n:Int)+2)*(k:Int)<=24:=by
  have h1:(2*n+2)*k<=8*3:=Nat.mul_le_mul (by omega) (by omega)
  have h2:(((2*n+2)*k:Nat):Int)<=24:=by omega
  simpa using h2
 simp only [xr,simprocAttr]
 refine ah ?_
 refine aj amQ (fun hc7 =>?_) (fun hc7 =>?_)
 ·have hc7:=of_decide_eq_true hc7
  have hk':k<R:=by omega
  generalize hr0:rqC n k c4=r at hkc
  have hrc:bn 999999981000 r:=hkc.mono (by omega)
  refine ah ?_
  refine aA (α:=Nat) (fun j=>[(10,true,.int j)]) [0,2,5,7,8,9] (fun j=>[eu (vI csG j r),.box [.b (.val (.slice none 0 0)),.b (.val (.slice none 0 0))],.tree [26,3] (.ii (rE n dv n)),.box [.own 2,.own 4],.tree [26,3] (.ii (rqV n k c4)),.row 3 (.ints (amL csG j r))]) (fun j=>j<=n) (fun j=>n-j) 0 (by exact bW) (Nat.zero_le _) fun j hj =>?_
  have hjl:=wZ csG r j
  have hjc:=qm (xs:=csG) hrc j
  simp only [xr,simprocAttr]
  refine ah ?_
  refine aj amQ (fun hc8 =>?_) (fun hc8 =>?_)
  ·have hc8:=of_decide_eq_true hc8
   refine ah ?_
   (refine .inr (.inl (aJ [0] (dF (xs:=csG) (hjc.mono (by omega)) (by simp)) rfl rfl rfl rfl ⟨rfl,trivial⟩ rfl rfl rfl rfl ?_));refine amC ?_)
   refine ah ?_
   refine ⟨j+1,by omega,by omega,.inr ⟨6,Nat.le_of_ble_eq_true rfl,aT ?_ rfl rfl rfl⟩⟩
   exact dw (rfl)
  ·have hc8:=of_decide_eq_false hc8
   obtain rfl:j=n:=by omega
   refine ah ?_
   ((try refine Or.inl ?_);refine ⟨_,(su j _ (by omega)),.inl rfl,?_⟩;refine amC ?_)
   have fin:∀ v c',rgV j r=v->rgC j r=c'->rqV j (k+1) c4=rqV j k c4++[v]/\rqC j (k+1) c4=c':=fun v c' h1 h2=>by subst h1 h2;simp [rqV,rqC,hr0]
   refine ah ?_
   refine aj amQ (fun hB =>?_) (fun hB =>?_)
   ·obtain ⟨f1,f2⟩:=fin _ _ (if_pos hB) (if_pos hB)
    obtain ⟨q1,q2⟩:=fP j hjc
    have q2:=q2 (by omega)
    refine ah ?_
    (refine .inr (.inl (aJ [0] (iy (n:=j) (hjc.mono (by omega))) rfl rfl rfl rfl ⟨rfl,trivial⟩ rfl rfl rfl rfl ?_));refine amC ?_)
    refine ah ?_
    refine ⟨k+1,by omega,by omega,.inr ⟨5,Nat.le_of_ble_eq_true rfl,aT ?_ rfl rfl rfl⟩⟩
    exact dw (by rw [f1,f2];rfl)
   ·obtain ⟨f1,f2⟩:=fin _ _ (if_neg (by rw [hB];simp)) (if_neg (by rw [hB];simp))
    refine ah ?_
    refine ⟨k+1,by omega,by omega,.inr ⟨5,Nat.le_of_ble_eq_true rfl,aT ?_ rfl rfl rfl⟩⟩
    exact dw (by rw [f1,f2];rfl)
 ·have hc7:=of_decide_eq_false hc7
  obtain rfl:k=R:=by omega
  (refine dQ 2 rfl ?_;simp only [xz,simprocAttr])
  (refine dQ 4 rfl ?_;simp only [xz,simprocAttr])
  refine ah ?_
  (refine amB ?_;refine gq 0 [(3,[0]),(4,[1])] [0,1] [(1,[1]),(3,[1]),(4,[0])] ?_;refine xw ?_)
  ((first | refine .inr (.inr ⟨0,_,_,dh (d5) rfl rfl rfl rfl rfl rfl rfl,?_⟩) | refine .inr ⟨0,_,_,dh (d5) rfl rfl rfl rfl rfl rfl rfl,?_⟩ | refine ⟨0,_,_,dh (d5) rfl rfl rfl rfl rfl rfl rfl,?_⟩);refine zk ?_)
  refine ah ?_
  (simp only [aC,aH];refine qL (vs:=[_,_]) [0] rfl ⟨rfl,trivial⟩ rfl rfl rfl rfl ⟨⟨amK,rfl⟩,rfl,trivial⟩ ?_;try rfl)
theorem UM {c:Cu} (hc:bn 999999980000 c):∃ m s x c',m.length<=5/\s.length<=16/\(∀ m0,bn m0 c->bn (m0+90) c')/\bP Tryz.prog 50 [.lf (.ptr 0 0)] [true] [eu c] (H8 m s x) [eu c']:=by
 by_cases h:pkV 8 c=0
 ·exact ZE hc h
 ·exact ZF hc h
end Go.Proofs.YtnblieajjclipaaGreat
