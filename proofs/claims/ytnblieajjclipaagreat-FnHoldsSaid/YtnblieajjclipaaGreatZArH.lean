/- The least credit: the reference's FindCredit on the machine. Conditions: none. -/
import Derived.Test.YtnblieajjclipaaGreatZDrG
set_option linter.all false
namespace Go.Proofs.YtnblieajjclipaaGreat
open Go Go.RowKit Am
def Bc (A:List (List (List Int))):Nat->Cu->Cu
 | 0,c=>c
 | r+1,c=>pkC (A.getD r []).length (Bc A r c)
def stR (A:List (List (List Int))):Nat->Cu->List Int
 | 0,_=>[]
 | r+1,c=>stR A r c++[((A.getD r []).getD (pkV (A.getD r []).length (Bc A r c)).toNat []).getD 0 0]
theorem Jc (A:List (List (List Int))) (c:Cu):∀ r,(stR A r c).length=r
 | 0=>rfl
 | r+1=>by simp [stR,Jc A c r]
theorem Jb {A:List (List (List Int))} {m0:Int} {c:Cu} (h:bn m0 c):∀ r:Nat,bn (m0+2*r) (Bc A r c)
 | 0=>h.mono (by omega)
 | r+1=>(aV (Jb h r)).mono (by omega)
def EL (G:List (List (List (List Int)))):Nat->Cu->Cu
 | 0,c=>c
 | i+1,c=>Bc (G.getD i []) (G.getD i []).length (EL G i c)
def stO (G:List (List (List (List Int)))):Nat->Cu->List (List Int)
 | 0,_=>[]
 | i+1,c=>stO G i c++[stR (G.getD i []) (G.getD i []).length (EL G i c)]
theorem QL (G:List (List (List (List Int)))) (c:Cu):∀ i,(stO G i c).length=i
 | 0=>rfl
 | i+1=>by simp [stO,QL G c i]
theorem QK {G:List (List (List (List Int)))} {m0:Int} {c:Cu} {K:Nat} (hG:∀ i,i<G.length->(G.getD i []).length=K) (h:bn m0 c):∀ i:Nat,i<=G.length->bn (m0+2*K*i) (EL G i c)
 | 0,_=>h.mono (by omega)
 | i+1,hi=>by
  have h1:=Jb (A:=G.getD i []) (QK hG h i (by omega)) (G.getD i []).length
  refine h1.mono ?_
  rw [hG i (by omega),Int.natCast_add,Int.mul_add]
  simp
  omega
theorem QM {G:List (List (List (List Int)))} {c:Cu} {K:Nat} (hG:∀ i,i<G.length->(G.getD i []).length=K):∀ i,i<=G.length->∀ r∈stO G i c,r.length=K
 | 0,_=>by simp [stO]
 | i+1,hi=>fun r hr=>by
  simp only [stO,List.mem_append,List.mem_singleton] at hr
  rcases hr with hr | rfl
  ·exact QM hG i (by omega) r hr
  ·rw [Jc,hG i (by omega)]
abbrev stF (tag:Int) (k n:Nat) (o:List (List Int)) (c:Cu):List (List Int)×Cu :=
 if tag=0 then (o.set k ((o.getD k []).set 0 (amV [-1,0,n] c)),aqC [-1,0,n] c)
 else if tag=1 then (o.set k (o.getD k []++[0]),c)
 else if tag=2 then ((o.take o.length).drop 1,c)
 else (o,c)
theorem YM {m s:List (List Int)} (hp:bg m s=true) {r:Nat} (hr:r<s.length):0<(srv s m.length r).length:=by
 obtain ⟨y,hy,h1⟩:=Ec hp hr
 unfold srv
 rw [List.length_map]
 exact List.length_pos_of_mem (List.mem_filter.2 ⟨List.mem_range.2 hy,decide_eq_true h1⟩)
set_option maxRecDepth 8000 in
set_option maxHeartbeats 4000000 in
theorem OB {m s:List (List Int)} {x:Int} {c:Cu} {L:List (List Int)} {G:List (List (List (List Int)))} (hm:m.length<=5) (hs:1<=s.length/\s.length<=4) (hle:L.length<=60) (hpos:0<L.length) (hGl:G.length=L.length) (hGK:∀ i,i<G.length->(G.getD i []).length=s.length) (hGr:∀ i r,i<G.length->r<s.length->0<((G.getD i []).getD r []).length)
  (hG:Does Tryz.prog 39 [prA m s,.int x] (.imm (.tup [.agg [.b (.sl (.k 2 L)),.b (.sl (.kii 4 G)),.b (.val (.bool false))],.one (.b (.val (.bool true)))]))) {M:Int} (hM:M<=900000000) (hc:bn M c):∃ q c',bn (M+600) c'/\bP Tryz.prog 61 [.lf (.ptr 0 0),prA m s,.int x] [true] [eu c] (.sl (.ii q)) [eu c']:=by
 have hoK:∀ i:Nat,i<=G.length->bn (M+500) (EL G i c):=fun i hi=>(QK hGK hc i hi).mono (by
  have h1:s.length*i<=4*60:=Nat.mul_le_mul hs.2 (by omega)
  have h2:2*(s.length:Int)*(i:Int)=2*((s.length*i:Nat):Int):=by rw [Int.natCast_mul,Int.mul_assoc]
  omega)
 have hol:=QL G c
 have hor:=QM (c:=c) hGK
 have hcE:=hoK G.length (Nat.le_refl _)
 have d5:=iy (n:=(G.length:Int)) (c:=EL G G.length c) (hcE.mono (by omega))
 obtain ⟨q1,q2⟩:=fP (G.length:Int) hcE
 have q2:=q2 (by omega)
 have hc6:=aV (n:=(G.length:Int)) hcE
 obtain ⟨k,hk⟩:∃ k:Nat,pkV (G.length:Int) (EL G G.length c)=k:=⟨(pkV (G.length:Int) (EL G G.length c)).toNat,by omega⟩
 rw [hk] at d5 q2
 generalize pkC (G.length:Int) (EL G G.length c)=c6 at d5 hc6
 have d6:=iy (n:=24) (c:=c6) (hc6.mono (by omega))
 have hc7:=aV (n:=24) hc6
 generalize pkV 24 c6=tg at d6
 generalize pkC 24 c6=c7 at d6 hc7
 have d7:=dF (xs:=[-1,0,m.length]) (c:=c7) (hc7.mono (by omega)) (by simp)
 have hc8:=dZ (xs:=[-1,0,m.length]) hc7
 have hkl:k<G.length:=by omega
 refine ⟨(stF tg k m.length (stO G G.length c) c7).1,(stF tg k m.length (stO G G.length c) c7).2,?_,?_⟩
 ·unfold stF
  repeat' split
  ·exact hc8.mono (by omega)
  all_goals exact hc7.mono (by omega)
 refine aZ Tryz.func61 rfl Tryz.ntmps61 aQ (fun _ _=>by kernel_rfl) rfl rfl rfl ?_
 intro M0 w0 S φ0
 rw [Tryz.results61]
 refine ah ?_
 ((try refine Or.inl ?_);refine ⟨_,(hG),amF,?_⟩;refine amC ?_)
 refine ah ?_
 refine aj amQ (fun e =>?_) (fun e =>?_)
 ·cases e
 refine ah ?_
 (refine tV 2 3 [] rfl rfl rfl ?_;simp only [xu,simprocAttr])
 refine aA (α:=Nat) (fun i=>[(10,true,.int i)]) [0,4,7,8] (fun i=>[eu (EL G i c),.box [.b (.sl (.ii m)),.b (.sl (.ii s))],.tree [26,3] (.ii (stO G i c)),.box [.b (.sl (.k 2 L)),.b (.sl (.kii 4 G)),.b (.val (.bool false))]]) (fun i=>i<=G.length) (fun i=>G.length-i) 0 (by exact dJ) (Nat.zero_le _) fun i hi =>?_
 have hli:=hol i
 have hci:=hoK i hi
 generalize hr0:EL G i c=r at hci
 simp only [xr,simprocAttr]
 refine ah ?_
 refine aj amQ (fun h1 =>?_) (fun h1 =>?_)
 ·have h1:=of_decide_eq_true h1
  have hi':i<G.length:=by omega
  have hK:=hGK i hi'
  have hR:=fun r=>hGr i r hi'
  obtain ⟨A,hA⟩:∃ A,A=G.getD i []:=⟨_,rfl⟩
  rw [← hA] at hK hR
  refine ah ?_
  refine aA (α:=Nat) (fun j=>[(12,true,.int j)]) [0,4,7,8,10,11] (fun j=>[eu (Bc A j r),.box [.b (.sl (.ii m)),.b (.sl (.ii s))],.tree [26,3] (.ii (stO G i c)),.box [.b (.sl (.k 2 L)),.b (.sl (.kii 4 G)),.b (.val (.bool false))],.row 3 (.ints (stR A j r))]) (fun j=>j<=A.length) (fun j=>A.length-j) 0 (by exact dJ) (Nat.zero_le _) fun j hj =>?_
  have hlj:=Jc A r j
  have hcj:=Jb (A:=A) hci j
  simp only [xr,simprocAttr]
  refine ah ?_
  rw [← hA]
  refine aj amQ (fun h2 =>?_) (fun h2 =>?_)
  ·have h2:=of_decide_eq_true h2
   have hj':j<A.length:=by omega
   have hn:=hR j (by omega)
   obtain ⟨p1,p2⟩:=fP ((A.getD j []).length:Int) hcj
   have p2:=p2 (by omega)
   have d4:=iy (n:=((A.getD j []).length:Int)) (c:=Bc A j r) (hcj.mono (by omega))
   have hn1:stR A (j+1) r=stR A j r++[((A.getD j []).getD (pkV (A.getD j []).length (Bc A j r)).toNat []).getD 0 0]:=rfl
   have hn2:Bc A (j+1) r=pkC (A.getD j []).length (Bc A j r):=rfl
   generalize pkV ((A.getD j []).length:Int) (Bc A j r)=pv at *
   generalize pkC ((A.getD j []).length:Int) (Bc A j r)=pc at *
   subst hA
   (refine amB ?_;refine jV 1 [(19,[0]),(24,[5,4])] [0,4,5] [(19,[4,5]),(24,[0]),(25,[0,4])] [(19,0,eu pc,.int pv)] ?_;refine Mc ?_)
   (refine ⟨dh (d4) rfl rfl rfl rfl rfl rfl rfl,?_⟩;refine xA ?_)
   (refine lH 4 5 rfl rfl (by decide) rfl rfl ?_;simp only [xm,simprocAttr])
   refine ah ?_
   refine ⟨j+1,by omega,by omega,.inr ⟨5,Nat.le_of_ble_eq_true rfl,aT ?_ rfl rfl rfl⟩⟩
   exact dw (by rw [hn1,hn2]<;>rfl)
  ·have h2:=of_decide_eq_false h2
   obtain rfl:j=A.length:=by omega
   refine ah ?_
   refine ⟨i+1,by omega,by omega,.inr ⟨4,Nat.le_of_ble_eq_true rfl,aT ?_ rfl rfl rfl⟩⟩
   have n1:stO G (i+1) c=stO G i c++[stR A A.length r]:=by rw [← hr0,hA];rfl
   have n2:EL G (i+1) c=Bc A A.length r:=by rw [← hr0,hA];rfl
   exact dw (by rw [n1,n2]<;>rfl)
 ·have h1:=of_decide_eq_false h1
  obtain rfl:i=G.length:=by omega
  rw [← hr0]
  have hr1:((stO G G.length c).getD k []).length=s.length:=hor _ (Nat.le_refl _) _ (by rw [getD_in (by omega)];exact List.getElem_mem _)
  generalize stO G G.length c=O at *
  refine ah ?_
  rw [hli]
  (refine .inr (.inl (aJ [0] (d5) rfl rfl rfl rfl ⟨rfl,trivial⟩ rfl rfl rfl rfl ?_));refine amC ?_)
  refine ah ?_
  (refine .inr (.inl (aJ [0] (d6) rfl rfl rfl rfl ⟨rfl,trivial⟩ rfl rfl rfl rfl ?_));refine amC ?_)
  refine ah ?_
  by_cases t0:tg=0
  ·rw [show stF tg k m.length O c7=(O.set k ((O.getD k []).set 0 (amV [-1,0,m.length] c7)),aqC [-1,0,m.length] c7) from if_pos t0]
   refine aj amQ (fun e3 =>?_) (fun e3 =>?_)
   ·(refine kH 2 (k) rfl amT ?_;simp only [xr,simprocAttr])
    (refine amB ?_;refine gq 0 [(9,[0]),(11,[4])] [0,4] [(9,[4]),(10,[0]),(11,[0])] ?_;refine xw ?_)
    ((first | refine .inr (.inr ⟨0,_,_,dh (d7) rfl rfl rfl rfl rfl rfl rfl,?_⟩) | refine .inr ⟨0,_,_,dh (d7) rfl rfl rfl rfl rfl rfl rfl,?_⟩ | refine ⟨0,_,_,dh (d7) rfl rfl rfl rfl rfl rfl rfl,?_⟩);refine zk ?_)
    (refine tX 2 rfl (by decide) rfl rfl amT rfl ?_;simp only [xu,simprocAttr])
    (refine dQ 2 rfl ?_;simp only [xz,simprocAttr])
    refine ah ?_
    (simp only [aC,aH];refine bf [0] rfl ⟨rfl,trivial⟩ rfl rfl rfl rfl rfl ?_;try rfl)
   ·simp [t0] at e3
  refine aj amQ (fun e3 =>?_) (fun e3 =>?_)
  ·exact (t0 (of_decide_eq_true e3)).elim
  refine ah ?_
  by_cases t1:tg=1
  ·rw [show stF tg k m.length O c7=(O.set k (O.getD k []++[0]),c7) from (if_neg t0).trans (if_pos t1)]
   refine aj amQ (fun e4 =>?_) (fun e4 =>?_)
   ·(refine kH 2 (k) rfl amT ?_;simp only [xr,simprocAttr])
    refine L9 ?_
    (refine dQ 2 rfl ?_;simp only [xz,simprocAttr])
    refine ah ?_
    (simp only [aC,aH];refine bf [0] rfl ⟨rfl,trivial⟩ rfl rfl rfl rfl rfl ?_;try rfl)
   ·simp [t1] at e4
  refine aj amQ (fun e4 =>?_) (fun e4 =>?_)
  ·exact (t1 (of_decide_eq_true e4)).elim
  refine ah ?_
  by_cases t2:tg=2
  ·rw [show stF tg k m.length O c7=((O.take O.length).drop 1,c7) from (if_neg t0).trans ((if_neg t1).trans (if_pos t2))]
   refine aj amQ (fun e5 =>?_) (fun e5 =>?_)
   ·(refine dQ 2 rfl ?_;simp only [xz,simprocAttr])
    refine ah ?_
    (simp only [aC,aH];refine bf [0] rfl ⟨rfl,trivial⟩ rfl rfl rfl rfl rfl ?_;try rfl)
   ·simp [t2] at e5
  rw [show stF tg k m.length O c7=(O,c7) from (if_neg t0).trans ((if_neg t1).trans (if_neg t2))]
  refine aj amQ (fun e5 =>?_) (fun e5 =>?_)
  ·exact (t2 (of_decide_eq_true e5)).elim
  (refine dQ 2 rfl ?_;simp only [xz,simprocAttr])
  refine ah ?_
  (simp only [aC,aH];refine bf [0] rfl ⟨rfl,trivial⟩ rfl rfl rfl rfl rfl ?_;try rfl)
theorem OA {m s:List (List Int)} {x:Int} {c:Cu} {M:Int} (hM:M<=900000000) (hc:bn M c):∃ q c',bn (M+600) c'/\bP Tryz.prog 61 [.lf (.ptr 0 0),prA m s,.int x] [true] [eu c] (.sl (.ii q)) [eu c']:=by
 cases hq:(gmQ m s x).2
 ·have hf:=fM hq
  have hcl:=hf.clen
  have hp:=bI hf.prob
  have hGt:=fC (gV hq)
  rw [hq] at hGt
  have hGl:(ch4 (gmQ m s x).1.ch).length=(gmQ m s x).1.ch.length:=by simp [ch4]
  refine OB (by omega) ⟨hp.2.2.1,hp.2.2.2⟩ hf.le hf.pos (hGl.trans hcl) (fun i hi =>?_) (fun i r hi hr =>?_) hGt hM hc
  ·rw [lJ (by omega),List.length_map]
   exact hf.c.len i (by omega)
  ·have h1:=hf.c.row i r (by omega) hr
   have h2:=YM hf.prob hr
   rw [← h1.st,List.length_map] at h2
   rw [lZ (by omega) (by rw [hf.c.len i (by omega)];exact hr),List.length_map]
   exact h2
 ·refine ⟨[],c,hc.mono (by omega),?_⟩
  cases ht:bH m s x []
  ·skip
   refine aZ Tryz.func61 rfl Tryz.ntmps61 aQ (fun _ _=>by kernel_rfl) rfl rfl rfl ?_
   intro M0 w0 S φ0
   rw [Tryz.results61]
   refine ah ?_
   ((try refine Or.inl ?_);refine ⟨_,(kY ht),amF,?_⟩;refine amC ?_)
   refine ah ?_
   refine aj amQ (fun e =>?_) (fun e =>?_)
   ·(refine aK 2 rfl ?_;simp only [xz,simprocAttr])
    refine ah ?_
    (simp only [aC,aH];refine bf [0] rfl ⟨rfl,trivial⟩ rfl rfl rfl rfl rfl ?_;try rfl)
   ·cases e
  ·have hG:=fC ht
   rw [hq] at hG
   refine aZ Tryz.func61 rfl Tryz.ntmps61 aQ (fun _ _=>by kernel_rfl) rfl rfl rfl ?_
   intro M0 w0 S φ0
   rw [Tryz.results61]
   refine ah ?_
   ((try refine Or.inl ?_);refine ⟨_,(hG),amF,?_⟩;refine amC ?_)
   refine ah ?_
   refine aj amQ (fun e =>?_) (fun e =>?_)
   ·(refine aK 2 rfl ?_;simp only [xz,simprocAttr])
    refine ah ?_
    (simp only [aC,aH];refine bf [0] rfl ⟨rfl,trivial⟩ rfl rfl rfl rfl rfl ?_;try rfl)
   ·cases e
end Go.Proofs.YtnblieajjclipaaGreat
