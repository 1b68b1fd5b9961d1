/- The least credit: the reference's FindCredit on the machine. Conditions: none. -/
import Derived.Test.YtkcelmnbfbehbaaGreatCdD
import Derived.Test.YtkcelmnbfbehbaaGreatZZDrA
set_option linter.all false
namespace Go.Proofs.YtkcelmnbfbehbaaGreat
open Go Go.RowKit Am
theorem Vw {m s:List (List Int)} {g:GmT} (hf:bf m s g) (b:Bool) {num den:Int} (hn:0<=num/\num<=1000000) (hd:0<=den/\den<=1000000) {L:List Int} (hL:LcL s g num den L) :
  bJ Tryz.prog 48 [gA g b,frA (den,num)] [] [] (.lf (.own 0)) [.row 3 (.ints L)]:=by
 have hB:=jX hf hn hd
 have hle:=hf.le
 have hLb:∀ i,i<g.list.length->0<=L.getD i 0/\L.getD i 0<=60*119000000:=fun i hi=>Eh hB (by omega) hL hi
 have h0:zy g L (List.replicate g.list.length 0):=⟨by simp,fun v hv=>by simp [hv],fun v hv=>by simp [hv];exact (hLb v hv).1⟩
 refine aU Tryz.func48 rfl Tryz.ntmps48 aP (fun _ _=>by kernel_rfl) rfl rfl rfl ?_
 intro M0 w0 S φ0
 rw [Tryz.results48]
 refine ah ?_
 refine aA (α:=List Int) (fun _=>[]) [2,3,5] (fun a=>[.box [.b (.sl (.k 2 g.list)),.b (.sl (.kii 4 (ch4 g.ch))),.b (.val (.bool b))],.box [.b (.val (.int .i64 den)),.b (.val (.int .i64 num))],.row 3 (.ints a)]) (fun a=>zy g L a/\∀ i,i<g.list.length->a.getD i 0<=(riT s g num den a).getD i 0) (fun a=>(sAI (fun u=>L.getD u 0) g.list.length-sAI (fun u=>a.getD u 0) g.list.length).toNat) (List.replicate g.list.length 0) (by exact bZ) ⟨h0,fun i hi=>by rw [wU hi];simp [hi];exact (Aq _ _ _ _ _).1⟩ fun tab ha =>?_
 obtain ⟨ho,hup⟩:=ha
 have hnx:=adg hB hL ho
 have hup2:=WR hB hup
 have hs1:=yN ho
 have hs2:=yN hnx
 have hr:=WS hf b hn hd tab ho.len (fun i hi=>by have:=ho.ge i hi;have:=ho.le i hi;have:=(hLb i hi).2;omega)
 have hrl:=hnx.len
 have htl:=ho.len
 generalize hN:riT s g num den tab=nx at hnx hup hup2 hs2 hr hrl
 simp only [xr,simprocAttr]
 refine ah ?_
 (refine .inr (.inl (fC (hr) rfl rfl rfl rfl rfl rfl rfl ?_));refine amC ?_)
 refine ah ?_
 ((try refine Or.inl ?_);refine ⟨_,(KQ nx tab),.inl rfl,?_⟩;refine amC ?_)
 refine ah ?_
 refine aj amQ (fun hc =>?_) (fun hc =>?_)
 ·have hc:=of_decide_eq_true hc
  have:=WQ hB hL ho (hN.trans hc)
  subst this
  refine ah ?_
  (simp only [aB,aH];refine aW [2] rfl ⟨rfl,trivial⟩ rfl rfl rfl rfl rfl ?_;try rfl)
 ·have hc:=of_decide_eq_false hc
  have hlt:sAI (fun u=>tab.getD u 0) g.list.length<sAI (fun u=>nx.getD u 0) g.list.length:=by
   refine lQ _ hup (Classical.byContradiction fun hx=>hc (qh (by omega) fun v hv =>?_))
   have h1:¬ tab.getD v 0<nx.getD v 0:=fun h=>hx ⟨v,by omega,h⟩
   have h2:=hup v (by omega)
   omega
  (refine aN 2 rfl ?_;simp only [xz,simprocAttr])
  (refine lF 2 3 rfl rfl (by decide) rfl rfl ?_;simp only [xm,simprocAttr])
  refine ah ?_
  refine ⟨nx,hnx,hup2,by omega,.inr ⟨3,Nat.le_of_ble_eq_true rfl,aS ?_ rfl rfl rfl⟩⟩
  exact bZ
theorem jL (m s:List (List Int)) (x:Int) (a:Int×Int):Does Tryz.prog 13 [prA m s,.int x,frA a] (.imm (.tup [.one (.b (.sl (.ints (if fcB m s x a=true then fcW m s x a else [])))),.one (.b (.val (.bool (fcB m s x a))))])):=by
 have bad:∀ {L:List Int} {v:Bool},fcB m s x a=false->L=[]->v=false->AV.tup [.one (.b (.sl (.ints L))),.one (.b (.val (.bool v)))]=AV.tup [.one (.b (.sl (.ints (if fcB m s x a=true then fcW m s x a else [])))),.one (.b (.val (.bool (fcB m s x a))))]:=fun h e1 e2=>by
  rw [h,e1,e2]
  rfl
 refine aF Tryz.func13 rfl Tryz.ntmps13 aP (fun _ _=>by kernel_rfl) rfl (Nat.le_of_ble_eq_true rfl) ?_
 intro M0 w0
 rw [Tryz.results13]
 refine ah ?_
 cases hq:(gmQ m s x).2
 ·have ht:=iJ hq
  have hf:=dS hq
  obtain ⟨t,hx⟩:=acX hq
  ((try refine Or.inl ?_);refine ⟨_,(gG ht),amF,?_⟩;refine amC ?_)
  rw [hq]
  refine ah ?_
  have hR:=zX a
  cases hr:iD a
  ·have hb:fcB m s x a=false:=by unfold fcB okB;rw [hr,Bool.and_false];rfl
   rw [hr] at hR
   ((try refine Or.inl ?_);refine ⟨_,(hR),.inl rfl,?_⟩;refine amC ?_)
   refine ⟨.bool false,.inl rfl,.bool false,⟨_,rfl,.inl rfl⟩,?_⟩
   simp only [xr,simprocAttr]
   refine amS ?_
   refine ah ?_
   refine aj amQ (fun hc =>?_) (fun hc =>?_)
   ·refine jd ?_
    (refine aN 3 rfl ?_;simp only [xz,simprocAttr])
    refine ah ?_
    (simp only [xe,simprocAttr];refine ⟨[_,_],⟨rfl,rfl,trivial⟩,rfl,Imp.eq ?_⟩)
    exact bad hb rfl rfl
   ·cases hc
  ·rw [hr] at hR
   have hok:∀ h:(!bif decide (1000<a.1) then true else decide (100<a.2))=true,TB m s x a:=fun h=>by
    have h:¬ ((bif decide (1000<a.1) then true else decide (100<a.2))=true):=fun e=>by rw [e] at h;cases h
    rw [Ik] at h
    exact PV hq hr (fun e=>h (.inl e)) (fun e=>h (.inr e))
   ((try refine Or.inl ?_);refine ⟨_,(hR),.inl rfl,?_⟩;refine amC ?_)
   ((try refine Or.inl ?_);refine ⟨_,(fun _=>Ce a),.inl rfl,?_⟩;refine amC ?_)
   ((try refine Or.inl ?_);refine ⟨_,(fun h=>IB hx false (num:=a.1) (den:=a.2) (by have:=(hok h).n;omega) (by have:=(hok h).d;omega) (B:=crE m s x a) BX),.inl rfl,?_⟩;refine amC ?_)
   have e:fcB m s x a = !(bif (bif decide (1000<a.1) then true else decide (100<a.2)) then true else !crE m s x a):=by
    unfold fcB okB
    rw [hq,hr]
    cases decide (1000<a.1)<;>cases decide (100<a.2)<;>cases crE m s x a<;>rfl
   refine ah ?_
   refine aj amQ (fun hw =>?_) (fun hw =>?_)
   ·have hb:fcB m s x a=false:=by rw [e,hw];rfl
    refine jd ?_
    (refine aN 3 rfl ?_;simp only [xz,simprocAttr])
    refine ah ?_
    (simp only [xe,simprocAttr];refine ⟨[_,_],⟨rfl,rfl,trivial⟩,rfl,Imp.eq ?_⟩)
    exact bad hb rfl rfl
   ·have hb:fcB m s x a=true:=by rw [e,hw];rfl
    have hk:=(zL hb).1
    have hn:=hk.n
    have hd:=hk.d
    have hl:Does Tryz.prog 48 [gA (gmQ m s x).1 false,frA (a.2,a.1)] (.imm (.sl (.ints (fcW m s x a)))):=pq (Vw hf false (num:=a.1) (den:=a.2) (by omega) (by omega) (Gm hb))
    refine ah ?_
    ((try refine Or.inl ?_);refine ⟨_,(Ce a),.inl rfl,?_⟩;refine amC ?_)
    ((try refine Or.inl ?_);refine ⟨_,(hl),amF,?_⟩;refine amC ?_)
    refine ah ?_
    (simp only [xe,simprocAttr];refine ⟨[_,_],⟨rfl,rfl,trivial⟩,rfl,Imp.eq ?_⟩)
    rw [hb,if_pos rfl]
 ·have hb:fcB m s x a=false:=by unfold fcB okB;rw [hq];rfl
  cases ht:bH m s x []
  ·((try refine Or.inl ?_);refine ⟨_,(nK ht),amF,?_⟩;refine amC ?_)
   refine ah ?_
   refine ⟨.bool false,.inl rfl,?_⟩
   simp only [xr,simprocAttr]
   refine amS ?_
   refine ⟨.bool false,.inl rfl,.bool false,⟨_,rfl,.inl rfl⟩,?_⟩
   simp only [xr,simprocAttr]
   refine amS ?_
   refine ah ?_
   refine aj amQ (fun hc =>?_) (fun hc =>?_)
   ·refine jd ?_
    (refine aN 3 rfl ?_;simp only [xz,simprocAttr])
    refine ah ?_
    (simp only [xe,simprocAttr];refine ⟨[_,_],⟨rfl,rfl,trivial⟩,rfl,Imp.eq ?_⟩)
    exact bad hb rfl rfl
   ·cases hc
  ·((try refine Or.inl ?_);refine ⟨_,(gG ht),amF,?_⟩;refine amC ?_)
   rw [hq]
   refine ah ?_
   refine ⟨.bool false,.inl rfl,?_⟩
   simp only [xr,simprocAttr]
   refine amS ?_
   refine ⟨.bool false,.inl rfl,.bool false,⟨_,rfl,.inl rfl⟩,?_⟩
   simp only [xr,simprocAttr]
   refine amS ?_
   refine ah ?_
   refine aj amQ (fun hc =>?_) (fun hc =>?_)
   ·refine jd ?_
    (refine aN 3 rfl ?_;simp only [xz,simprocAttr])
    refine ah ?_
    (simp only [xe,simprocAttr];refine ⟨[_,_],⟨rfl,rfl,trivial⟩,rfl,Imp.eq ?_⟩)
    exact bad hb rfl rfl
   ·cases hc
def BQ (A:List (List (List Int))):Nat->Cu->Cu
 | 0,c=>c
 | r+1,c=>pkC (A.getD r []).length (BQ A r c)
def stR (A:List (List (List Int))):Nat->Cu->List Int
 | 0,_=>[]
 | r+1,c=>stR A r c++[((A.getD r []).getD (pkV (A.getD r []).length (BQ A r c)).toNat []).getD 0 0]
theorem Jp (A:List (List (List Int))) (c:Cu):∀ r,(stR A r c).length=r
 | 0=>rfl
 | r+1=>by simp [stR,Jp A c r]
theorem Jo {A:List (List (List Int))} {m0:Int} {c:Cu} (h:aX m0 c):∀ r:Nat,aX (m0+2*r) (BQ A r c)
 | 0=>h.mono (by omega)
 | r+1=>(aV (Jo h r)).mono (by omega)
def Fp (G:List (List (List (List Int)))):Nat->Cu->Cu
 | 0,c=>c
 | i+1,c=>BQ (G.getD i []) (G.getD i []).length (Fp G i c)
def stO (G:List (List (List (List Int)))):Nat->Cu->List (List Int)
 | 0,_=>[]
 | i+1,c=>stO G i c++[stR (G.getD i []) (G.getD i []).length (Fp G i c)]
theorem QX (G:List (List (List (List Int)))) (c:Cu):∀ i,(stO G i c).length=i
 | 0=>rfl
 | i+1=>by simp [stO,QX G c i]
theorem QW {G:List (List (List (List Int)))} {m0:Int} {c:Cu} {K:Nat} (hG:∀ i,i<G.length->(G.getD i []).length=K) (h:aX m0 c):∀ i:Nat,i<=G.length->aX (m0+2*K*i) (Fp G i c)
 | 0,_=>h.mono (by omega)
 | i+1,hi=>by
  have h1:=Jo (A:=G.getD i []) (QW hG h i (by omega)) (G.getD i []).length
  refine h1.mono ?_
  rw [hG i (by omega),Int.natCast_add,Int.mul_add]
  simp
  omega
theorem QY {G:List (List (List (List Int)))} {c:Cu} {K:Nat} (hG:∀ i,i<G.length->(G.getD i []).length=K):∀ i,i<=G.length->∀ r∈stO G i c,r.length=K
 | 0,_=>by simp [stO]
 | i+1,hi=>fun r hr=>by
  simp only [stO,List.mem_append,List.mem_singleton] at hr
  rcases hr with hr | rfl
  ·exact QY hG i (by omega) r hr
  ·rw [Jp,hG i (by omega)]
abbrev stF (tag:Int) (k n:Nat) (o:List (List Int)) (c:Cu):List (List Int)×Cu :=
 if tag=0 then (o.set k ((o.getD k []).set 0 (amV [-1,0,n] c)),aqC [-1,0,n] c)
 else if tag=1 then (o.set k (o.getD k []++[0]),c)
 else if tag=2 then ((o.take o.length).drop 1,c)
 else (o,c)
theorem YM {m s:List (List Int)} (hp:bg m s=true) {r:Nat} (hr:r<s.length):0<(srv s m.length r).length:=by
 obtain ⟨y,hy,h1⟩:=EL hp hr
 unfold srv
 rw [List.length_map]
 exact List.length_pos_of_mem (List.mem_filter.2 ⟨List.mem_range.2 hy,decide_eq_true h1⟩)
set_option maxRecDepth 8000 in
set_option maxHeartbeats 4000000 in
theorem OL {m s:List (List Int)} {x:Int} {c:Cu} {L:List (List Int)} {G:List (List (List (List Int)))} (hm:m.length<=5) (hs:1<=s.length/\s.length<=4) (hle:L.length<=60) (hpos:0<L.length) (hGl:G.length=L.length) (hGK:∀ i,i<G.length->(G.getD i []).length=s.length) (hGr:∀ i r,i<G.length->r<s.length->0<((G.getD i []).getD r []).length)
  (hG:Does Tryz.prog 38 [prA m s,.int x] (.imm (.tup [.agg [.b (.sl (.k 2 L)),.b (.sl (.kii 4 G)),.b (.val (.bool false))],.one (.b (.val (.bool true)))]))) (hc:aX 2000 c):∃ q c',aX 5000 c'/\bJ Tryz.prog 50 [.lf (.ptr 0 0),prA m s,.int x] [true] [eY c] (.sl (.ii q)) [eY c']:=by
 have hoK:∀ i:Nat,i<=G.length->aX 2500 (Fp G i c):=fun i hi=>(QW hGK hc i hi).mono (by
  have h1:s.length*i<=4*60:=Nat.mul_le_mul hs.2 (by omega)
  have h2:2*(s.length:Int)*(i:Int)=2*((s.length*i:Nat):Int):=by rw [Int.natCast_mul,Int.mul_assoc]
  omega)
 have hol:=QX G c
 have hor:=QY (c:=c) hGK
 have hcE:=hoK G.length (Nat.le_refl _)
 have d5:=fJ (n:=(G.length:Int)) (c:=Fp G G.length c) (hcE.mono (by omega))
 obtain ⟨q1,q2⟩:=fK (G.length:Int) hcE
 have q2:=q2 (by omega)
 have hc6:=aV (n:=(G.length:Int)) hcE
 obtain ⟨k,hk⟩:∃ k:Nat,pkV (G.length:Int) (Fp G G.length c)=k:=⟨(pkV (G.length:Int) (Fp G G.length c)).toNat,by omega⟩
 rw [hk] at d5 q2
 generalize pkC (G.length:Int) (Fp G G.length c)=c6 at d5 hc6
 have d6:=fJ (n:=24) (c:=c6) (hc6.mono (by omega))
 have hc7:=aV (n:=24) hc6
 generalize pkV 24 c6=tg at d6
 generalize pkC 24 c6=c7 at d6 hc7
 have d7:=dn (xs:=[-1,0,m.length]) (c:=c7) (hc7.mono (by omega)) (by simp)
 have hc8:=dX (xs:=[-1,0,m.length]) hc7
 have hkl:k<G.length:=by omega
 refine ⟨(stF tg k m.length (stO G G.length c) c7).1,(stF tg k m.length (stO G G.length c) c7).2,?_,?_⟩
 ·unfold stF
  repeat' split
  ·exact hc8.mono (by omega)
  all_goals exact hc7.mono (by omega)
 refine aU Tryz.func50 rfl Tryz.ntmps50 aP (fun _ _=>by kernel_rfl) rfl rfl rfl ?_
 intro M0 w0 S φ0
 rw [Tryz.results50]
 refine ah ?_
 ((try refine Or.inl ?_);refine ⟨_,(hG),amF,?_⟩;refine amC ?_)
 refine ah ?_
 refine aj amQ (fun e =>?_) (fun e =>?_)
 ·cases e
 refine ah ?_
 (refine qJ 2 3 [] rfl rfl rfl ?_;simp only [xu,simprocAttr])
 refine aA (α:=Nat) (fun i=>[(10,true,.int i)]) [0,4,7,8] (fun i=>[eY (Fp G i c),.box [.b (.sl (.ii m)),.b (.sl (.ii s))],.tree [29,3] (.ii (stO G i c)),.box [.b (.sl (.k 2 L)),.b (.sl (.kii 4 G)),.b (.val (.bool false))]]) (fun i=>i<=G.length) (fun i=>G.length-i) 0 (by exact bZ) (Nat.zero_le _) fun i hi =>?_
 have hli:=hol i
 have hci:=hoK i hi
 generalize hr0:Fp G i c=r at hci
 simp only [xr,simprocAttr]
 refine ah ?_
 refine aj amQ (fun h1 =>?_) (fun h1 =>?_)
 ·have h1:=of_decide_eq_true h1
  have hi':i<G.length:=by omega
  have hK:=hGK i hi'
  have hR:=fun r=>hGr i r hi'
  obtain ⟨A,hA⟩:∃ A,A=G.getD i []:=⟨_,rfl⟩
  rw [← hA] at hK hR
  refine ah ?_
  refine aA (α:=Nat) (fun j=>[(12,true,.int j)]) [0,4,7,8,10,11] (fun j=>[eY (BQ A j r),.box [.b (.sl (.ii m)),.b (.sl (.ii s))],.tree [29,3] (.ii (stO G i c)),.box [.b (.sl (.k 2 L)),.b (.sl (.kii 4 G)),.b (.val (.bool false))],.row 3 (.ints (stR A j r))]) (fun j=>j<=A.length) (fun j=>A.length-j) 0 (by exact bZ) (Nat.zero_le _) fun j hj =>?_
  have hlj:=Jp A r j
  have hcj:=Jo (A:=A) hci j
  simp only [xr,simprocAttr]
  refine ah ?_
  rw [← hA]
  refine aj amQ (fun h2 =>?_) (fun h2 =>?_)
  ·have h2:=of_decide_eq_true h2
   have hj':j<A.length:=by omega
   have hn:=hR j (by omega)
   obtain ⟨p1,p2⟩:=fK ((A.getD j []).length:Int) hcj
   have p2:=p2 (by omega)
   have d4:=fJ (n:=((A.getD j []).length:Int)) (c:=BQ A j r) (hcj.mono (by omega))
   have hn1:stR A (j+1) r=stR A j r++[((A.getD j []).getD (pkV (A.getD j []).length (BQ A j r)).toNat []).getD 0 0]:=rfl
   have hn2:BQ A (j+1) r=pkC (A.getD j []).length (BQ A j r):=rfl
   generalize pkV ((A.getD j []).length:Int) (BQ A j r)=pv at *
   generalize pkC ((A.getD j []).length:Int) (BQ A j r)=pc at *
   subst hA
   (refine amB ?_;refine mM 1 [(19,[0]),(24,[5,4])] [0,4,5] [(19,[4,5]),(24,[0]),(25,[0,4])] [(19,0,eY pc,.int pv)] ?_;refine Rw ?_)
   (refine ⟨eX (d4) rfl rfl rfl rfl rfl rfl rfl,?_⟩;refine MH ?_)
   (refine lF 4 5 rfl rfl (by decide) rfl rfl ?_;simp only [xm,simprocAttr])
   refine ah ?_
   refine ⟨j+1,by omega,by omega,.inr ⟨5,Nat.le_of_ble_eq_true rfl,aS ?_ rfl rfl rfl⟩⟩
   exact bV (by rw [hn1,hn2]<;>rfl)
  ·have h2:=of_decide_eq_false h2
   obtain rfl:j=A.length:=by omega
   refine ah ?_
   refine ⟨i+1,by omega,by omega,.inr ⟨4,Nat.le_of_ble_eq_true rfl,aS ?_ rfl rfl rfl⟩⟩
   have n1:stO G (i+1) c=stO G i c++[stR A A.length r]:=by rw [← hr0,hA];rfl
   have n2:Fp G (i+1) c=BQ A A.length r:=by rw [← hr0,hA];rfl
   exact bV (by rw [n1,n2]<;>rfl)
 ·have h1:=of_decide_eq_false h1
  obtain rfl:i=G.length:=by omega
  rw [← hr0]
  have hr1:((stO G G.length c).getD k []).length=s.length:=hor _ (Nat.le_refl _) _ (by rw [getD_in (by omega)];exact List.getElem_mem _)
  generalize stO G G.length c=O at *
  refine ah ?_
  rw [hli]
  (refine .inr (.inl (aJ [0] (d5) rfl rfl rfl rfl ⟨rfl,trivial⟩ rfl rfl rfl rfl ?_));refine amC ?_)
  refine ah ?_
  (refine .inr (.inl (aJ [0] (d6) rfl rfl rfl rfl ⟨rfl,trivial⟩ rfl rfl rfl rfl ?_));refine amC ?_)
  refine ah ?_
  by_cases t0:tg=0
  ·rw [show stF tg k m.length O c7=(O.set k ((O.getD k []).set 0 (amV [-1,0,m.length] c7)),aqC [-1,0,m.length] c7) from if_pos t0]
   refine aj amQ (fun e3 =>?_) (fun e3 =>?_)
   ·(refine kJ 2 (k) rfl amT ?_;simp only [xr,simprocAttr])
    (refine amB ?_;refine gu 0 [(9,[0]),(11,[4])] [0,4] [(9,[4]),(10,[0]),(11,[0])] ?_;refine xO ?_)
    ((first | refine .inr (.inr ⟨0,_,_,eX (d7) rfl rfl rfl rfl rfl rfl rfl,?_⟩) | refine .inr ⟨0,_,_,eX (d7) rfl rfl rfl rfl rfl rfl rfl,?_⟩ | refine ⟨0,_,_,eX (d7) rfl rfl rfl rfl rfl rfl rfl,?_⟩);refine zB ?_)
    (refine uz 2 rfl (by decide) rfl rfl amT rfl ?_;simp only [xu,simprocAttr])
    (refine dQ 2 rfl ?_;simp only [xz,simprocAttr])
    refine ah ?_
    (simp only [aB,aH];refine aW [0] rfl ⟨rfl,trivial⟩ rfl rfl rfl rfl rfl ?_;try rfl)
   ·simp [t0] at e3
  refine aj amQ (fun e3 =>?_) (fun e3 =>?_)
  ·exact (t0 (of_decide_eq_true e3)).elim
  refine ah ?_
  by_cases t1:tg=1
  ·rw [show stF tg k m.length O c7=(O.set k (O.getD k []++[0]),c7) from (if_neg t0).trans (if_pos t1)]
   refine aj amQ (fun e4 =>?_) (fun e4 =>?_)
   ·(refine kJ 2 (k) rfl amT ?_;simp only [xr,simprocAttr])
    refine Ru ?_
    (refine dQ 2 rfl ?_;simp only [xz,simprocAttr])
    refine ah ?_
    (simp only [aB,aH];refine aW [0] rfl ⟨rfl,trivial⟩ rfl rfl rfl rfl rfl ?_;try rfl)
   ·simp [t1] at e4
  refine aj amQ (fun e4 =>?_) (fun e4 =>?_)
  ·exact (t1 (of_decide_eq_true e4)).elim
  refine ah ?_
  by_cases t2:tg=2
  ·rw [show stF tg k m.length O c7=((O.take O.length).drop 1,c7) from (if_neg t0).trans ((if_neg t1).trans (if_pos t2))]
   refine aj amQ (fun e5 =>?_) (fun e5 =>?_)
   ·(refine dQ 2 rfl ?_;simp only [xz,simprocAttr])
    refine ah ?_
    (simp only [aB,aH];refine aW [0] rfl ⟨rfl,trivial⟩ rfl rfl rfl rfl rfl ?_;try rfl)
   ·simp [t2] at e5
  rw [show stF tg k m.length O c7=(O,c7) from (if_neg t0).trans ((if_neg t1).trans (if_neg t2))]
  refine aj amQ (fun e5 =>?_) (fun e5 =>?_)
  ·exact (t2 (of_decide_eq_true e5)).elim
  (refine dQ 2 rfl ?_;simp only [xz,simprocAttr])
  refine ah ?_
  (simp only [aB,aH];refine aW [0] rfl ⟨rfl,trivial⟩ rfl rfl rfl rfl rfl ?_;try rfl)
theorem OJ {m s:List (List Int)} {x:Int} {c:Cu} (hc:aX 2000 c):∃ q c',aX 5000 c'/\bJ Tryz.prog 50 [.lf (.ptr 0 0),prA m s,.int x] [true] [eY c] (.sl (.ii q)) [eY c']:=by
 cases hq:(gmQ m s x).2
 ·have hf:=dS hq
  have hcl:=hf.clen
  have hp:=bC hf.prob
  have hGt:=gG (iJ hq)
  rw [hq] at hGt
  have hGl:(ch4 (gmQ m s x).1.ch).length=(gmQ m s x).1.ch.length:=by simp [ch4]
  refine OL (by omega) ⟨hp.2.2.1,hp.2.2.2⟩ hf.le hf.pos (hGl.trans hcl) (fun i hi =>?_) (fun i r hi hr =>?_) hGt hc
  ·rw [jV (by omega),List.length_map]
   exact hf.c.len i (by omega)
  ·have h1:=hf.c.row i r (by omega) hr
   have h2:=YM hf.prob hr
   rw [← h1.st,List.length_map] at h2
   rw [lV (by omega) (by rw [hf.c.len i (by omega)];exact hr),List.length_map]
   exact h2
 ·refine ⟨[],c,hc.mono (by omega),?_⟩
  cases ht:bH m s x []
  ·skip
   refine aU Tryz.func50 rfl Tryz.ntmps50 aP (fun _ _=>by kernel_rfl) rfl rfl rfl ?_
   intro M0 w0 S φ0
   rw [Tryz.results50]
   refine ah ?_
   ((try refine Or.inl ?_);refine ⟨_,(nK ht),amF,?_⟩;refine amC ?_)
   refine ah ?_
   refine aj amQ (fun e =>?_) (fun e =>?_)
   ·(refine aN 2 rfl ?_;simp only [xz,simprocAttr])
    refine ah ?_
    (simp only [aB,aH];refine aW [0] rfl ⟨rfl,trivial⟩ rfl rfl rfl rfl rfl ?_;try rfl)
   ·cases e
  ·have hG:=gG ht
   rw [hq] at hG
   refine aU Tryz.func50 rfl Tryz.ntmps50 aP (fun _ _=>by kernel_rfl) rfl rfl rfl ?_
   intro M0 w0 S φ0
   rw [Tryz.results50]
   refine ah ?_
   ((try refine Or.inl ?_);refine ⟨_,(hG),amF,?_⟩;refine amC ?_)
   refine ah ?_
   refine aj amQ (fun e =>?_) (fun e =>?_)
   ·(refine aN 2 rfl ?_;simp only [xz,simprocAttr])
    refine ah ?_
    (simp only [aB,aH];refine aW [0] rfl ⟨rfl,trivial⟩ rfl rfl rfl rfl rfl ?_;try rfl)
   ·cases e
abbrev cdR (m s:List (List Int)) (x:Int) (a:Int×Int) (W:List Int):AV := .tup [.agg [.b (.sl (.ii m)),.b (.sl (.ii s))],.one (.b (.val (.int .i64 x))),frT a,.one (.b (.sl (.ints W)))]
abbrev srR (m s:List (List Int)) (x:Int) (q:List (List Int)) (rs:List Int):AV := .tup [.agg [.b (.sl (.ii m)),.b (.sl (.ii s))],.one (.b (.val (.int .i64 x))),.one (.b (.sl (.ii q))),.one (.b (.sl (.ints rs)))]
theorem RQ {bs:List Int} (hb:∀ b∈bs,0<=b/\b<256):∃ m s x q rs,Does Tryz.prog 16 [.lf (.b (.raw bs))] (.imm (srR m s x q rs)):=by
 have hc:aX 0 (bs,0,0):=⟨hb,Int.le_refl _,Int.le_refl _⟩
 obtain ⟨m,s,x,c1,a1,a2,b1,d1⟩:=U7 (c:=(bs,0,0)) (hc.mono (by omega))
 have hc1:aX 2000 c1:=(b1 _ hc).mono (by omega)
 obtain ⟨q,c2,hc2,d2⟩:=OJ (m:=m) (s:=s) (x:=x) hc1
 obtain ⟨rs,c3,a3,b3,d3⟩:=YD (m:=m) (s:=s) (c:=c2) (by omega) (hc2.mono (by omega))
 refine ⟨m,s,x,q,rs,?_⟩
 refine aF Tryz.func16 rfl Tryz.ntmps16 aP (fun _ _=>by kernel_rfl) rfl (Nat.le_of_ble_eq_true rfl) ?_
 intro M0 w0
 rw [Tryz.results16]
 refine ah ?_
 (refine .inr (.inl (aJ [1] (d1) rfl rfl rfl rfl ⟨rfl,trivial⟩ rfl rfl rfl rfl ?_));refine amC ?_)
 refine ah ?_
 (refine .inr (.inl (aJ [1] (d2) rfl rfl rfl rfl ⟨rfl,trivial⟩ rfl rfl rfl rfl ?_));refine amC ?_)
 refine ah ?_
 (refine amB ?_;refine mM 0 [(5,[1]),(6,[0])] [0,1] [(5,[0]),(6,[1])] [(5,1,eY c3,.sl (.ints rs))] ?_;refine Rw ?_)
 (refine ⟨eX (d3) rfl rfl rfl rfl rfl rfl rfl,?_⟩;refine MH ?_)
 refine ah ?_
 (simp only [xec,simprocAttr];refine ⟨[_,_,_,_],⟨⟨amK,rfl⟩,rfl,rfl,rfl,trivial⟩,rfl,Imp.eq ?_⟩)
 rfl
set_option maxHeartbeats 2000000 in
theorem Ir {bs:List Int} (hb:∀ b∈bs,0<=b/\b<256):∃ m s x a W,Does Tryz.prog 6 [.lf (.b (.raw bs))] (.imm (cdR m s x a W)):=by
 have hc:aX 0 (bs,0,0):=⟨hb,Int.le_refl _,Int.le_refl _⟩
 obtain ⟨m,s,x,c1,a1,a2,b1,d1⟩:=U7 (c:=(bs,0,0)) (hc.mono (by omega))
 have hc1:aX 40000 c1:=(b1 _ hc).mono (by omega)
 obtain ⟨a,c2,hc2,d2⟩:=SS (m:=m) (s:=s) (x:=x) hc1
 have hF:=jL m s x a
 cases hf:fcB m s x a
 ·rw [hf] at hF
  obtain ⟨V,c3,v1,v2,hc3,d3⟩:=Xg (m:=m) (s:=s) (x:=x) hc2
  obtain ⟨W,c4,d4⟩:=Bq (V:=V) (c:=c3) (by omega) (fun k=>by have:=v2 k;omega) (hc3.mono (by omega))
  refine ⟨m,s,x,a,W,?_⟩
  refine aF Tryz.func6 rfl Tryz.ntmps6 aP (fun _ _=>by kernel_rfl) rfl (Nat.le_of_ble_eq_true rfl) ?_
  intro M0 w0
  rw [Tryz.results6]
  refine ah ?_
  (refine .inr (.inl (aJ [2] (d1) rfl rfl rfl rfl ⟨rfl,trivial⟩ rfl rfl rfl rfl ?_));refine amC ?_)
  refine ah ?_
  (refine .inr (.inl (aJ [2] (d2) rfl rfl rfl rfl ⟨rfl,trivial⟩ rfl rfl rfl rfl ?_));refine amC ?_)
  refine ah ?_
  ((try refine Or.inl ?_);refine ⟨_,(hF),amF,?_⟩;refine amC ?_)
  refine ah ?_
  refine aj amQ (fun e =>?_) (fun e =>?_)
  ·refine ah ?_
   (refine .inr (.inl (aJ [2] (d3) rfl rfl rfl rfl ⟨rfl,trivial⟩ rfl rfl rfl rfl ?_));refine amC ?_)
   refine ah ?_
   (refine amB ?_;refine mM 0 [(5,[2]),(6,[0]),(8,[1])] [0,1,2] [(5,[0,1]),(6,[1,2]),(8,[0,2])] [(5,2,eY c4,.sl (.ints W))] ?_;refine Rw ?_)
   (refine ⟨eX (d4) rfl rfl rfl rfl rfl rfl rfl,?_⟩;refine MH ?_)
   refine ah ?_
   (simp only [xec,simprocAttr];refine ⟨[_,_,_,_],⟨⟨amK,rfl⟩,rfl,⟨amK,rfl⟩,rfl,trivial⟩,rfl,Imp.eq ?_⟩)
   rfl
  ·cases e
 ·rw [hf,if_pos rfl] at hF
  have hL:=Gm hf
  have hok:=(zL hf).1
  have hn:=hok.n
  have hd:=hok.d
  have hle:=hok.full.le
  have hB:=jX hok.full (num:=a.1) (den:=a.2) (by omega) (by omega)
  obtain ⟨W,c4,d4⟩:=Bq (V:=fcW m s x a) (c:=c2) (by rw [hL.len];omega) (fun k=>by
   by_cases hk:k<(gmQ m s x).1.list.length
   ·have:=Eh hB (by decide) hL hk
    omega
   ·rw [List.getD_eq_getElem?_getD,List.getElem?_eq_none (by rw [hL.len];omega)]
    simp) (hc2.mono (by omega))
  refine ⟨m,s,x,a,W,?_⟩
  generalize fcW m s x a=F at *
  refine aF Tryz.func6 rfl Tryz.ntmps6 aP (fun _ _=>by kernel_rfl) rfl (Nat.le_of_ble_eq_true rfl) ?_
  intro M0 w0
  rw [Tryz.results6]
  refine ah ?_
  (refine .inr (.inl (aJ [2] (d1) rfl rfl rfl rfl ⟨rfl,trivial⟩ rfl rfl rfl rfl ?_));refine amC ?_)
  refine ah ?_
  (refine .inr (.inl (aJ [2] (d2) rfl rfl rfl rfl ⟨rfl,trivial⟩ rfl rfl rfl rfl ?_));refine amC ?_)
  refine ah ?_
  ((try refine Or.inl ?_);refine ⟨_,(hF),amF,?_⟩;refine amC ?_)
  refine ah ?_
  refine aj amQ (fun e =>?_) (fun e =>?_)
  ·cases e
  (refine amB ?_;refine mM 0 [(5,[2]),(6,[0]),(8,[1])] [0,1,2] [(5,[0,1]),(6,[1,2]),(8,[0,2])] [(5,2,eY c4,.sl (.ints W))] ?_;refine Rw ?_)
  (refine ⟨eX (d4) rfl rfl rfl rfl rfl rfl rfl,?_⟩;refine MH ?_)
  refine ah ?_
  (simp only [xec,simprocAttr];refine ⟨[_,_,_,_],⟨⟨amK,rfl⟩,rfl,⟨amK,rfl⟩,rfl,trivial⟩,rfl,Imp.eq ?_⟩)
  rfl
theorem Dp (xs:List (List Int)):Does Tryz.prog 11 [.sl (.ii xs),.sl (.ii xs)] (.imm (.bool true)):=by
 refine aF Tryz.func11 rfl Tryz.ntmps11 aP (fun _ _=>by kernel_rfl) rfl (Nat.le_of_ble_eq_true rfl) ?_
 intro M0 w0
 rw [Tryz.results11]
 (refine dB 0 rfl fun hf =>?_;simp only [xp,simprocAttr] at hf;simp only [xf,simprocAttr] at hf)
 refine ah ?_
 refine aj amQ (fun hc =>?_) (fun hc =>?_)
 ·simp at hc
 refine ah ?_
 refine aA (α:=Nat) (fun k=>[(5,true,.int k)]) [0,1] (fun _=>[]) (fun k=>k<=xs.length) (fun k=>xs.length-k) 0 (by exact bY) (Nat.zero_le _) fun k hk =>?_
 simp only [xr,simprocAttr]
 refine ah ?_
 refine aj amQ (fun hd =>?_) (fun hd =>?_)
 ·have hd:=of_decide_eq_true hd
  have hk':k<xs.length:=by omega
  refine ah ?_
  ((try refine Or.inl ?_);refine ⟨_,(uT _),.inl rfl,?_⟩;refine amC ?_)
  refine ah ?_
  refine aj amQ (fun he =>?_) (fun he =>?_)
  ·simp at he
  ·refine ah ?_
   refine ⟨k+1,by omega,by omega,.inl ?_⟩
   exact bY
 ·refine ah ?_
  refine bI ?_
  rfl
theorem JY:Does Tryz.prog 11 [.val (.slice none 0 0),.sl (.ii [])] (.imm (.bool true)) :=
 Does.args (Dp []) fun M us ha=>by
  obtain ⟨u,us',rfl,h1,h2⟩:=dZ ha
  exact mJ (VX (c := .ii []) rfl trivial h1) h2
theorem BU:Does Tryz.prog 14 [.val (.slice none 0 0),.sl (.ints [])] (.imm (.bool true)) :=
 Does.args (uT []) fun M us ha=>by
  obtain ⟨u,us',rfl,h1,h2⟩:=dZ ha
  exact mJ (VX (c := .ints []) rfl trivial h1) h2
theorem nI (m s:List (List Int)) (x:Int) (q:List (List Int)) (rs:List Int) (hb:srB m s x q rs=true):Does Tryz.prog 17 [prA m s,.int x,.sl (.ii q),.sl (.ints rs)] (.imm (.tup [.one (.b (.sl (.ints (vK m s x q rs)))),.one (.b (.val (.int .i64 (rQ m s x q rs)))),bT true])):=pq (wI m s x q rs hb)
theorem Tt {bs:List Int} (h:65536<(bs.length:Int)):Does Tryz.prog 3 [.lf (.b (.raw bs))] (.imm (.bool true)):=by
 refine aF Tryz.func3 rfl Tryz.ntmps3 aP (fun _ _=>by kernel_rfl) rfl (Nat.le_of_ble_eq_true rfl) ?_
 intro M0 w0
 rw [Tryz.results3]
 refine ah ?_
 ((try refine Or.inl ?_);refine ⟨_,(EP bs),.inl rfl,?_⟩;refine amC ?_)
 refine ah ?_
 refine aj amQ (fun h0 =>?_) (fun h0 =>?_)
 ·refine ah ?_
  refine bI ?_
  rfl
 ·simp at h0;omega
theorem Xo {bs:List Int} {m s:List (List Int)} {x:Int} {a:Int×Int} {tab:List Int} (hsm:¬ 65536<(bs.length:Int)) (hD:Does Tryz.prog 6 [.lf (.b (.raw bs))] (.imm (cdR m s x a tab))) (hb:jC m s x a tab=false):Does Tryz.prog 3 [.lf (.b (.raw bs))] (.imm (.bool true)):=by
 have hI:=jo m s x a tab
 have hI2:=rP m s x a tab
 have hC:=rX m s x a tab hb
 have hC2:=jR m s x a tab
 rw [hb] at hI hI2 hC2
 have hF2:=jL m s x a
 cases hf:fcB m s x a
 ·rw [hf] at hF2
  have hF:=oG m s x a hf
  refine aF Tryz.func3 rfl Tryz.ntmps3 aP (fun _ _=>by kernel_rfl) rfl (Nat.le_of_ble_eq_true rfl) ?_
  intro M0 w0
  rw [Tryz.results3]
  refine ah ?_
  ((try refine Or.inl ?_);refine ⟨_,(EP bs),.inl rfl,?_⟩;refine amC ?_)
  refine ah ?_
  refine aj amQ (fun h0 =>?_) (fun h0 =>?_)
  ·simp at h0;omega
  refine ah ?_
  ((try refine Or.inl ?_);refine ⟨_,(hD),amF,?_⟩;refine amC ?_)
  refine ah ?_
  ((try refine Or.inl ?_);refine ⟨_,(hI),.inl rfl,?_⟩;refine amC ?_)
  refine ah ?_
  ((try refine Or.inl ?_);refine ⟨_,(hI2),.inl rfl,?_⟩;refine amC ?_)
  refine ah ?_
  refine aj amQ (fun h1 =>?_) (fun h1 =>?_)
  ·simp at h1
  refine ah ?_
  ((try refine Or.inl ?_);refine ⟨_,(hC),amF,?_⟩;refine amC ?_)
  refine ah ?_
  ((try refine Or.inl ?_);refine ⟨_,(hC2),amF,?_⟩;refine amC ?_)
  refine ah ?_
  ((try refine Or.inl ?_);refine ⟨_,(fun _=>JY),.inl rfl,?_⟩;refine amC ?_)
  refine ah ?_
  refine aj amQ (fun h2 =>?_) (fun h2 =>?_)
  ·simp at h2
  refine ah ?_
  ((try refine Or.inl ?_);refine ⟨_,(hF),.inl rfl,?_⟩;refine amC ?_)
  refine ah ?_
  ((try refine Or.inl ?_);refine ⟨_,(hF2),amF,?_⟩;refine amC ?_)
  refine ah ?_
  ((try refine Or.inl ?_);refine ⟨_,(fun _=>BU),.inl rfl,?_⟩;refine amC ?_)
  refine ah ?_
  refine aj amQ (fun h3 =>?_) (fun h3 =>?_)
  ·simp at h3
  refine ah ?_
  refine aj amQ (fun h4 =>?_) (fun h4 =>?_)
  ·cases h4
  refine ah ?_
  refine aj amQ (fun h6 =>?_) (fun h6 =>?_)
  ·refine ah ?_
   refine bI ?_
   rfl
  ·cases h6
 ·rw [hf,if_pos rfl] at hF2
  have hF:=oH m s x a hf
  have hG:=jo m s x a (fcW m s x a)
  rw [(Cb hf).1,(Cb hf).2] at hG
  generalize fcW m s x a=F at *
  refine aF Tryz.func3 rfl Tryz.ntmps3 aP (fun _ _=>by kernel_rfl) rfl (Nat.le_of_ble_eq_true rfl) ?_
  intro M0 w0
  rw [Tryz.results3]
  refine ah ?_
  ((try refine Or.inl ?_);refine ⟨_,(EP bs),.inl rfl,?_⟩;refine amC ?_)
  refine ah ?_
  refine aj amQ (fun h0 =>?_) (fun h0 =>?_)
  ·simp at h0;omega
  refine ah ?_
  ((try refine Or.inl ?_);refine ⟨_,(hD),amF,?_⟩;refine amC ?_)
  refine ah ?_
  ((try refine Or.inl ?_);refine ⟨_,(hI),.inl rfl,?_⟩;refine amC ?_)
  refine ah ?_
  ((try refine Or.inl ?_);refine ⟨_,(hI2),.inl rfl,?_⟩;refine amC ?_)
  refine ah ?_
  refine aj amQ (fun h1 =>?_) (fun h1 =>?_)
  ·simp at h1
  refine ah ?_
  ((try refine Or.inl ?_);refine ⟨_,(hC),amF,?_⟩;refine amC ?_)
  refine ah ?_
  ((try refine Or.inl ?_);refine ⟨_,(hC2),amF,?_⟩;refine amC ?_)
  refine ah ?_
  ((try refine Or.inl ?_);refine ⟨_,(fun _=>JY),.inl rfl,?_⟩;refine amC ?_)
  refine ah ?_
  refine aj amQ (fun h2 =>?_) (fun h2 =>?_)
  ·simp at h2
  refine ah ?_
  ((try refine Or.inl ?_);refine ⟨_,(hF),amF,?_⟩;refine amC ?_)
  refine ah ?_
  ((try refine Or.inl ?_);refine ⟨_,(hF2),amF,?_⟩;refine amC ?_)
  refine ah ?_
  ((try refine Or.inl ?_);refine ⟨_,(fun _=>uT F),.inl rfl,?_⟩;refine amC ?_)
  refine ah ?_
  refine aj amQ (fun h3 =>?_) (fun h3 =>?_)
  ·simp at h3
  refine ah ?_
  refine aj amQ (fun h4 =>?_) (fun h4 =>?_)
  ·refine ah ?_
   ((try refine Or.inl ?_);refine ⟨_,(hG),.inl rfl,?_⟩;refine amC ?_)
   refine ah ?_
   refine aj amQ (fun h5 =>?_) (fun h5 =>?_)
   ·simp at h5
   refine ah ?_
   refine aj amQ (fun h6 =>?_) (fun h6 =>?_)
   ·refine ah ?_
    refine bI ?_
    rfl
   ·cases h6
  ·cases h4
structure aeN (m s:List (List Int)) (x:Int) (a:Int×Int) (tab:List Int) (q:List (List Int)) (rs:List Int):Prop where
 t:bH m s x rs=true
 sch:Does Tryz.prog 19 [prA m s,.int x,.sl (.ints rs),.sl (.ints (vK m s x q rs))] (.imm (.tup [.one (.b (.val (.int .i64 (rQ m s x q rs)))),.one (.b (.val (.bool true)))]))
 bd:0<=rQ m s x q rs/\rQ m s x q rs<=7140
 lc:0<=lcV m s x rs/\lcV m s x rs<=10000
 le:a.2*rQ m s x q rs<=a.1*lcV m s x rs+tab.getD 0 0
theorem S9 {m s:List (List Int)} {x:Int} {a:Int×Int} {tab:List Int} (hb:jC m s x a tab=true) {rs:List Int} (h:srB m s x (csV m s x a tab) rs=true):aeN m s x a tab (csV m s x a tab) rs:=by
 obtain ⟨h1,h2,h3⟩:=uD hb
 obtain ⟨k1,k2,k3⟩:=OI h
 have ht:=iJ h1
 have hT:bH m s x rs=true:=by
  unfold bH at ht ⊢
  rw [Bool.and_eq_true] at ht ⊢
  exact ⟨ht.1,k3⟩
 obtain ⟨hp,⟨y,rfl,hy⟩,hq,hl⟩:=nZ hT
 have hf:=dS h1
 obtain ⟨k,e,hk,hx,h0⟩:=Y3 h1
 obtain rfl:y=k:=by omega
 have ho:(jm m s y).2=false:=by
  rw [Nw ht] at h1
  unfold gm at h1
  cases ho:(jm m s y).2
  ·rfl
  ·rw [ho] at h1
   cases h1
 have hw:=ZP hp hy ho
 have hst:=DF hf h3
 have hs0:dH (gmQ m s (y:Int)).1 0=y:=by unfold dH;rw [h0];rfl
 obtain ⟨e1,e2⟩:=QL hx hst rs 0 hf.pos hq
 rw [hs0] at e1
 have hsum:rQ m s (y:Int) (csV m s y a tab) rs=oq (gmQ m s (y:Int)).1 (csM (gmQ m s (y:Int)).1 a tab) 0 rs:=rfl
 have hsb:=CQ hf hst rs 0 hf.pos hq
 have hlc:lcV m s (y:Int) rs=I7 m s y rs:=by unfold lcV;rw [hT,Int.toNat_natCast];rfl
 have hog:=Wn hp hy hw.x_ hw.pos hw.fst hw.tab.gr (least_0 hp hy) hw.el hq (by omega)
 obtain ⟨r1,_,_,r4⟩:=Ut hx h0 hw h3 hq rs.length (Nat.le_refl _)
 rw [List.take_length] at r1 r4
 have htab:=(((zJ hf).1 h3).1.2 _ r1).1
 have hcb:=ZR hp hy hq hl
 refine ⟨hT,?_,?_,?_,?_⟩
 ·have:=OB hT (us:=vK m s (y:Int) (csV m s y a tab) rs) (by unfold vK;rw [yT]) e2
  rw [show su m s y rs (vK m s (y:Int) (csV m s y a tab) rs)=rQ m s (y:Int) (csV m s y a tab) rs from e1] at this
  exact this
 ·rw [hsum];omega
 ·rw [hlc];exact hcb
 ·rw [hlc,hog,hsum]
  omega
abbrev bxC (a:Int×Int):Ob := .box [.b (.val (.int .i64 a.1)),.b (.val (.int .i64 a.2))]
set_option maxRecDepth 20000 in
set_option maxHeartbeats 4000000 in
theorem Tv {bs:List Int} {m s m2 s2 q2:List (List Int)} {x x2:Int} {a:Int×Int} {tab rs:List Int} (hsm:¬ 65536<(bs.length:Int)) (hD:Does Tryz.prog 6 [.lf (.b (.raw bs))] (.imm (cdR m s x a tab))) (hE:Does Tryz.prog 16 [.lf (.b (.raw bs))] (.imm (srR m2 s2 x2 q2 rs))) (hb:jC m s x a tab=true):Does Tryz.prog 3 [.lf (.b (.raw bs))] (.imm (.bool true)):=by
 have hI:=jo m s x a tab
 have hI2:=rP m s x a tab
 have hC:=rZ m s x a tab hb
 have hC2:=jR m s x a tab
 obtain ⟨hq1,hq2,hq3⟩:=uD hb
 have hok:okB m s x a=true:=by unfold okB;rw [hq1,hq2];rfl
 rw [hb] at hI hI2 hC2
 rw [hok] at hI hI2
 rw [if_pos rfl] at hC2
 have hra:=ER hq2
 have hS:=yw m s x (csV m s x a tab)
 have hst:dU m s (gmQ m s x).1 (csV m s x a tab)=true:=DF (dS hq1) hq3
 rw [hq1,hst] at hS
 have hR2:=wZ m s x (csV m s x a tab) rs
 have hRF:=fun h=>S9 hb (rs:=rs) h
 have hLC:=zT m s x rs
 have htb:=(MX hb).1
 have hpos:=(dS hq1).pos
 have ht0:=htb.2 0 hpos
 have htl:0<tab.length:=by omega
 have hleast:=fun h=>UN hb h
 have hex:=fun h1 h2=>acW hb h1 h2
 have hF2:=jL m s x a
 generalize csV m s x a tab=q at *
 cases hf:fcB m s x a
 ·have hn:¬ (a.1<=1000/\a.2<=100):=fun h=>by rw [hex h.1 h.2] at hf;cases hf
  rw [hf] at hF2
  have hF:=oG m s x a hf
  refine aF Tryz.func3 rfl Tryz.ntmps3 aP (fun _ _=>by kernel_rfl) rfl (Nat.le_of_ble_eq_true rfl) ?_
  intro M0 w0
  rw [Tryz.results3]
  refine ah ?_
  ((try refine Or.inl ?_);refine ⟨_,(EP bs),.inl rfl,?_⟩;refine amC ?_)
  refine ah ?_
  refine aj amQ (fun h0 =>?_) (fun h0 =>?_)
  ·simp at h0;omega
  refine ah ?_
  ((try refine Or.inl ?_);refine ⟨_,(hD),amF,?_⟩;refine amC ?_)
  refine ah ?_
  ((try refine Or.inl ?_);refine ⟨_,(hI),.inl rfl,?_⟩;refine amC ?_)
  refine ah ?_
  ((try refine Or.inl ?_);refine ⟨_,(hI2),.inl rfl,?_⟩;refine amC ?_)
  refine ah ?_
  refine aj amQ (fun h1 =>?_) (fun h1 =>?_)
  ·simp at h1
  refine ah ?_
  ((try refine Or.inl ?_);refine ⟨_,(hC),amF,?_⟩;refine amC ?_)
  refine ah ?_
  ((try refine Or.inl ?_);refine ⟨_,(hC2),amF,?_⟩;refine amC ?_)
  refine ah ?_
  ((try refine Or.inl ?_);refine ⟨_,(fun _=>Dp q),.inl rfl,?_⟩;refine amC ?_)
  refine ah ?_
  refine aj amQ (fun h2 =>?_) (fun h2 =>?_)
  ·simp at h2
  refine ah ?_
  ((try refine Or.inl ?_);refine ⟨_,(hF),.inl rfl,?_⟩;refine amC ?_)
  refine ah ?_
  ((try refine Or.inl ?_);refine ⟨_,(hF2),amF,?_⟩;refine amC ?_)
  refine ah ?_
  ((try refine Or.inl ?_);refine ⟨_,(fun _=>BU),.inl rfl,?_⟩;refine amC ?_)
  refine ah ?_
  refine aj amQ (fun h3 =>?_) (fun h3 =>?_)
  ·simp at h3
  refine ah ?_
  refine aj amQ (fun h4 =>?_) (fun h4 =>?_)
  ·cases h4
  refine ah ?_
  refine aj amQ (fun h6 =>?_) (fun h6 =>?_)
  ·cases h6
  refine ah ?_
  refine BR [] [0,3,4,5,6,11] [.box [.b (.sl (.ii m)),.b (.sl (.ii s))],bxC a] ?_ ?_
  ·refine aj amQ (fun h10 =>?_) (fun h10 =>?_)
   ·cases h10
   refine ah ?_
   refine aj amQ (fun h11 =>?_) (fun h11 =>?_)
   ·exact (hn (by simpa using h11)).elim
   refine ah ?_
   refine .inl ?_
   exact bY
  simp only [xr,simprocAttr]
  refine ah ?_
  ((try refine Or.inl ?_);refine ⟨_,(hS),.inl rfl,?_⟩;refine amC ?_)
  refine ah ?_
  refine aj amQ (fun h7 =>?_) (fun h7 =>?_)
  ·simp at h7
  refine ah ?_
  ((try refine Or.inl ?_);refine ⟨_,(hE),amF,?_⟩;refine amC ?_)
  refine ah ?_
  cases hr:srB m s x q rs
  ·rw [hr] at hR2
   ((try refine Or.inl ?_);refine ⟨_,(nH m s x q rs hr),.inl rfl,?_⟩;refine amC ?_)
   refine ah ?_
   ((try refine Or.inl ?_);refine ⟨_,(hR2),amF,?_⟩;refine amC ?_)
   refine ah ?_
   ((try refine Or.inl ?_);refine ⟨_,(fun _=>BU),.inl rfl,?_⟩;refine amC ?_)
   refine ah ?_
   refine aj amQ (fun h8 =>?_) (fun h8 =>?_)
   ·simp at h8
   refine ah ?_
   refine aj amQ (fun h9 =>?_) (fun h9 =>?_)
   ·refine ah ?_
    refine bI ?_
    rfl
   ·cases h9
  ·rw [hr,if_pos rfl,if_pos rfl] at hR2
   obtain ⟨f1,f2,f3,f4,f5⟩:=hRF hr
   rw [f1] at hLC
   have hR:=nI m s x q rs hr
   generalize vK m s x q rs=us at *
   generalize rQ m s x q rs=S at *
   generalize lcV m s x rs=C at *
   have q1:=Int.mul_nonneg (show 0<=a.2 by omega) f3.1
   have q2:=Int.mul_le_mul (show a.2<=100000 by omega) f3.2 f3.1 (by decide)
   have q3:=Int.mul_nonneg (show 0<=a.1 by omega) f4.1
   have q4:=Int.mul_le_mul (show a.1<=100000000 by omega) f4.2 f4.1 (by decide)
   ((try refine Or.inl ?_);refine ⟨_,(hR),amF,?_⟩;refine amC ?_)
   refine ah ?_
   ((try refine Or.inl ?_);refine ⟨_,(hR2),amF,?_⟩;refine amC ?_)
   refine ah ?_
   ((try refine Or.inl ?_);refine ⟨_,(fun _=>uT us),.inl rfl,?_⟩;refine amC ?_)
   refine ah ?_
   refine aj amQ (fun h8 =>?_) (fun h8 =>?_)
   ·simp at h8
   refine ah ?_
   refine aj amQ (fun h9 =>?_) (fun h9 =>?_)
   ·cases h9
   refine ah ?_
   ((try refine Or.inl ?_);refine ⟨_,(f2),amF,?_⟩;refine amC ?_)
   refine ah ?_
   ((try refine Or.inl ?_);refine ⟨_,(hLC),.inl rfl,?_⟩;refine amC ?_)
   refine ah ?_
   refine bI ?_
   simp
   exact f5
 ·rw [hf,if_pos rfl] at hF2
  have hF:=oH m s x a hf
  have hG:=jo m s x a (fcW m s x a)
  rw [(Cb hf).1,(Cb hf).2] at hG
  obtain ⟨hl1,hl2⟩:=hleast hf
  have hFl:=X0 hf
  generalize fcW m s x a=F at *
  refine aF Tryz.func3 rfl Tryz.ntmps3 aP (fun _ _=>by kernel_rfl) rfl (Nat.le_of_ble_eq_true rfl) ?_
  intro M0 w0
  rw [Tryz.results3]
  refine ah ?_
  ((try refine Or.inl ?_);refine ⟨_,(EP bs),.inl rfl,?_⟩;refine amC ?_)
  refine ah ?_
  refine aj amQ (fun h0 =>?_) (fun h0 =>?_)
  ·simp at h0;omega
  refine ah ?_
  ((try refine Or.inl ?_);refine ⟨_,(hD),amF,?_⟩;refine amC ?_)
  refine ah ?_
  ((try refine Or.inl ?_);refine ⟨_,(hI),.inl rfl,?_⟩;refine amC ?_)
  refine ah ?_
  ((try refine Or.inl ?_);refine ⟨_,(hI2),.inl rfl,?_⟩;refine amC ?_)
  refine ah ?_
  refine aj amQ (fun h1 =>?_) (fun h1 =>?_)
  ·simp at h1
  refine ah ?_
  ((try refine Or.inl ?_);refine ⟨_,(hC),amF,?_⟩;refine amC ?_)
  refine ah ?_
  ((try refine Or.inl ?_);refine ⟨_,(hC2),amF,?_⟩;refine amC ?_)
  refine ah ?_
  ((try refine Or.inl ?_);refine ⟨_,(fun _=>Dp q),.inl rfl,?_⟩;refine amC ?_)
  refine ah ?_
  refine aj amQ (fun h2 =>?_) (fun h2 =>?_)
  ·simp at h2
  refine ah ?_
  ((try refine Or.inl ?_);refine ⟨_,(hF),amF,?_⟩;refine amC ?_)
  refine ah ?_
  ((try refine Or.inl ?_);refine ⟨_,(hF2),amF,?_⟩;refine amC ?_)
  refine ah ?_
  ((try refine Or.inl ?_);refine ⟨_,(fun _=>uT F),.inl rfl,?_⟩;refine amC ?_)
  refine ah ?_
  refine aj amQ (fun h3 =>?_) (fun h3 =>?_)
  ·simp at h3
  refine ah ?_
  refine aj amQ (fun h4 =>?_) (fun h4 =>?_)
  ·refine ah ?_
   ((try refine Or.inl ?_);refine ⟨_,(hG),.inl rfl,?_⟩;refine amC ?_)
   refine ah ?_
   refine aj amQ (fun h5 =>?_) (fun h5 =>?_)
   ·simp at h5
   refine ah ?_
   refine aj amQ (fun h6 =>?_) (fun h6 =>?_)
   ·cases h6
   refine ah ?_
   refine BR [] [0,3,4,5,6,11] [.box [.b (.sl (.ii m)),.b (.sl (.ii s))],bxC a] ?_ ?_
   ·refine aj amQ (fun h10 =>?_) (fun h10 =>?_)
    ·refine ah ?_
     refine aj amQ (fun h11 =>?_) (fun h11 =>?_)
     ·simp [hl1] at h11
     refine ah ?_
     refine aA (α:=Nat) (fun k=>[(21,true,.int k)]) [0,3,4,5,6,11,15] (fun _=>[.box [.b (.sl (.ii m)),.b (.sl (.ii s))],bxC a]) (fun k=>k<=F.length) (fun k=>F.length-k) 0 (by exact bY) (Nat.zero_le _) fun k hk =>?_
     simp only [xr,simprocAttr]
     refine ah ?_
     refine aj amQ (fun h12 =>?_) (fun h12 =>?_)
     ·have h12:=of_decide_eq_true h12
      have hk1:=hl2 k (by omega)
      refine ah ?_
      refine aj amQ (fun h13 =>?_) (fun h13 =>?_)
      ·have h13:=of_decide_eq_true h13
       omega
      refine ah ?_
      refine ⟨k+1,by omega,by omega,.inl ?_⟩
      exact bY
     ·refine ah ?_
      refine .inl ?_
      exact bY
    ·cases h10
   simp only [xr,simprocAttr]
   refine ah ?_
   ((try refine Or.inl ?_);refine ⟨_,(hS),.inl rfl,?_⟩;refine amC ?_)
   refine ah ?_
   refine aj amQ (fun h7 =>?_) (fun h7 =>?_)
   ·simp at h7
   refine ah ?_
   ((try refine Or.inl ?_);refine ⟨_,(hE),amF,?_⟩;refine amC ?_)
   refine ah ?_
   cases hr:srB m s x q rs
   ·rw [hr] at hR2
    ((try refine Or.inl ?_);refine ⟨_,(nH m s x q rs hr),.inl rfl,?_⟩;refine amC ?_)
    refine ah ?_
    ((try refine Or.inl ?_);refine ⟨_,(hR2),amF,?_⟩;refine amC ?_)
    refine ah ?_
    ((try refine Or.inl ?_);refine ⟨_,(fun _=>BU),.inl rfl,?_⟩;refine amC ?_)
    refine ah ?_
    refine aj amQ (fun h8 =>?_) (fun h8 =>?_)
    ·simp at h8
    refine ah ?_
    refine aj amQ (fun h9 =>?_) (fun h9 =>?_)
    ·refine ah ?_
     refine bI ?_
     rfl
    ·cases h9
   ·rw [hr,if_pos rfl,if_pos rfl] at hR2
    obtain ⟨f1,f2,f3,f4,f5⟩:=hRF hr
    rw [f1] at hLC
    have hR:=nI m s x q rs hr
    generalize vK m s x q rs=us at *
    generalize rQ m s x q rs=S at *
    generalize lcV m s x rs=C at *
    have q1:=Int.mul_nonneg (show 0<=a.2 by omega) f3.1
    have q2:=Int.mul_le_mul (show a.2<=100000 by omega) f3.2 f3.1 (by decide)
    have q3:=Int.mul_nonneg (show 0<=a.1 by omega) f4.1
    have q4:=Int.mul_le_mul (show a.1<=100000000 by omega) f4.2 f4.1 (by decide)
    ((try refine Or.inl ?_);refine ⟨_,(hR),amF,?_⟩;refine amC ?_)
    refine ah ?_
    ((try refine Or.inl ?_);refine ⟨_,(hR2),amF,?_⟩;refine amC ?_)
    refine ah ?_
    ((try refine Or.inl ?_);refine ⟨_,(fun _=>uT us),.inl rfl,?_⟩;refine amC ?_)
    refine ah ?_
    refine aj amQ (fun h8 =>?_) (fun h8 =>?_)
    ·simp at h8
    refine ah ?_
    refine aj amQ (fun h9 =>?_) (fun h9 =>?_)
    ·cases h9
    refine ah ?_
    ((try refine Or.inl ?_);refine ⟨_,(f2),amF,?_⟩;refine amC ?_)
    refine ah ?_
    ((try refine Or.inl ?_);refine ⟨_,(hLC),.inl rfl,?_⟩;refine amC ?_)
    refine ah ?_
    refine bI ?_
    simp
    exact f5
  ·cases h4
end Go.Proofs.YtkcelmnbfbehbaaGreat
