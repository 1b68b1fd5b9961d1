/- The reference's uniform tables and lines, and what its requests are, on the machine. Conditions: small numbers. -/
import Derived.Test.YtkcelmnbfbehbaaGreatZZDivi
set_option linter.all false
namespace Go.Proofs.YtkcelmnbfbehbaaGreat
open Go Go.RowKit Am
def BG (s n:Nat) (d:Int):List Int:=(List.range n).map fun x=>if s=x then 0 else d
def sF (n:Nat) (d:Int) (k:Nat):List (List Int):=(List.range k).map fun s=>BG s n d
theorem yE (a b:Int):Does Tryz.prog 113 [.int a,.int b] (.imm (.int (max a b))):=by
 refine aF Tryz.func113 rfl Tryz.ntmps113 aP (fun _ _=>by kernel_rfl) rfl (Nat.le_of_ble_eq_true rfl) ?_
 intro M0 w0
 rw [Tryz.results113]
 refine ah ?_
 refine aj amQ (fun hc =>?_) (fun hc =>?_)
 ·have:=of_decide_eq_true hc
  refine ah ?_
  refine bI ?_
  rw [Int.max_eq_left (by omega)]
 ·have:=of_decide_eq_false hc
  refine ah ?_
  refine bI ?_
  rw [Int.max_eq_right (by omega)]
theorem OU (s n:Nat) (d:Int):BG s (n+1) d=BG s n d++[if s=n then 0 else d]:=by simp [BG,List.range_succ]
theorem Tj (n:Nat) (d:Int) (k:Nat):sF n d (k+1)=sF n d k++[BG k n d]:=by simp [sF,List.range_succ]
theorem Hu (s n:Nat) (d:Int):(BG s n d).length=n:=by simp [BG]
theorem zn (n:Nat) (d:Int) (k:Nat):(sF n d k).length=k:=by simp [sF]
theorem oJ (n:Nat) (d:Int) (hn:n<=8):bJ Tryz.prog 64 [.int n,.int d] [] [] (.tv (.agg [.own 0])) [.tree [29,3] (.ii (sF n d n))]:=by
 refine aU Tryz.func64 rfl Tryz.ntmps64 aP (fun _ _=>by kernel_rfl) rfl rfl rfl ?_
 intro M0 w0 S φ0
 rw [Tryz.results64]
 refine Ru ?_
 refine Ru ?_
 (refine qJ 1 3 [] rfl rfl rfl ?_;simp only [xu,simprocAttr])
 refine ah ?_
 refine aA (α:=Nat) (fun k=>[(6,true,.int k)]) [0,1,4,5] (fun k=>[.box [.b (.val (.slice none 0 0))],.tree [29,3] (.ii (sF n d k)),.box [.own 1]]) (fun k=>k<=n) (fun k=>n-k) 0 (by exact bY) (Nat.zero_le _) fun k hk =>?_
 have hu:=zn n d k
 simp only [xr,simprocAttr]
 refine ah ?_
 refine aj amQ (fun hc =>?_) (fun hc =>?_)
 ·have hc:=of_decide_eq_true hc
  refine ah ?_
  refine aA (α:=Nat) (fun j=>[(8,true,.int j)]) [0,1,4,5,6,7] (fun j=>[.box [.b (.val (.slice none 0 0))],.tree [29,3] (.ii (sF n d k)),.box [.own 1],.row 3 (.ints (BG k j d))]) (fun j=>j<=n) (fun j=>n-j) 0 (by exact bY) (Nat.zero_le _) fun j hj =>?_
  have hv:=Hu k j d
  have hnx:=OU k j d
  simp only [xr,simprocAttr]
  refine ah ?_
  refine aj amQ (fun hc2 =>?_) (fun hc2 =>?_)
  ·have hc2:=of_decide_eq_true hc2
   refine ah ?_
   refine aj amQ (fun hc3 =>?_) (fun hc3 =>?_)
   ·have hc3:=of_decide_eq_true hc3
    refine ah ?_
    refine ⟨j+1,by omega,by omega,.inr ⟨4,Nat.le_of_ble_eq_true rfl,aS ?_ rfl rfl rfl⟩⟩
    exact bV (by rw [hnx,if_pos (by omega)];rfl)
   ·have hc3:=of_decide_eq_false hc3
    refine ah ?_
    refine ⟨j+1,by omega,by omega,.inr ⟨4,Nat.le_of_ble_eq_true rfl,aS ?_ rfl rfl rfl⟩⟩
    exact bV (by rw [hnx,if_neg (by omega)];rfl)
  ·have hc2:=of_decide_eq_false hc2
   obtain rfl:j=n:=by omega
   have hnk:=Tj j d k
   refine ah ?_
   refine ⟨k+1,by omega,by omega,.inr ⟨3,Nat.le_of_ble_eq_true rfl,aS ?_ rfl rfl rfl⟩⟩
   exact bV (by rw [hnk];rfl)
 ·have hc:=of_decide_eq_false hc
  obtain rfl:k=n:=by omega
  refine ah ?_
  (simp only [aB,aH];refine aW [1] rfl ⟨rfl,trivial⟩ rfl rfl rfl rfl ⟨amK,rfl⟩ ?_;try rfl)
def Shp (n:Nat) (t:List (List Int)):Prop:=t.length=n/\∀ r∈t,r.length=n
theorem LY (n:Nat) (d:Int):Shp n (sF n d n):=⟨zn n d n,fun r hr=>by obtain ⟨s,_,rfl⟩:=List.mem_map.1 hr;exact Hu s n d⟩
theorem OD {n:Nat} {t:List (List Int)} (h:Shp n t) {i:Nat} (hi:i<n):(t.getD i []).length=n:=by
 have hl:i<t.length:=by rw [h.1];exact hi
 rw [List.getD_eq_getElem?_getD,List.getElem?_eq_getElem hl]
 exact h.2 _ (List.getElem_mem hl)
theorem YK {n:Nat} {t:List (List Int)} (h:Shp n t) {i:Nat} {r:List Int} (hr:r.length=n):Shp n (t.set i r) :=
 ⟨by simp [h.1],fun q hq=>by rcases List.mem_or_eq_of_mem_set hq with h1 | h1;exact h.2 q h1;rw [h1];exact hr⟩
def lnK (xs:List Int) (i:Nat) (t:List (List Int)):Nat->List (List Int)
 | 0=>t
 | k+1=>(lnK xs i t k).set i (((lnK xs i t k).getD i []).set k (max (xs.getD i 0-xs.getD k 0) (xs.getD k 0-xs.getD i 0)))
def lnI (xs:List Int):Nat->List (List Int)
 | 0=>sF xs.length 0 xs.length
 | i+1=>lnK xs i (lnI xs i) xs.length
theorem Cj {xs:List Int} {n i:Nat} {t:List (List Int)} (ht:Shp n t) (hi:i<n):∀ k,Shp n (lnK xs i t k)
 | 0=>ht
 | k+1=>YK (Cj ht hi k) (by rw [List.length_set];exact OD (Cj ht hi k) hi)
theorem IL (xs:List Int):∀ i,i<=xs.length->Shp xs.length (lnI xs i)
 | 0,_=>LY _ _
 | i+1,h=>Cj (IL xs i (by omega)) (by omega) _
set_option maxRecDepth 4000 in
set_option maxHeartbeats 2000000 in
theorem Vq (xs:List Int) (hn:xs.length<=8) (hx:∀ x∈xs,-1000<=x/\x<=1000):bJ Tryz.prog 121 [.sl (.ints xs)] [] [] (.tv (.agg [.own 0])) [.tree [29,3] (.ii (lnI xs xs.length))]:=by
 have hxd:∀ j,-1000<=xs.getD j 0/\xs.getD j 0<=1000:=fun j=>by
  rw [List.getD_eq_getElem?_getD]
  rcases Nat.lt_or_ge j xs.length with h | h
  ·rw [List.getElem?_eq_getElem h];exact hx _ (List.getElem_mem h)
  ·rw [List.getElem?_eq_none h];simp
 refine aU Tryz.func121 rfl Tryz.ntmps121 aP (fun _ _=>by kernel_rfl) rfl rfl rfl ?_
 intro M0 w0 S φ0
 rw [Tryz.results121]
 refine ah ?_
 (refine .inr (.inl (aJ [] (oJ xs.length 0 hn) rfl rfl rfl rfl trivial rfl rfl rfl rfl ?_));refine amC ?_)
 refine ah ?_
 refine aA (α:=Nat) (fun i=>[(4,true,.int i)]) [0,2,3] (fun i=>[.box [.b (.val (.slice none 0 0))],.tree [29,3] (.ii (lnI xs i)),.box [.own 1]]) (fun i=>i<=xs.length) (fun i=>xs.length-i) 0 (by exact bY) (Nat.zero_le _) fun i hi =>?_
 have hs:=IL xs i hi
 simp only [xr,simprocAttr]
 refine ah ?_
 refine aj amQ (fun hc =>?_) (fun hc =>?_)
 ·have hc:=of_decide_eq_true hc
  have hi':i<xs.length:=by omega
  refine ah ?_
  refine aA (α:=Nat) (fun k=>[(5,true,.int k)]) [0,2,3,4] (fun k=>[.box [.b (.val (.slice none 0 0))],.tree [29,3] (.ii (lnK xs i (lnI xs i) k)),.box [.own 1]]) (fun k=>k<=xs.length) (fun k=>xs.length-k) 0 (by exact bY) (Nat.zero_le _) fun k hk =>?_
  have hs2:=Cj (xs:=xs) hs hi' k
  have hl1:=hs2.1
  have hl2:=OD hs2 hi'
  have b1:=hxd i
  have b2:=hxd k
  simp only [xr,simprocAttr]
  refine ah ?_
  refine aj amQ (fun hc2 =>?_) (fun hc2 =>?_)
  ·have hc2:=of_decide_eq_true hc2
   refine ah ?_
   (refine kJ 1 (i) rfl amT ?_;simp only [xr,simprocAttr])
   (refine amB ?_;refine gu 0 [(26,[3])] [3] [(25,[]),(26,[])] ?_;refine xO ?_)
   ((try refine Or.inl ?_);refine ⟨_,(yE _ _),amF,?_⟩;refine zB ?_)
   (refine uz 1 rfl (by decide) rfl rfl amT rfl ?_;simp only [xu,simprocAttr])
   refine ah ?_
   refine ⟨k+1,by omega,by omega,.inr ⟨3,Nat.le_of_ble_eq_true rfl,aS ?_ rfl rfl rfl⟩⟩
   exact bV (rfl)
  ·have hc2:=of_decide_eq_false hc2
   obtain rfl:k=xs.length:=by omega
   refine ah ?_
   refine ⟨i+1,by omega,by omega,.inr ⟨3,Nat.le_of_ble_eq_true rfl,aS ?_ rfl rfl rfl⟩⟩
   exact bV (rfl)
 ·have hc:=of_decide_eq_false hc
  obtain rfl:i=xs.length:=by omega
  refine ah ?_
  (simp only [aB,aH];refine aW [1] rfl ⟨rfl,trivial⟩ rfl rfl rfl rfl ⟨amK,rfl⟩ ?_;try rfl)
theorem tq (n:Nat) (xs:List Int) (hn:n<=9223372036854775807):Does Tryz.prog 88 [.int n,.sl (.ints xs)] (.imm (.bool (iT n xs))):=qg (fun _ _=>by kernel_rfl) fun M w us hm ha=>by
 obtain ⟨u,us',rfl,h1,h2⟩:=dZ ha
 obtain ⟨u',us'',rfl,h3,h4⟩:=dZ h2
 obtain rfl:=jw h4
 obtain rfl:u = .int .i64 n:=h1
 exact (vI w u' n xs hn (y5 hm h3)).mono fun e w' ⟨h5,h6⟩=>⟨h5,h6 ▸ Below.refl _ _⟩
def yQ (n:Int):Nat->Cu->Cu
 | 0,c=>c
 | k+1,c=>pkC n (yQ n k c)
def pkL (n:Int):Nat->Cu->List Int
 | 0,_=>[]
 | k+1,c=>pkL n k c++[pkV n (yQ n k c)]
theorem qY (n:Int) (c:Cu):∀ k,(pkL n k c).length=k
 | 0=>rfl
 | k+1=>by simp [pkL,qY n c k]
theorem mF {n m:Int} {c:Cu} (h:aX m c):∀ k:Nat,aX (m+2*k) (yQ n k c)
 | 0=>h.mono (by omega)
 | k+1=>(aV (mF h k)).mono (by omega)
abbrev rnL:List Int:=[0,1,2,3,4,5,7,9]
set_option maxHeartbeats 2000000 in
theorem YD {m s:List (List Int)} {c:Cu} (hs:s.length<=1000) (hc:aX 999999990000 c):∃ rs c',rs.length<=61/\(∀ m0,aX m0 c->aX (m0+30) c')/\bJ Tryz.prog 51 [.lf (.ptr 0 0),.tv (.agg [.b (.sl (.ii m)),.b (.sl (.ii s))])] [true] [eY c] (.sl (.ints rs)) [eY c']:=by
 have hn:=kG (xs:=rnL) hc (by simp)
 obtain ⟨N,hN,hN1⟩:∃ N:Nat,amV rnL c=N/\N<=9:=by
  simp only [List.mem_cons,List.not_mem_nil,or_false] at hn
  exact ⟨(amV rnL c).toNat,by omega,by omega⟩
 have d1:=dn (xs:=rnL) (c:=c) (hc.mono (by omega)) (by simp)
 rw [hN] at d1
 have hc1:=dX (xs:=rnL) hc
 have b1:∀ m0,aX m0 c->aX (m0+2) (aqC rnL c):=fun _ h=>dX h
 generalize aqC rnL c=c1 at hc1 b1 d1
 obtain ⟨n,hnn⟩:∃ n:Int,max (s.length:Int) 1=n:=⟨_,rfl⟩
 have hc2:=mF (n:=n) hc1 N
 have b2:∀ m0,aX m0 c->aX (m0+20) (yQ n N c1):=fun m0 h=>(mF (b1 m0 h) N).mono (by omega)
 have hl2:=qY n c1 N
 have d2:=fJ (n:=32) (c:=yQ n N c1) (hc2.mono (by omega))
 have hc3:=aV (n:=32) hc2
 have b3:∀ m0,aX m0 c->aX (m0+22) (pkC 32 (yQ n N c1)):=fun m0 h=>(aV (b2 m0 h)).mono (by omega)
 obtain ⟨c3,hc3e⟩:∃ c3,pkC 32 (yQ n N c1)=c3:=⟨_,rfl⟩
 rw [hc3e] at d2 hc3 b3
 obtain ⟨tg,htg⟩:∃ tg,pkV 32 (yQ n N c1)=tg:=⟨_,rfl⟩
 rw [htg] at d2
 by_cases t0:tg=0
 ·refine ⟨pkL n N c1++[amV [-1,(s.length:Int)] c3],aqC [-1,(s.length:Int)] c3,by simp;omega,fun m0 h=>(dX (b3 m0 h)).mono (by omega),?_⟩
  refine aU Tryz.func51 rfl Tryz.ntmps51 aP (fun _ _=>by kernel_rfl) rfl rfl rfl ?_
  intro M0 w0 S φ0
  rw [Tryz.results51]
  refine ah ?_
  (refine .inr (.inl (aJ [0] (d1) rfl rfl rfl rfl ⟨rfl,trivial⟩ rfl rfl rfl rfl ?_));refine amC ?_)
  refine ah ?_
  refine aA (α:=Nat) (fun k=>[(6,true,.int ((N:Int)-(k:Int)))]) [0,3,5] (fun k=>[eY (yQ n k c1),.box [.b (.sl (.ii m)),.b (.sl (.ii s))],.row 3 (.ints (pkL n k c1))]) (fun k=>k<=N) (fun k=>N-k) 0 (by exact bY) (Nat.zero_le _) fun k hk =>?_
  have hkl:=qY n c1 k
  have hkc:=mF (n:=n) hc1 k
  simp only [xr,simprocAttr]
  refine ah ?_
  refine aj amQ (fun hc7 =>?_) (fun hc7 =>?_)
  ·have hc7:=of_decide_eq_true hc7
   refine ah ?_
   ((try refine Or.inl ?_);refine ⟨_,(yE _ _),.inl rfl,?_⟩;refine amC ?_)
   rw [hnn]
   refine ah ?_
   (refine .inr (.inl (aJ [0] (fJ (n:=n) (hkc.mono (by omega))) rfl rfl rfl rfl ⟨rfl,trivial⟩ rfl rfl rfl rfl ?_));refine amC ?_)
   refine ah ?_
   refine ⟨k+1,by omega,by omega,.inr ⟨3,Nat.le_of_ble_eq_true rfl,aS ?_ rfl rfl rfl⟩⟩
   exact bV (rfl)
  have hc7:=of_decide_eq_false hc7
  obtain rfl:k=N:=by omega
  refine ah ?_
  (refine .inr (.inl (aJ [0] (d2) rfl rfl rfl rfl ⟨rfl,trivial⟩ rfl rfl rfl rfl ?_));refine amC ?_)
  refine ah ?_
  refine aj amQ (fun e0 =>?_) (fun e0 =>?_)
  ·refine ah ?_
   (refine .inr (.inl (aJ [0] (dn (xs:=[-1,(s.length:Int)]) (hc3.mono (by omega)) (by simp)) rfl rfl rfl rfl ⟨rfl,trivial⟩ rfl rfl rfl rfl ?_));refine amC ?_)
   (refine aN 2 rfl ?_;simp only [xz,simprocAttr])
   refine ah ?_
   (simp only [aB,aH];refine aW [0] rfl ⟨rfl,trivial⟩ rfl rfl rfl rfl rfl ?_;try rfl)
  ·simp [t0] at e0
 by_cases t1:tg=1
 ·obtain ⟨q1,q2⟩:=fK 3 hc3
  have q2:=q2 (by omega)
  obtain ⟨L,hL⟩:∃ L:Nat,(59+pkV 3 c3:Int)=L:=⟨(59+pkV 3 c3).toNat,by omega⟩
  refine ⟨pkL n N c1++List.replicate (L-N) 0,pkC 3 c3,by simp;omega,fun m0 h=>(aV (b3 m0 h)).mono (by omega),?_⟩
  refine aU Tryz.func51 rfl Tryz.ntmps51 aP (fun _ _=>by kernel_rfl) rfl rfl rfl ?_
  intro M0 w0 S φ0
  rw [Tryz.results51]
  refine ah ?_
  (refine .inr (.inl (aJ [0] (d1) rfl rfl rfl rfl ⟨rfl,trivial⟩ rfl rfl rfl rfl ?_));refine amC ?_)
  refine ah ?_
  refine aA (α:=Nat) (fun k=>[(6,true,.int ((N:Int)-(k:Int)))]) [0,3,5] (fun k=>[eY (yQ n k c1),.box [.b (.sl (.ii m)),.b (.sl (.ii s))],.row 3 (.ints (pkL n k c1))]) (fun k=>k<=N) (fun k=>N-k) 0 (by exact bY) (Nat.zero_le _) fun k hk =>?_
  have hkl:=qY n c1 k
  have hkc:=mF (n:=n) hc1 k
  simp only [xr,simprocAttr]
  refine ah ?_
  refine aj amQ (fun hc7 =>?_) (fun hc7 =>?_)
  ·have hc7:=of_decide_eq_true hc7
   refine ah ?_
   ((try refine Or.inl ?_);refine ⟨_,(yE _ _),.inl rfl,?_⟩;refine amC ?_)
   rw [hnn]
   refine ah ?_
   (refine .inr (.inl (aJ [0] (fJ (n:=n) (hkc.mono (by omega))) rfl rfl rfl rfl ⟨rfl,trivial⟩ rfl rfl rfl rfl ?_));refine amC ?_)
   refine ah ?_
   refine ⟨k+1,by omega,by omega,.inr ⟨3,Nat.le_of_ble_eq_true rfl,aS ?_ rfl rfl rfl⟩⟩
   exact bV (rfl)
  have hc7:=of_decide_eq_false hc7
  obtain rfl:k=N:=by omega
  refine ah ?_
  (refine .inr (.inl (aJ [0] (d2) rfl rfl rfl rfl ⟨rfl,trivial⟩ rfl rfl rfl rfl ?_));refine amC ?_)
  refine ah ?_
  refine aj amQ (fun e0 =>?_) (fun e0 =>?_)
  ·simp [t1] at e0
  refine ah ?_
  refine aj amQ (fun e1 =>?_) (fun e1 =>?_)
  ·refine ah ?_
   (refine .inr (.inl (aJ [0] (fJ (n:=3) (c:=c3) (hc3.mono (by omega))) rfl rfl rfl rfl ⟨rfl,trivial⟩ rfl rfl rfl rfl ?_));refine amC ?_)
   refine ah ?_
   refine aA (α:=Nat) (fun _=>[(7,true,.int (L:Int))]) [5] (fun q=>[eY (pkC 3 c3),.box [.b (.sl (.ii m)),.b (.sl (.ii s))],.row 3 (.ints (pkL n k c1++List.replicate q 0))]) (fun q=>q<=L-k) (fun q=>L-k-q) 0 (by exact bV (by simp)) (Nat.zero_le _) fun q hq =>?_
   have hll:(pkL n k c1++List.replicate q (0:Int)).length=k+q:=by simp [hl2]
   simp only [xr,simprocAttr]
   refine ah ?_
   refine aj amQ (fun e2 =>?_) (fun e2 =>?_)
   ·have e2:=of_decide_eq_true e2
    refine ah ?_
    refine ⟨q+1,by omega,by omega,.inl ?_⟩
    exact bV (by rw [List.append_assoc,← List.replicate_succ'])
   ·have e2:=of_decide_eq_false e2
    obtain rfl:q=L-k:=by omega
    (refine aN 2 rfl ?_;simp only [xz,simprocAttr])
    refine ah ?_
    (simp only [aB,aH];refine aW [0] rfl ⟨rfl,trivial⟩ rfl rfl rfl rfl rfl ?_;try rfl)
  ·simp [t1] at e1
 ·refine ⟨pkL n N c1,c3,by omega,fun m0 h=>(b3 m0 h).mono (by omega),?_⟩
  refine aU Tryz.func51 rfl Tryz.ntmps51 aP (fun _ _=>by kernel_rfl) rfl rfl rfl ?_
  intro M0 w0 S φ0
  rw [Tryz.results51]
  refine ah ?_
  (refine .inr (.inl (aJ [0] (d1) rfl rfl rfl rfl ⟨rfl,trivial⟩ rfl rfl rfl rfl ?_));refine amC ?_)
  refine ah ?_
  refine aA (α:=Nat) (fun k=>[(6,true,.int ((N:Int)-(k:Int)))]) [0,3,5] (fun k=>[eY (yQ n k c1),.box [.b (.sl (.ii m)),.b (.sl (.ii s))],.row 3 (.ints (pkL n k c1))]) (fun k=>k<=N) (fun k=>N-k) 0 (by exact bY) (Nat.zero_le _) fun k hk =>?_
  have hkl:=qY n c1 k
  have hkc:=mF (n:=n) hc1 k
  simp only [xr,simprocAttr]
  refine ah ?_
  refine aj amQ (fun hc7 =>?_) (fun hc7 =>?_)
  ·have hc7:=of_decide_eq_true hc7
   refine ah ?_
   ((try refine Or.inl ?_);refine ⟨_,(yE _ _),.inl rfl,?_⟩;refine amC ?_)
   rw [hnn]
   refine ah ?_
   (refine .inr (.inl (aJ [0] (fJ (n:=n) (hkc.mono (by omega))) rfl rfl rfl rfl ⟨rfl,trivial⟩ rfl rfl rfl rfl ?_));refine amC ?_)
   refine ah ?_
   refine ⟨k+1,by omega,by omega,.inr ⟨3,Nat.le_of_ble_eq_true rfl,aS ?_ rfl rfl rfl⟩⟩
   exact bV (rfl)
  have hc7:=of_decide_eq_false hc7
  obtain rfl:k=N:=by omega
  refine ah ?_
  (refine .inr (.inl (aJ [0] (d2) rfl rfl rfl rfl ⟨rfl,trivial⟩ rfl rfl rfl rfl ?_));refine amC ?_)
  refine ah ?_
  refine aj amQ (fun e0 =>?_) (fun e0 =>?_)
  ·simp [t0] at e0
  refine ah ?_
  refine aj amQ (fun e1 =>?_) (fun e1 =>?_)
  ·simp [t1] at e1
  (refine aN 2 rfl ?_;simp only [xz,simprocAttr])
  refine ah ?_
  (simp only [aB,aH];refine aW [0] rfl ⟨rfl,trivial⟩ rfl rfl rfl rfl rfl ?_;try rfl)
abbrev r9N:List Int:=[0,1,2,3,4,5,7,9,12,40]
abbrev r9D:List Int:=[1,1,2,3,5]
set_option maxHeartbeats 2000000 in
theorem WJ {c:Cu} (hc:aX 999999999000 c):∃ a c',(∀ m0,aX m0 c->aX (m0+20) c')/\bJ Tryz.prog 89 [.lf (.ptr 0 0)] [true] [eY c] (frA a) [eY c']:=by
 have hn:=kG (xs:=r9N) hc (by simp)
 have d1:=dn (xs:=r9N) (c:=c) (hc.mono (by omega)) (by simp)
 have hc1:=dX (xs:=r9N) hc
 have b1:∀ m0,aX m0 c->aX (m0+2) (aqC r9N c):=fun _ h=>dX h
 generalize amV r9N c=n at hn d1
 generalize aqC r9N c=c1 at d1 hc1 b1
 have hd:=kG (xs:=r9D) hc1 (by simp)
 have d2:=dn (xs:=r9D) (c:=c1) (hc1.mono (by omega)) (by simp)
 have hc2:=dX (xs:=r9D) hc1
 have b2:∀ m0,aX m0 c->aX (m0+4) (aqC r9D c1):=fun _ h=>(dX (b1 _ h)).mono (by omega)
 generalize amV r9D c1=d at hd d2
 generalize aqC r9D c1=c2 at d2 hc2 b2
 simp only [List.mem_cons,List.not_mem_nil,or_false] at hn hd
 have hok:mD n d=true:=Wh (by omega) (by omega) (by omega) (by omega)
 have d3:=Ee n d (by omega) (by omega) (by omega) (by omega)
 rw [hok] at d3
 generalize vw n d=a at d3
 clear hok hn hd
 have d4:=tY (n:=24) (c:=c2) (hc2.mono (by omega))
 have hc3:=aV (n:=24) hc2
 have b3:∀ m0,aX m0 c->aX (m0+6) (pkC 24 c2):=fun _ h=>(aV (b2 _ h)).mono (by omega)
 by_cases h1:pkV 24 c2=0
 ·rw [decide_eq_true h1] at d4
  generalize pkC 24 c2=c3 at d4 hc3 b3
  have d5:=dn (xs:=[-1,2,1]) (c:=c3) (hc3.mono (by omega)) (by simp)
  have hc4:=dX (xs:=[-1,2,1]) hc3
  have b4:∀ m0,aX m0 c->aX (m0+8) (aqC [-1,2,1] c3):=fun _ h=>(dX (b3 _ h)).mono (by omega)
  generalize amV [-1,2,1] c3=p at d5
  generalize aqC [-1,2,1] c3=c4 at d5 hc4 b4
  have d6:=dn (xs:=[1,0,4]) (c:=c4) (hc4.mono (by omega)) (by simp)
  refine ⟨(p,amV [1,0,4] c4),aqC [1,0,4] c4,fun _ h=>(dX (b4 _ h)).mono (by omega),?_⟩
  generalize amV [1,0,4] c4=q at d6
  refine aU Tryz.func89 rfl Tryz.ntmps89 aP (fun _ _=>by kernel_rfl) rfl rfl rfl ?_
  intro M0 w0 S φ0
  rw [Tryz.results89]
  refine ah ?_
  (refine .inr (.inl (aJ [0] (d1) rfl rfl rfl rfl ⟨rfl,trivial⟩ rfl rfl rfl rfl ?_));refine amC ?_)
  (refine .inr (.inl (aJ [0] (d2) rfl rfl rfl rfl ⟨rfl,trivial⟩ rfl rfl rfl rfl ?_));refine amC ?_)
  ((try refine Or.inl ?_);refine ⟨_,(d3),.inl rfl,?_⟩;refine amC ?_)
  refine ah ?_
  (refine .inr (.inr (jF [0] (d4) (by first | rfl | (simp only [xr,simprocAttr];done)) rfl rfl rfl ⟨rfl,trivial⟩ rfl rfl rfl rfl ?_));refine amC ?_)
  refine ah ?_
  refine aj amQ (fun h2 =>?_) (fun h2 =>?_)
  ·refine ah ?_
   (refine .inr (.inl (aJ [0] (d5) rfl rfl rfl rfl ⟨rfl,trivial⟩ rfl rfl rfl rfl ?_));refine amC ?_)
   (refine .inr (.inl (aJ [0] (d6) rfl rfl rfl rfl ⟨rfl,trivial⟩ rfl rfl rfl rfl ?_));refine amC ?_)
   refine ah ?_
   (simp only [aB,aH];refine aW [0] rfl ⟨rfl,trivial⟩ rfl rfl rfl rfl ⟨amK,rfl⟩ ?_;try rfl)
  ·simp at h2
 ·rw [decide_eq_false h1] at d4
  refine ⟨a,pkC 24 c2,fun _ h=>(b3 _ h).mono (by omega),?_⟩
  generalize pkC 24 c2=c3 at d4
  refine aU Tryz.func89 rfl Tryz.ntmps89 aP (fun _ _=>by kernel_rfl) rfl rfl rfl ?_
  intro M0 w0 S φ0
  rw [Tryz.results89]
  refine ah ?_
  (refine .inr (.inl (aJ [0] (d1) rfl rfl rfl rfl ⟨rfl,trivial⟩ rfl rfl rfl rfl ?_));refine amC ?_)
  (refine .inr (.inl (aJ [0] (d2) rfl rfl rfl rfl ⟨rfl,trivial⟩ rfl rfl rfl rfl ?_));refine amC ?_)
  ((try refine Or.inl ?_);refine ⟨_,(d3),.inl rfl,?_⟩;refine amC ?_)
  refine ah ?_
  (refine .inr (.inr (jF [0] (d4) (by first | rfl | (simp only [xr,simprocAttr];done)) rfl rfl rfl ⟨rfl,trivial⟩ rfl rfl rfl rfl ?_));refine amC ?_)
  refine ah ?_
  refine aj amQ (fun h2 =>?_) (fun h2 =>?_)
  ·simp at h2
  ·refine ah ?_
   (simp only [aB,aH];refine aW [0] rfl ⟨rfl,trivial⟩ rfl rfl rfl rfl ⟨amK,rfl⟩ ?_;try rfl)
def vV (xs:List Int):Nat->Cu->Cu
 | 0,c=>c
 | k+1,c=>aqC xs (vV xs k c)
def amL (xs:List Int):Nat->Cu->List Int
 | 0,_=>[]
 | k+1,c=>amL xs k c++[amV xs (vV xs k c)]
theorem xM (xs:List Int) (c:Cu):∀ k,(amL xs k c).length=k
 | 0=>rfl
 | k+1=>by simp [amL,xM xs c k]
theorem qI {xs:List Int} {m:Int} {c:Cu} (h:aX m c):∀ k:Nat,aX (m+2*k) (vV xs k c)
 | 0=>h.mono (by omega)
 | k+1=>(dX (qI h k)).mono (by omega)
abbrev csP:List Int:=[0,0,1,2,3,-1,5]
def rwN (n:Nat) (c:Cu):Bool:=decide (dw (amL csP n c) ((amL csP n c).length-1)<0)
def rwD (n:Nat) (c:Cu):Cu:=if rwN n c=true then pkC 3 (vV csP n c) else vV csP n c
def rwB (n:Nat) (c:Cu):Bool:=(rwN n c && decide (pkV 3 (vV csP n c)=0)) || !iT n (amL csP n c)
def rwV (n:Nat) (c:Cu):List Int:=if rwB n c=true then (amL csP n c).set (pkV n (rwD n c)).toNat 0 else amL csP n c
def rwC (n:Nat) (c:Cu):Cu:=if rwB n c=true then pkC n (rwD n c) else rwD n c
theorem YJ (n:Nat) (c:Cu):(rwV n c).length=n:=by
 unfold rwV
 split
 ·rw [List.length_set,xM]
 ·exact xM _ _ _
theorem Xa {n:Nat} {m:Int} {c:Cu} (h:aX m c):aX (m+(2*n+2)) (rwD n c):=by
 unfold rwD
 split
 ·exact (aV (qI h n)).mono (by omega)
 ·exact (qI h n).mono (by omega)
theorem acw {n:Nat} {m:Int} {c:Cu} (h:aX m c):aX (m+(2*n+4)) (rwC n c):=by
 unfold rwC
 split
 ·exact (aV (Xa h)).mono (by omega)
 ·exact (Xa h).mono (by omega)
def rsC (n:Nat):Nat->Cu->Cu
 | 0,c=>c
 | k+1,c=>rwC n (rsC n k c)
def rsV (n:Nat):Nat->Cu->List (List Int)
 | 0,_=>[]
 | k+1,c=>rsV n k c++[rwV n (rsC n k c)]
theorem Jh (n:Nat) (c:Cu):∀ k,(rsV n k c).length=k
 | 0=>rfl
 | k+1=>by simp [rsV,Jh n c k]
theorem QI (n:Nat) (c:Cu):∀ k,∀ r∈rsV n k c,r.length=n
 | 0=>by simp [rsV]
 | k+1=>fun r hr=>by
  simp only [rsV,List.mem_append,List.mem_singleton] at hr
  rcases hr with hr | rfl
  ·exact QI n c k r hr
  ·exact YJ _ _
theorem Oz {n:Nat} {m:Int} {c:Cu} (h:aX m c):∀ k:Nat,aX (m+(2*n+4)*k) (rsC n k c)
 | 0=>h.mono (by omega)
 | k+1=>by
  have h1:=acw (n:=n) (Oz (n:=n) h k)
  exact h1.mono (by rw [Int.natCast_add,Int.natCast_one,Int.mul_add,Int.mul_one];omega)
def stN (row:List Int):Nat->List Int
 | 0=>row
 | j+1=>(stN row j).set j (-1)
theorem QV (row:List Int):∀ j,(stN row j).length=row.length
 | 0=>rfl
 | j+1=>by simp [stN,QV row j]
def prF (tag:Int) (k n:Nat) (m s:List (List Int)) (c:Cu):List (List Int)×List (List Int)×Cu :=
 if tag=0 then (m,s.set k ((s.getD k []).set 0 (amV [-2,20,21] c)),aqC [-2,20,21] c)
 else if tag=1 then (m,s.set k (s.getD k []++[0]),c)
 else if tag=2 then (m,s.set k (stN (s.getD k []) n),c)
 else if tag=3 then (m.set 0 ((m.getD 0 []).set (n-1) (amV [0,99,-1] c)),s,aqC [0,99,-1] c)
 else if tag=4 then (m,s++s++s++s,c)
 else if tag=5 then (sF 5 1 5,s,c)
 else (m,s,c)
theorem ZT {tag:Int} {k n:Nat} {m s:List (List Int)} {c:Cu} {m0:Int} (h:aX m0 c) (hm:m.length<=4) (hs:s.length<=4) (hs1:1<=s.length):(prF tag k n m s c).1.length<=5/\(prF tag k n m s c).2.1.length<=16/\1<=(prF tag k n m s c).2.1.length/\aX (m0+2) (prF tag k n m s c).2.2:=by
 have h2:aX (m0+2) c:=h.mono (by omega)
 unfold prF
 repeat' split
 all_goals first
  | exact ⟨by simp;omega,by simp;omega,by simp;omega,dX h⟩
  | exact ⟨by simp;omega,by simp;omega,by simp;omega,h2⟩
  | exact ⟨by rw [zn];omega,by simp;omega,by simp;omega,h2⟩
  | exact ⟨by dsimp only;omega,by simp;omega,by simp;omega,h2⟩
abbrev nsP:List Int:=[1,2,2,3,3,4]
abbrev ksP:List Int:=[1,2,2,3,4]
def EM (c:Cu):List Int:=[pkV 2 c,2+pkV 2 (pkC 2 c),5,6+pkV 3 (pkC 2 (pkC 2 c))]
def mvP (n:Nat) (d:Int) (c:Cu):List (List Int):=if pkV 2 c=0 then lnI ((EM (pkC 2 c)).take n) ((EM (pkC 2 c)).take n).length else sF n d n
def mvC (c:Cu):Cu:=if pkV 2 c=0 then pkC 3 (pkC 2 (pkC 2 (pkC 2 c))) else pkC 2 c
theorem VP {m:Int} {c:Cu} (h:aX m c):aX (m+8) (mvC c):=by
 unfold mvC
 split
 ·exact (aV (aV (aV (aV h)))).mono (by omega)
 ·exact (aV h).mono (by omega)
theorem Wy {m:Int} {c:Cu} (h:aX m c):∀ x∈EM c,-1000<=x/\x<=1000:=by
 have h1:=fK 2 h
 have h2:=fK 2 (aV (n:=2) h)
 have h3:=fK 3 (aV (n:=2) (aV (n:=2) h))
 have e1:=h1.2 (by omega)
 have e2:=h2.2 (by omega)
 have e3:=h3.2 (by omega)
 intro x hx
 simp only [EM,List.mem_cons,List.not_mem_nil,or_false] at hx
 rcases hx with rfl | rfl | rfl | rfl<;>omega
theorem Yl {n:Nat} {d:Int} {c:Cu} (hn:n<=4):Shp n (mvP n d c):=by
 unfold mvP
 split
 ·have h:=IL ((EM (pkC 2 c)).take n) _ (Nat.le_refl _)
  have e:((EM (pkC 2 c)).take n).length=n:=by simp [EM];omega
  rw [e] at h
  rw [e]
  exact h
 ·exact LY n d
end Go.Proofs.YtkcelmnbfbehbaaGreat
