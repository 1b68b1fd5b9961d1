/- A clone of a list of numbers of whatever length is a new row of its own. Conditions: at most 1000 numbers. -/
import Derived.Test.YtnblieajjclipaaGreatZMK
import Derived.Test.YtnblieajjclipaaGreatZZZMaxQ
import Derived.Test.YtnblieajjclipaaGreatGRU
import Derived.Test.YtnblieajjclipaaGreatZGrow
set_option linter.all false
namespace Go.Proofs.YtnblieajjclipaaGreat
open Go Go.RowKit Am
def AQ (s n:Nat) (d:Int):List Int:=(List.range n).map fun x=>if s=x then 0 else d
def rE (n:Nat) (d:Int) (k:Nat):List (List Int):=(List.range k).map fun s=>AQ s n d
theorem U9 (a b:Int):Does Tryz.prog 93 [.int a,.int b] (.imm (.int (max a b))):=by
 refine aF Tryz.func93 rfl Tryz.ntmps93 aQ (fun _ _=>by kernel_rfl) rfl (Nat.le_of_ble_eq_true rfl) ?_
 intro M0 w0
 rw [Tryz.results93]
 refine ah ?_
 refine aj amQ (fun hc =>?_) (fun hc =>?_)
 ·have:=of_decide_eq_true hc
  refine ah ?_
  refine bJ ?_
  rw [Int.max_eq_left (by omega)]
 ·have:=of_decide_eq_false hc
  refine ah ?_
  refine bJ ?_
  rw [Int.max_eq_right (by omega)]
theorem OG (s n:Nat) (d:Int):AQ s (n+1) d=AQ s n d++[if s=n then 0 else d]:=by simp [AQ,List.range_succ]
theorem SS (n:Nat) (d:Int) (k:Nat):rE n d (k+1)=rE n d k++[AQ k n d]:=by simp [rE,List.range_succ]
theorem GY (s n:Nat) (d:Int):(AQ s n d).length=n:=by simp [AQ]
theorem y5 (n:Nat) (d:Int) (k:Nat):(rE n d k).length=k:=by simp [rE]
theorem nZ (n:Nat) (d:Int) (hn:n<=8):bP Tryz.prog 114 [.int n,.int d] [] [] (.tv (.agg [.own 0])) [.tree [26,3] (.ii (rE n d n))]:=by
 refine aZ Tryz.func114 rfl Tryz.ntmps114 aQ (fun _ _=>by kernel_rfl) rfl rfl rfl ?_
 intro M0 w0 S φ0
 rw [Tryz.results114]
 refine L9 ?_
 refine L9 ?_
 (refine tV 1 3 [] rfl rfl rfl ?_;simp only [xu,simprocAttr])
 refine ah ?_
 refine aA (α:=Nat) (fun k=>[(6,true,.int k)]) [0,1,4,5] (fun k=>[.box [.b (.val (.slice none 0 0))],.tree [26,3] (.ii (rE n d k)),.box [.own 1]]) (fun k=>k<=n) (fun k=>n-k) 0 (by exact bW) (Nat.zero_le _) fun k hk =>?_
 have hu:=y5 n d k
 simp only [xr,simprocAttr]
 refine ah ?_
 refine aj amQ (fun hc =>?_) (fun hc =>?_)
 ·have hc:=of_decide_eq_true hc
  refine ah ?_
  refine aA (α:=Nat) (fun j=>[(8,true,.int j)]) [0,1,4,5,6,7] (fun j=>[.box [.b (.val (.slice none 0 0))],.tree [26,3] (.ii (rE n d k)),.box [.own 1],.row 3 (.ints (AQ k j d))]) (fun j=>j<=n) (fun j=>n-j) 0 (by exact bW) (Nat.zero_le _) fun j hj =>?_
  have hv:=GY k j d
  have hnx:=OG k j d
  simp only [xr,simprocAttr]
  refine ah ?_
  refine aj amQ (fun hc2 =>?_) (fun hc2 =>?_)
  ·have hc2:=of_decide_eq_true hc2
   refine ah ?_
   refine aj amQ (fun hc3 =>?_) (fun hc3 =>?_)
   ·have hc3:=of_decide_eq_true hc3
    refine ah ?_
    refine ⟨j+1,by omega,by omega,.inr ⟨4,Nat.le_of_ble_eq_true rfl,aT ?_ rfl rfl rfl⟩⟩
    exact dw (by rw [hnx,if_pos (by omega)];rfl)
   ·have hc3:=of_decide_eq_false hc3
    refine ah ?_
    refine ⟨j+1,by omega,by omega,.inr ⟨4,Nat.le_of_ble_eq_true rfl,aT ?_ rfl rfl rfl⟩⟩
    exact dw (by rw [hnx,if_neg (by omega)];rfl)
  ·have hc2:=of_decide_eq_false hc2
   obtain rfl:j=n:=by omega
   have hnk:=SS j d k
   refine ah ?_
   refine ⟨k+1,by omega,by omega,.inr ⟨3,Nat.le_of_ble_eq_true rfl,aT ?_ rfl rfl rfl⟩⟩
   exact dw (by rw [hnk];rfl)
 ·have hc:=of_decide_eq_false hc
  obtain rfl:k=n:=by omega
  refine ah ?_
  (simp only [aC,aH];refine bf [1] rfl ⟨rfl,trivial⟩ rfl rfl rfl rfl ⟨amK,rfl⟩ ?_;try rfl)
def Shp (n:Nat) (t:List (List Int)):Prop:=t.length=n/\∀ r∈t,r.length=n
theorem LJ (n:Nat) (d:Int):Shp n (rE n d n):=⟨y5 n d n,fun r hr=>by obtain ⟨s,_,rfl⟩:=List.mem_map.1 hr;exact GY s n d⟩
theorem Ot {n:Nat} {t:List (List Int)} (h:Shp n t) {i:Nat} (hi:i<n):(t.getD i []).length=n:=by
 have hl:i<t.length:=by rw [h.1];exact hi
 rw [List.getD_eq_getElem?_getD,List.getElem?_eq_getElem hl]
 exact h.2 _ (List.getElem_mem hl)
theorem YJ {n:Nat} {t:List (List Int)} (h:Shp n t) {i:Nat} {r:List Int} (hr:r.length=n):Shp n (t.set i r) :=
 ⟨by simp [h.1],fun q hq=>by rcases List.mem_or_eq_of_mem_set hq with h1 | h1;exact h.2 q h1;rw [h1];exact hr⟩
def lnK (xs:List Int) (i:Nat) (t:List (List Int)):Nat->List (List Int)
 | 0=>t
 | k+1=>(lnK xs i t k).set i (((lnK xs i t k).getD i []).set k (max (xs.getD i 0-xs.getD k 0) (xs.getD k 0-xs.getD i 0)))
def lnI (xs:List Int):Nat->List (List Int)
 | 0=>rE xs.length 0 xs.length
 | i+1=>lnK xs i (lnI xs i) xs.length
theorem Bo {xs:List Int} {n i:Nat} {t:List (List Int)} (ht:Shp n t) (hi:i<n):∀ k,Shp n (lnK xs i t k)
 | 0=>ht
 | k+1=>YJ (Bo ht hi k) (by rw [List.length_set];exact Ot (Bo ht hi k) hi)
theorem Io (xs:List Int):∀ i,i<=xs.length->Shp xs.length (lnI xs i)
 | 0,_=>LJ _ _
 | i+1,h=>Bo (Io xs i (by omega)) (by omega) _
set_option maxRecDepth 4000 in
set_option maxHeartbeats 2000000 in
theorem Vb (xs:List Int) (hn:xs.length<=8) (hx:∀ x∈xs,-1000<=x/\x<=1000):bP Tryz.prog 162 [.sl (.ints xs)] [] [] (.tv (.agg [.own 0])) [.tree [26,3] (.ii (lnI xs xs.length))]:=by
 have hxd:∀ j,-1000<=xs.getD j 0/\xs.getD j 0<=1000:=fun j=>by
  rw [List.getD_eq_getElem?_getD]
  rcases Nat.lt_or_ge j xs.length with h | h
  ·rw [List.getElem?_eq_getElem h];exact hx _ (List.getElem_mem h)
  ·rw [List.getElem?_eq_none h];simp
 refine aZ Tryz.func162 rfl Tryz.ntmps162 aQ (fun _ _=>by kernel_rfl) rfl rfl rfl ?_
 intro M0 w0 S φ0
 rw [Tryz.results162]
 refine ah ?_
 (refine .inr (.inl (aJ [] (nZ xs.length 0 hn) rfl rfl rfl rfl trivial rfl rfl rfl rfl ?_));refine amC ?_)
 refine ah ?_
 refine aA (α:=Nat) (fun i=>[(4,true,.int i)]) [0,2,3] (fun i=>[.box [.b (.val (.slice none 0 0))],.tree [26,3] (.ii (lnI xs i)),.box [.own 1]]) (fun i=>i<=xs.length) (fun i=>xs.length-i) 0 (by exact bW) (Nat.zero_le _) fun i hi =>?_
 have hs:=Io xs i hi
 simp only [xr,simprocAttr]
 refine ah ?_
 refine aj amQ (fun hc =>?_) (fun hc =>?_)
 ·have hc:=of_decide_eq_true hc
  have hi':i<xs.length:=by omega
  refine ah ?_
  refine aA (α:=Nat) (fun k=>[(5,true,.int k)]) [0,2,3,4] (fun k=>[.box [.b (.val (.slice none 0 0))],.tree [26,3] (.ii (lnK xs i (lnI xs i) k)),.box [.own 1]]) (fun k=>k<=xs.length) (fun k=>xs.length-k) 0 (by exact bW) (Nat.zero_le _) fun k hk =>?_
  have hs2:=Bo (xs:=xs) hs hi' k
  have hl1:=hs2.1
  have hl2:=Ot hs2 hi'
  have b1:=hxd i
  have b2:=hxd k
  simp only [xr,simprocAttr]
  refine ah ?_
  refine aj amQ (fun hc2 =>?_) (fun hc2 =>?_)
  ·have hc2:=of_decide_eq_true hc2
   refine ah ?_
   (refine kH 1 (i) rfl amT ?_;simp only [xr,simprocAttr])
   (refine amB ?_;refine gq 0 [(26,[3])] [3] [(25,[]),(26,[])] ?_;refine xw ?_)
   ((try refine Or.inl ?_);refine ⟨_,(U9 _ _),amF,?_⟩;refine zk ?_)
   (refine tX 1 rfl (by decide) rfl rfl amT rfl ?_;simp only [xu,simprocAttr])
   refine ah ?_
   refine ⟨k+1,by omega,by omega,.inr ⟨3,Nat.le_of_ble_eq_true rfl,aT ?_ rfl rfl rfl⟩⟩
   exact dw (rfl)
  ·have hc2:=of_decide_eq_false hc2
   obtain rfl:k=xs.length:=by omega
   refine ah ?_
   refine ⟨i+1,by omega,by omega,.inr ⟨3,Nat.le_of_ble_eq_true rfl,aT ?_ rfl rfl rfl⟩⟩
   exact dw (rfl)
 ·have hc:=of_decide_eq_false hc
  obtain rfl:i=xs.length:=by omega
  refine ah ?_
  (simp only [aC,aH];refine bf [1] rfl ⟨rfl,trivial⟩ rfl rfl rfl rfl ⟨amK,rfl⟩ ?_;try rfl)
theorem su (n:Nat) (xs:List Int) (hn:n<=9223372036854775807):Does Tryz.prog 115 [.int n,.sl (.ints xs)] (.imm (.bool (iY n xs))):=ng (fun _ _=>by kernel_rfl) fun M w us hm ha=>by
 obtain ⟨u,us',rfl,h1,h2⟩:=dK ha
 obtain ⟨u',us'',rfl,h3,h4⟩:=dK h2
 obtain rfl:=iH h4
 obtain rfl:u = .int .i64 n:=h1
 exact (uX w u' n xs hn (yR hm h3)).mono fun e w' ⟨h5,h6⟩=>⟨h5,h6 ▸ Below.refl _ _⟩
def vI (xs:List Int):Nat->Cu->Cu
 | 0,c=>c
 | k+1,c=>aqC xs (vI xs k c)
def amL (xs:List Int):Nat->Cu->List Int
 | 0,_=>[]
 | k+1,c=>amL xs k c++[amV xs (vI xs k c)]
theorem wZ (xs:List Int) (c:Cu):∀ k,(amL xs k c).length=k
 | 0=>rfl
 | k+1=>by simp [amL,wZ xs c k]
theorem qm {xs:List Int} {m:Int} {c:Cu} (h:bn m c):∀ k:Nat,bn (m+2*k) (vI xs k c)
 | 0=>h.mono (by omega)
 | k+1=>(dZ (qm h k)).mono (by omega)
abbrev csP:List Int:=[0,0,1,2,3,-1,5]
def rwN (n:Nat) (c:Cu):Bool:=decide (dn (amL csP n c) ((amL csP n c).length-1)<0)
def rwD (n:Nat) (c:Cu):Cu:=if rwN n c=true then pkC 3 (vI csP n c) else vI csP n c
def rwB (n:Nat) (c:Cu):Bool:=(rwN n c && decide (pkV 3 (vI csP n c)=0)) || !iY n (amL csP n c)
def rwV (n:Nat) (c:Cu):List Int:=if rwB n c=true then (amL csP n c).set (pkV n (rwD n c)).toNat 0 else amL csP n c
def rwC (n:Nat) (c:Cu):Cu:=if rwB n c=true then pkC n (rwD n c) else rwD n c
theorem YI (n:Nat) (c:Cu):(rwV n c).length=n:=by
 unfold rwV
 split
 ·rw [List.length_set,wZ]
 ·exact wZ _ _ _
theorem WR {n:Nat} {m:Int} {c:Cu} (h:bn m c):bn (m+(2*n+2)) (rwD n c):=by
 unfold rwD
 split
 ·exact (aV (qm h n)).mono (by omega)
 ·exact (qm h n).mono (by omega)
theorem acp {n:Nat} {m:Int} {c:Cu} (h:bn m c):bn (m+(2*n+4)) (rwC n c):=by
 unfold rwC
 split
 ·exact (aV (WR h)).mono (by omega)
 ·exact (WR h).mono (by omega)
def rsC (n:Nat):Nat->Cu->Cu
 | 0,c=>c
 | k+1,c=>rwC n (rsC n k c)
def rsV (n:Nat):Nat->Cu->List (List Int)
 | 0,_=>[]
 | k+1,c=>rsV n k c++[rwV n (rsC n k c)]
theorem I4 (n:Nat) (c:Cu):∀ k,(rsV n k c).length=k
 | 0=>rfl
 | k+1=>by simp [rsV,I4 n c k]
theorem QB (n:Nat) (c:Cu):∀ k,∀ r∈rsV n k c,r.length=n
 | 0=>by simp [rsV]
 | k+1=>fun r hr=>by
  simp only [rsV,List.mem_append,List.mem_singleton] at hr
  rcases hr with hr | rfl
  ·exact QB n c k r hr
  ·exact YI _ _
theorem Om {n:Nat} {m:Int} {c:Cu} (h:bn m c):∀ k:Nat,bn (m+(2*n+4)*k) (rsC n k c)
 | 0=>h.mono (by omega)
 | k+1=>by
  have h1:=acp (n:=n) (Om (n:=n) h k)
  exact h1.mono (by rw [Int.natCast_add,Int.natCast_one,Int.mul_add,Int.mul_one];omega)
def stN (row:List Int):Nat->List Int
 | 0=>row
 | j+1=>(stN row j).set j (-1)
theorem QJ (row:List Int):∀ j,(stN row j).length=row.length
 | 0=>rfl
 | j+1=>by simp [stN,QJ row j]
def prF (tag:Int) (k n:Nat) (m s:List (List Int)) (c:Cu):List (List Int)×List (List Int)×Cu :=
 if tag=0 then (m,s.set k ((s.getD k []).set 0 (amV [-2,20,21] c)),aqC [-2,20,21] c)
 else if tag=1 then (m,s.set k (s.getD k []++[0]),c)
 else if tag=2 then (m,s.set k (stN (s.getD k []) n),c)
 else if tag=3 then (m.set 0 ((m.getD 0 []).set (n-1) (amV [0,99,-1] c)),s,aqC [0,99,-1] c)
 else if tag=4 then (m,s++s++s++s,c)
 else if tag=5 then (rE 5 1 5,s,c)
 else (m,s,c)
theorem ZR {tag:Int} {k n:Nat} {m s:List (List Int)} {c:Cu} {m0:Int} (h:bn m0 c) (hm:m.length<=4) (hs:s.length<=4) (hs1:1<=s.length):(prF tag k n m s c).1.length<=5/\(prF tag k n m s c).2.1.length<=16/\1<=(prF tag k n m s c).2.1.length/\bn (m0+2) (prF tag k n m s c).2.2:=by
 have h2:bn (m0+2) c:=h.mono (by omega)
 unfold prF
 repeat' split
 all_goals first
  | exact ⟨by simp;omega,by simp;omega,by simp;omega,dZ h⟩
  | exact ⟨by simp;omega,by simp;omega,by simp;omega,h2⟩
  | exact ⟨by rw [y5];omega,by simp;omega,by simp;omega,h2⟩
  | exact ⟨by dsimp only;omega,by simp;omega,by simp;omega,h2⟩
abbrev nsP:List Int:=[1,2,2,3,3,4]
abbrev ksP:List Int:=[1,2,2,3,4]
def Ed (c:Cu):List Int:=[pkV 2 c,2+pkV 2 (pkC 2 c),5,6+pkV 3 (pkC 2 (pkC 2 c))]
def mvP (n:Nat) (d:Int) (c:Cu):List (List Int):=if pkV 2 c=0 then lnI ((Ed (pkC 2 c)).take n) ((Ed (pkC 2 c)).take n).length else rE n d n
def mvC (c:Cu):Cu:=if pkV 2 c=0 then pkC 3 (pkC 2 (pkC 2 (pkC 2 c))) else pkC 2 c
theorem VD {m:Int} {c:Cu} (h:bn m c):bn (m+8) (mvC c):=by
 unfold mvC
 split
 ·exact (aV (aV (aV (aV h)))).mono (by omega)
 ·exact (aV h).mono (by omega)
theorem Wh {m:Int} {c:Cu} (h:bn m c):∀ x∈Ed c,-1000<=x/\x<=1000:=by
 have h1:=fP 2 h
 have h2:=fP 2 (aV (n:=2) h)
 have h3:=fP 3 (aV (n:=2) (aV (n:=2) h))
 have e1:=h1.2 (by omega)
 have e2:=h2.2 (by omega)
 have e3:=h3.2 (by omega)
 intro x hx
 simp only [Ed,List.mem_cons,List.not_mem_nil,or_false] at hx
 rcases hx with rfl | rfl | rfl | rfl<;>omega
theorem Yj {n:Nat} {d:Int} {c:Cu} (hn:n<=4):Shp n (mvP n d c):=by
 unfold mvP
 split
 ·have h:=Io ((Ed (pkC 2 c)).take n) _ (Nat.le_refl _)
  have e:((Ed (pkC 2 c)).take n).length=n:=by simp [Ed];omega
  rw [e] at h
  rw [e]
  exact h
 ·exact LJ n d
def lcV (m s:List (List Int)) (x:Int) (rs:List Int):Int:=bif bH m s x rs then IC m s x.toNat rs else 0
abbrev i2V (v:Int) (b:Bool):AV := .tup [.one (.b (.val (.int .i64 v))),.one (.b (.val (.bool b)))]
theorem ZO {m s:List (List Int)} (hp:bg m s=true) {x:Nat} (hx:x<m.length) {rs:List Int} (hq:lX s.length rs) (hl:rs.length<=60):0<=IC m s x rs/\IC m s x rs<=10000:=by
 have h:=mQ (zf hp hx hq (by omega) rs.length (Nat.le_refl _)) (m.length-1) (by omega)
 rw [List.take_length] at h
 unfold IC
 omega
theorem zI (m s:List (List Int)) (x:Int) (rs:List Int):Does Tryz.prog 30 [prA m s,.int x,.sl (.ints rs)] (.imm (i2V (lcV m s x rs) (bH m s x rs))):=by
 cases ht:bH m s x rs
 ·unfold lcV
  rw [ht]
  refine aF Tryz.func30 rfl Tryz.ntmps30 aQ (fun _ _=>by kernel_rfl) rfl (Nat.le_of_ble_eq_true rfl) ?_
  intro M0 w0
  rw [Tryz.results30]
  refine ah ?_
  ((try refine Or.inl ?_);refine ⟨_,(rZ m s x rs),.inl rfl,?_⟩;refine amC ?_)
  rw [ht]
  refine ah ?_
  refine aj amQ (fun hc =>?_) (fun hc =>?_)
  ·refine ah ?_
   (simp only [xec,simprocAttr];refine ⟨[_,_],⟨rfl,rfl,trivial⟩,rfl,Imp.eq ?_⟩)
   rfl
  ·simp at hc
 ·obtain ⟨hp,⟨k,rfl,hk⟩,hq,hl⟩:=qc ht
  unfold lcV
  rw [ht,Int.toNat_natCast]
  exact KN ht hp hk hq hl
end Go.Proofs.YtnblieajjclipaaGreat
