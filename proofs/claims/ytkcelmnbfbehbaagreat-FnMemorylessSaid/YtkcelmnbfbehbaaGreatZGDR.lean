/- The rules by which regions whose order is left open are run, in a bundle. Conditions: none. -/
import Derived.Test.YtkcelmnbfbehbaaGreatGAM
import Derived.Test.YtkcelmnbfbehbaaGreatGCU
import Derived.Test.YtkcelmnbfbehbaaGreatGWI
set_option linter.all false
namespace Go.Proofs.YtkcelmnbfbehbaaGreat
open Go Go.RowKit Am
theorem xg:type_of% (⟨@dG.eq_1,@dG.eq_2,@slotsOf.eq_1,@slotsOf.eq_2,@Wof.eq_1,@Wof.eq_2,@iT.eq_1,@iT.eq_2,@fV.eq_1,@fV.eq_2,@Cn.addN.eq_1,@Cn.addN.eq_2,@Cn.addN.eq_3,@Cn.addN.eq_4,@Cn.addN.eq_5,@VJ,@Yr,@wI,@NQ⟩:_/\_/\_/\_/\_/\_/\_/\_/\_/\_/\_/\_/\_/\_/\_/\_/\_/\_/\_):=⟨@dG.eq_1,@dG.eq_2,@slotsOf.eq_1,@slotsOf.eq_2,@Wof.eq_1,@Wof.eq_2,@iT.eq_1,@iT.eq_2,@fV.eq_1,@fV.eq_2,@Cn.addN.eq_1,@Cn.addN.eq_2,@Cn.addN.eq_3,@Cn.addN.eq_4,@Cn.addN.eq_5,@VJ,@Yr,@wI,@NQ⟩
theorem xgp:type_of% (⟨@JU.eq_1,@JR.eq_1,@zn.eq_1,@X0.eq_1⟩:_/\_/\_/\_):=⟨@JU.eq_1,@JR.eq_1,@zn.eq_1,@X0.eq_1⟩
theorem mg {P Q:Prop} (q:Q) (h:Hold Q->P:=by intro h;((simp (maxSteps:=3000000) only [xg,↓xgp,xr,simprocAttr];repeat (guard_target =~ _/\_;refine ⟨by first | (guard_target =~ _=_;rfl) | (guard_target =~ (_:Int)<=_;omega) | (first | with_reducible assumption | (guard_target =~ (_:Int)<=_;omega) | (guard_target =~ (_:Int)<_;omega) | (guard_target =~ (_:Nat)<_;omega) | (guard_target =~ (_:Nat)<=_;omega) | (guard_target =~ (_:Int)=_;omega) | (unfold I64;omega) | trivial | omega | (simp<;>omega) | (intros;omega)),?_⟩)));exact h.out):P:=h ⟨q⟩
theorem vN {P Q:Prop} (q:Q) (h:Hold Q->P:=by intro h;((try simp (maxSteps:=3000000) only [xg,↓xgp,xr,simprocAttr]);repeat (guard_target =~ _/\_;refine ⟨by first | (guard_target =~ _=_;rfl) | (guard_target =~ (_:Int)<=_;omega) | (first | with_reducible assumption | (guard_target =~ (_:Int)<=_;omega) | (guard_target =~ (_:Int)<_;omega) | (guard_target =~ (_:Nat)<_;omega) | (guard_target =~ (_:Nat)<=_;omega) | (guard_target =~ (_:Int)=_;omega) | (unfold I64;omega) | trivial | omega | (simp<;>omega) | (intros;omega)),?_⟩));exact h.out):P:=h ⟨q⟩
end Go.Proofs.YtkcelmnbfbehbaaGreat
namespace Go.Proofs.YtkcelmnbfbehbaaGreat
namespace Am
open Go Go.RowKit
theorem adg {P:Program} {cf:Cfg} {b:Base} {N:Nat} {X:St} {Q:Exit->St->Prop} {c:Code} (t:Nat) (d:Cn) (ht:X.T t=(true,.val (.slice none 0 0))) (h0:d.len=0) (hok:d.ok) (h:awp P cf b N c Q ⟨X.T.put (some t) (true,.sl d),X.H⟩):awp P cf b N c Q X:=fun a w ⟨φ,β,M,hR⟩=>by
 have e1:∀ s,(X.T.put (some t) (true,AV.sl d)) s=bif Nat.beq s t then (true,AV.sl d) else X.T s:=fun s=>rfl
 refine h a w ⟨φ,β,M,hR.cf,hR.le,hR.new,hR.hi,fun s =>?_,fun s =>?_,hR.own,hR.size,hR.below,hR.fix,hR.defers⟩
 ·dsimp only;rw [e1]
  cases hs:Nat.beq s t with
  | false=>exact hR.t s
  | true =>
   rw [Nat.eq_of_beq_eq_true hs]
   refine ⟨fun _ =>?_,fun h=>by cases h⟩
   have h1:=(hR.t t).1 (by rw [ht])
   rw [ht] at h1
   have h2:a.tmps.getD t undef = .slice none 0 0:=h1
   rw [h2]
   exact Bd h0 hok
 ·dsimp only;rw [e1]
  cases hs:Nat.beq s t with
  | false=>exact hR.lt s
  | true=>exact AV.dF.2 rfl
theorem XB {P:Program} {cf:Cfg} {b:Base} {N:Nat} {X:St} {Q:Exit->St->Prop} {c:Code} (R:Nat) (h:awp P cf b N c Q ⟨X.T,X.H++iT R⟩):awp P cf b N c Q X:=fun a w ⟨φ,β,M,hR⟩=>by
 obtain ⟨φ',β',hR'⟩:=RA.reserve (φ:=φ) R hR
 exact h a w ⟨φ',β',M,hR'⟩
theorem G8 {P:Program} {cf:Cfg} {b:Base} {N:Nat} {X:St} {K:St->Prop} {Q:Exit->St->Prop} {c:Code} (chg:List (Nat×Bool×AV)) (ss:List Nat) (H':List Ob) (h1:awp P cf b N c (lN (fun X'=>leK (chg++kept X.T ss) H' X'\/∃ n,b.fx.length<=n/\leT n (chg++kept X.T ss) H' X') Q) X) (h2:K ⟨tab (chg++kept X.T ss),H'⟩):awp P cf b N c (lN K Q) X:=fun a w hR=>by
 refine Code.wp_mono (fun e a' w' ⟨X',k1,k2⟩ =>?_) (h1 a w hR)
 cases e with
 | normal =>
  rcases k1 with k1 | ⟨n,hn,k1⟩
  ·exact ⟨_,h2,k2.leK k1⟩
  ·exact ⟨_,h2,k2.le (k1.le hn)⟩
 | _=>exact ⟨X',k1,k2⟩
theorem Tv {P:Program} {cf:Cfg} {b:Base} {N:Nat} {X:St} {K:St->Prop} {Q:Exit->St->Prop} {c:Code} (id:Nat) (chg:List (Nat×Bool×AV)) (ss:List Nat) (H':List Ob) (h1:awp P cf b N c (gK id (lN (fun X'=>leK (chg++kept X.T ss) H' X'\/∃ n,b.fx.length<=n/\leT n (chg++kept X.T ss) H' X') Q)) X) (h2:K ⟨tab (chg++kept X.T ss),H'⟩):awp P cf b N c (gK id (lN K Q)) X:=fun a w hR=>by
 refine Code.wp_mono (fun e a' w' ⟨X',k1,k2⟩ =>?_) (h1 a w hR)
 have key:∀ X',(leK (chg++kept X.T ss) H' X'\/∃ n,b.fx.length<=n/\leT n (chg++kept X.T ss) H' X')->R P cf b N X' a' w'->∃ X'',K X''/\R P cf b N X'' a' w':=fun X' k1 k2=>by
  rcases k1 with k1 | ⟨n,hn,k1⟩
  ·exact ⟨_,h2,k2.leK k1⟩
  ·exact ⟨_,h2,k2.le (k1.le hn)⟩
 cases e with
 | normal=>exact key X' k1 k2
 | exit id' =>
  by_cases he:id'=id
  ·simp only [gK,if_pos he,lN] at k1 ⊢
   exact key X' k1 k2
  ·simp only [gK,if_neg he] at k1 ⊢
   exact ⟨X',k1,k2⟩
 | _=>exact ⟨X',k1,k2⟩
end Am
end Go.Proofs.YtkcelmnbfbehbaaGreat
namespace Go.Proofs.YtkcelmnbfbehbaaGreat
open Go Go.RowKit Am
def mxN (w:List Int):Nat->Int
 | 0=>w.getD 0 0
 | k+1=>max (mxN w k) (w.getD (k+1) 0)
theorem LK (w:List Int) (hw:0<w.length):Does Tryz.prog 105 [.sl (.ints w)] (.imm (.int (mxN w (w.length-1)))):=by
 refine aC Tryz.func105 rfl Tryz.ntmps105 aX (fun _ _=>by kernel_rfl) rfl (Nat.le_of_ble_eq_true rfl) ?_
 intro M0 w0
 rw [Tryz.results105]
 (refine dJ 0 rfl fun hf =>?_;simp only [xp,simprocAttr] at hf;simp only [xf,simprocAttr] at hf)
 refine ah ?_
 refine aj amQ (fun hq =>?_) (fun hq =>?_)
 ·have hq:=of_decide_eq_true hq
  omega
 refine ah ?_
 refine au (α:=Nat) (fun k=>[(3,true,.int (mxN w k)),(4,true,.int ((k:Int)+1))]) [0] (fun _=>[]) (fun k=>k<=w.length-1) (fun k=>w.length-1-k) 0 (by exact dQ) (Nat.zero_le _) fun k hk =>?_
 simp only [xr,simprocAttr]
 refine ah ?_
 refine aj amQ (fun hc =>?_) (fun hc =>?_)
 ·have hc:=of_decide_eq_true hc
  have hk':k+1<w.length:=by omega
  refine ah ?_
  refine ⟨k+1,by omega,by omega,.inl ?_⟩
  exact dQ
 ·have hc:=of_decide_eq_false hc
  have hk':k=w.length-1:=by omega
  subst hk'
  refine ah ?_
  refine bV ?_
  rfl
def Ar (s n:Nat) (d:Int):List Int:=(List.range n).map fun x=>if s=x then 0 else d
def ug (n:Nat) (d:Int) (k:Nat):List (List Int):=(List.range k).map fun s=>Ar s n d
theorem U6 (a b:Int):Does Tryz.prog 113 [.int a,.int b] (.imm (.int (max a b))):=by
 refine aC Tryz.func113 rfl Tryz.ntmps113 aX (fun _ _=>by kernel_rfl) rfl (Nat.le_of_ble_eq_true rfl) ?_
 intro M0 w0
 rw [Tryz.results113]
 refine ah ?_
 refine aj amQ (fun hc =>?_) (fun hc =>?_)
 ·have:=of_decide_eq_true hc
  refine ah ?_
  refine bV ?_
  rw [Int.max_eq_left (by omega)]
 ·have:=of_decide_eq_false hc
  refine ah ?_
  refine bV ?_
  rw [Int.max_eq_right (by omega)]
theorem Ou (s n:Nat) (d:Int):Ar s (n+1) d=Ar s n d++[if s=n then 0 else d]:=by simp [Ar,List.range_succ]
theorem RY (n:Nat) (d:Int) (k:Nat):ug n d (k+1)=ug n d k++[Ar k n d]:=by simp [ug,List.range_succ]
theorem GH (s n:Nat) (d:Int):(Ar s n d).length=n:=by simp [Ar]
theorem Ey (n:Nat) (d:Int) (k:Nat):(ug n d k).length=k:=by simp [ug]
theorem oM (n:Nat) (d:Int) (hn:n<=8):bG Tryz.prog 64 [.int n,.int d] [] [] (.tv (.agg [.own 0])) [.tree [29,3] (.ii (ug n d n))]:=by
 refine bY Tryz.func64 rfl Tryz.ntmps64 aX (fun _ _=>by kernel_rfl) rfl rfl rfl ?_
 intro M0 w0 S φ0
 rw [Tryz.results64]
 refine SS ?_
 refine SS ?_
 (refine kQ 1 3 [] rfl rfl rfl ?_;simp only [xu,simprocAttr])
 refine ah ?_
 refine au (α:=Nat) (fun k=>[(6,true,.int k)]) [0,1,4,5] (fun k=>[.box [.b (.val (.slice none 0 0))],.tree [29,3] (.ii (ug n d k)),.box [.own 1]]) (fun k=>k<=n) (fun k=>n-k) 0 (by exact dQ) (Nat.zero_le _) fun k hk =>?_
 have hu:=Ey n d k
 simp only [xr,simprocAttr]
 refine ah ?_
 refine aj amQ (fun hc =>?_) (fun hc =>?_)
 ·have hc:=of_decide_eq_true hc
  refine ah ?_
  refine au (α:=Nat) (fun j=>[(8,true,.int j)]) [0,1,4,5,6,7] (fun j=>[.box [.b (.val (.slice none 0 0))],.tree [29,3] (.ii (ug n d k)),.box [.own 1],.row 3 (.ints (Ar k j d))]) (fun j=>j<=n) (fun j=>n-j) 0 (by exact dQ) (Nat.zero_le _) fun j hj =>?_
  have hv:=GH k j d
  have hnx:=Ou k j d
  simp only [xr,simprocAttr]
  refine ah ?_
  refine aj amQ (fun hc2 =>?_) (fun hc2 =>?_)
  ·have hc2:=of_decide_eq_true hc2
   refine ah ?_
   refine aj amQ (fun hc3 =>?_) (fun hc3 =>?_)
   ·have hc3:=of_decide_eq_true hc3
    refine ah ?_
    refine ⟨j+1,by omega,by omega,.inr ⟨4,Nat.le_of_ble_eq_true rfl,aJ ?_ rfl rfl rfl⟩⟩
    exact bI (by rw [hnx,if_pos (by omega)];rfl)
   ·have hc3:=of_decide_eq_false hc3
    refine ah ?_
    refine ⟨j+1,by omega,by omega,.inr ⟨4,Nat.le_of_ble_eq_true rfl,aJ ?_ rfl rfl rfl⟩⟩
    exact bI (by rw [hnx,if_neg (by omega)];rfl)
  ·have hc2:=of_decide_eq_false hc2
   obtain rfl:j=n:=by omega
   have hnk:=RY j d k
   refine ah ?_
   refine ⟨k+1,by omega,by omega,.inr ⟨3,Nat.le_of_ble_eq_true rfl,aJ ?_ rfl rfl rfl⟩⟩
   exact bI (by rw [hnk];rfl)
 ·have hc:=of_decide_eq_false hc
  obtain rfl:k=n:=by omega
  refine ah ?_
  (simp only [aG,aN];refine dw [1] rfl ⟨rfl,trivial⟩ rfl rfl rfl rfl ⟨amK,rfl⟩ ?_;try rfl)
def Shp (n:Nat) (t:List (List Int)):Prop:=t.length=n/\∀ r∈t,r.length=n
theorem LJ (n:Nat) (d:Int):Shp n (ug n d n):=⟨Ey n d n,fun r hr=>by obtain ⟨s,_,rfl⟩:=List.mem_map.1 hr;exact GH s n d⟩
theorem Oj {n:Nat} {t:List (List Int)} (h:Shp n t) {i:Nat} (hi:i<n):(t.getD i []).length=n:=by
 have hl:i<t.length:=by rw [h.1];exact hi
 rw [List.getD_eq_getElem?_getD,List.getElem?_eq_getElem hl]
 exact h.2 _ (List.getElem_mem hl)
theorem YV {n:Nat} {t:List (List Int)} (h:Shp n t) {i:Nat} {r:List Int} (hr:r.length=n):Shp n (t.set i r) :=
 ⟨by simp [h.1],fun q hq=>by rcases List.mem_or_eq_of_mem_set hq with h1 | h1;exact h.2 q h1;rw [h1];exact hr⟩
def lnK (xs:List Int) (i:Nat) (t:List (List Int)):Nat->List (List Int)
 | 0=>t
 | k+1=>(lnK xs i t k).set i (((lnK xs i t k).getD i []).set k (max (xs.getD i 0-xs.getD k 0) (xs.getD k 0-xs.getD i 0)))
def lnI (xs:List Int):Nat->List (List Int)
 | 0=>ug xs.length 0 xs.length
 | i+1=>lnK xs i (lnI xs i) xs.length
theorem AZ {xs:List Int} {n i:Nat} {t:List (List Int)} (ht:Shp n t) (hi:i<n):∀ k,Shp n (lnK xs i t k)
 | 0=>ht
 | k+1=>YV (AZ ht hi k) (by rw [List.length_set];exact Oj (AZ ht hi k) hi)
theorem Io (xs:List Int):∀ i,i<=xs.length->Shp xs.length (lnI xs i)
 | 0,_=>LJ _ _
 | i+1,h=>AZ (Io xs i (by omega)) (by omega) _
set_option maxRecDepth 4000 in
set_option maxHeartbeats 2000000 in
theorem U9 (xs:List Int) (hn:xs.length<=8) (hx:∀ x∈xs,-1000<=x/\x<=1000):bG Tryz.prog 121 [.sl (.ints xs)] [] [] (.tv (.agg [.own 0])) [.tree [29,3] (.ii (lnI xs xs.length))]:=by
 have hxd:∀ j,-1000<=xs.getD j 0/\xs.getD j 0<=1000:=fun j=>by
  rw [List.getD_eq_getElem?_getD]
  rcases Nat.lt_or_ge j xs.length with h | h
  ·rw [List.getElem?_eq_getElem h];exact hx _ (List.getElem_mem h)
  ·rw [List.getElem?_eq_none h];simp
 refine bY Tryz.func121 rfl Tryz.ntmps121 aX (fun _ _=>by kernel_rfl) rfl rfl rfl ?_
 intro M0 w0 S φ0
 rw [Tryz.results121]
 refine ah ?_
 (refine .inr (.inl (bP [] (oM xs.length 0 hn) rfl rfl rfl rfl trivial rfl rfl rfl rfl ?_));refine amC ?_)
 refine ah ?_
 refine au (α:=Nat) (fun i=>[(4,true,.int i)]) [0,2,3] (fun i=>[.box [.b (.val (.slice none 0 0))],.tree [29,3] (.ii (lnI xs i)),.box [.own 1]]) (fun i=>i<=xs.length) (fun i=>xs.length-i) 0 (by exact dQ) (Nat.zero_le _) fun i hi =>?_
 have hs:=Io xs i hi
 simp only [xr,simprocAttr]
 refine ah ?_
 refine aj amQ (fun hc =>?_) (fun hc =>?_)
 ·have hc:=of_decide_eq_true hc
  have hi':i<xs.length:=by omega
  refine ah ?_
  refine au (α:=Nat) (fun k=>[(5,true,.int k)]) [0,2,3,4] (fun k=>[.box [.b (.val (.slice none 0 0))],.tree [29,3] (.ii (lnK xs i (lnI xs i) k)),.box [.own 1]]) (fun k=>k<=xs.length) (fun k=>xs.length-k) 0 (by exact dQ) (Nat.zero_le _) fun k hk =>?_
  have hs2:=AZ (xs:=xs) hs hi' k
  have hl1:=hs2.1
  have hl2:=Oj hs2 hi'
  have b1:=hxd i
  have b2:=hxd k
  simp only [xr,simprocAttr]
  refine ah ?_
  refine aj amQ (fun hc2 =>?_) (fun hc2 =>?_)
  ·have hc2:=of_decide_eq_true hc2
   refine ah ?_
   (refine kP 1 (i) rfl amT ?_;simp only [xr,simprocAttr])
   (refine amB ?_;refine bM 0 [(26,[3])] [3] [(25,[]),(26,[])] ?_;refine mg ?_)
   ((try refine Or.inl ?_);refine ⟨_,(U6 _ _),amF,?_⟩;refine vN ?_)
   (refine mF 1 rfl (by decide) rfl rfl amT rfl ?_;simp only [xu,simprocAttr])
   refine ah ?_
   refine ⟨k+1,by omega,by omega,.inr ⟨3,Nat.le_of_ble_eq_true rfl,aJ ?_ rfl rfl rfl⟩⟩
   exact bI (rfl)
  ·have hc2:=of_decide_eq_false hc2
   obtain rfl:k=xs.length:=by omega
   refine ah ?_
   refine ⟨i+1,by omega,by omega,.inr ⟨3,Nat.le_of_ble_eq_true rfl,aJ ?_ rfl rfl rfl⟩⟩
   exact bI (rfl)
 ·have hc:=of_decide_eq_false hc
  obtain rfl:i=xs.length:=by omega
  refine ah ?_
  (simp only [aG,aN];refine dw [1] rfl ⟨rfl,trivial⟩ rfl rfl rfl rfl ⟨amK,rfl⟩ ?_;try rfl)
theorem Ag (n:Nat) (xs:List Int) (hn:n<=9223372036854775807):Does Tryz.prog 88 [.int n,.sl (.ints xs)] (.imm (.bool (jq n xs))):=nJ (fun _ _=>by kernel_rfl) fun M w us hm ha=>by
 obtain ⟨u,us',rfl,h1,h2⟩:=dh ha
 obtain ⟨u',us'',rfl,h3,h4⟩:=dh h2
 obtain rfl:=iq h4
 obtain rfl:u = .int .i64 n:=h1
 exact (vC w u' n xs hn (yK hm h3)).mono fun e w' ⟨h5,h6⟩=>⟨h5,h6 ▸ Below.refl _ _⟩
def BK (xs:List Int):Nat->Cu->Cu
 | 0,c=>c
 | k+1,c=>aqC xs (BK xs k c)
def amL (xs:List Int):Nat->Cu->List Int
 | 0,_=>[]
 | k+1,c=>amL xs k c++[amV xs (BK xs k c)]
theorem AA (xs:List Int) (c:Cu):∀ k,(amL xs k c).length=k
 | 0=>rfl
 | k+1=>by simp [amL,AA xs c k]
theorem xw {xs:List Int} {m:Int} {c:Cu} (h:fE m c):∀ k:Nat,fE (m+2*k) (BK xs k c)
 | 0=>h.mono (by omega)
 | k+1=>(rY (xw h k)).mono (by omega)
theorem Xt {xs:List Int} {m:Int} {c:Cu} (h:fE m c) (hx:0<xs.length):∀ (k:Nat) (v:Int),v∈amL xs k c->v∈xs
 | 0,v,hv=>by simp [amL] at hv
 | k+1,v,hv=>by
  simp only [amL,List.mem_append,List.mem_singleton] at hv
  rcases hv with hv | rfl
  ·exact Xt h hx k v hv
  ·exact GZ (xw h k) hx
abbrev csP:List Int:=[0,0,1,2,3,-1,5]
def rwN (n:Nat) (c:Cu):Bool:=decide (fH (amL csP n c) ((amL csP n c).length-1)<0)
def rwD (n:Nat) (c:Cu):Cu:=if rwN n c=true then pkC 3 (BK csP n c) else BK csP n c
def rwB (n:Nat) (c:Cu):Bool:=(rwN n c && decide (pkV 3 (BK csP n c)=0)) || !jq n (amL csP n c)
def rwV (n:Nat) (c:Cu):List Int:=if rwB n c=true then (amL csP n c).set (pkV n (rwD n c)).toNat 0 else amL csP n c
def rwC (n:Nat) (c:Cu):Cu:=if rwB n c=true then pkC n (rwD n c) else rwD n c
theorem YT (n:Nat) (c:Cu):(rwV n c).length=n:=by
 unfold rwV
 split
 ·rw [List.length_set,AA]
 ·exact AA _ _ _
theorem WS {n:Nat} {m:Int} {c:Cu} (h:fE m c):fE (m+(2*n+2)) (rwD n c):=by
 unfold rwD
 split
 ·exact (cO (xw h n)).mono (by omega)
 ·exact (xw h n).mono (by omega)
theorem acU {n:Nat} {m:Int} {c:Cu} (h:fE m c):fE (m+(2*n+4)) (rwC n c):=by
 unfold rwC
 split
 ·exact (cO (WS h)).mono (by omega)
 ·exact (WS h).mono (by omega)
def rsC (n:Nat):Nat->Cu->Cu
 | 0,c=>c
 | k+1,c=>rwC n (rsC n k c)
def rsV (n:Nat):Nat->Cu->List (List Int)
 | 0,_=>[]
 | k+1,c=>rsV n k c++[rwV n (rsC n k c)]
theorem IK (n:Nat) (c:Cu):∀ k,(rsV n k c).length=k
 | 0=>rfl
 | k+1=>by simp [rsV,IK n c k]
theorem Qn (n:Nat) (c:Cu):∀ k,∀ r∈rsV n k c,r.length=n
 | 0=>by simp [rsV]
 | k+1=>fun r hr=>by
  simp only [rsV,List.mem_append,List.mem_singleton] at hr
  rcases hr with hr | rfl
  ·exact Qn n c k r hr
  ·exact YT _ _
theorem Og {n:Nat} {m:Int} {c:Cu} (h:fE m c):∀ k:Nat,fE (m+(2*n+4)*k) (rsC n k c)
 | 0=>h.mono (by omega)
 | k+1=>by
  have h1:=acU (n:=n) (Og (n:=n) h k)
  exact h1.mono (by rw [Int.natCast_add,Int.natCast_one,Int.mul_add,Int.mul_one];omega)
def stN (row:List Int):Nat->List Int
 | 0=>row
 | j+1=>(stN row j).set j (-1)
theorem Qu (row:List Int):∀ j,(stN row j).length=row.length
 | 0=>rfl
 | j+1=>by simp [stN,Qu row j]
def prF (tag:Int) (k n:Nat) (m s:List (List Int)) (c:Cu):List (List Int)×List (List Int)×Cu :=
 if tag=0 then (m,s.set k ((s.getD k []).set 0 (amV [-2,20,21] c)),aqC [-2,20,21] c)
 else if tag=1 then (m,s.set k (s.getD k []++[0]),c)
 else if tag=2 then (m,s.set k (stN (s.getD k []) n),c)
 else if tag=3 then (m.set 0 ((m.getD 0 []).set (n-1) (amV [0,99,-1] c)),s,aqC [0,99,-1] c)
 else if tag=4 then (m,s++s++s++s,c)
 else if tag=5 then (ug 5 1 5,s,c)
 else (m,s,c)
theorem aak {tag:Int} {k n:Nat} {m s:List (List Int)} {c:Cu} {m0:Int} (h:fE m0 c) (hm:m.length<=4) (hs:s.length<=4) (hs1:1<=s.length):(prF tag k n m s c).1.length<=5/\(prF tag k n m s c).2.1.length<=16/\1<=(prF tag k n m s c).2.1.length/\fE (m0+2) (prF tag k n m s c).2.2:=by
 have h2:fE (m0+2) c:=h.mono (by omega)
 unfold prF
 repeat' split
 all_goals first
  | exact ⟨by simp;omega,by simp;omega,by simp;omega,rY h⟩
  | exact ⟨by simp;omega,by simp;omega,by simp;omega,h2⟩
  | exact ⟨by rw [Ey];omega,by simp;omega,by simp;omega,h2⟩
  | exact ⟨by dsimp only;omega,by simp;omega,by simp;omega,h2⟩
abbrev nsP:List Int:=[1,2,2,3,3,4]
abbrev ksP:List Int:=[1,2,2,3,4]
def D6 (c:Cu):List Int:=[pkV 2 c,2+pkV 2 (pkC 2 c),5,6+pkV 3 (pkC 2 (pkC 2 c))]
def mvP (n:Nat) (d:Int) (c:Cu):List (List Int):=if pkV 2 c=0 then lnI ((D6 (pkC 2 c)).take n) ((D6 (pkC 2 c)).take n).length else ug n d n
def mvC (c:Cu):Cu:=if pkV 2 c=0 then pkC 3 (pkC 2 (pkC 2 (pkC 2 c))) else pkC 2 c
theorem VI {m:Int} {c:Cu} (h:fE m c):fE (m+8) (mvC c):=by
 unfold mvC
 split
 ·exact (cO (cO (cO (cO h)))).mono (by omega)
 ·exact (cO h).mono (by omega)
theorem Wp {m:Int} {c:Cu} (h:fE m c):∀ x∈D6 c,-1000<=x/\x<=1000:=by
 have h1:=jI 2 h
 have h2:=jI 2 (cO (n:=2) h)
 have h3:=jI 3 (cO (n:=2) (cO (n:=2) h))
 have e1:=h1.2 (by omega)
 have e2:=h2.2 (by omega)
 have e3:=h3.2 (by omega)
 intro x hx
 simp only [D6,List.mem_cons,List.not_mem_nil,or_false] at hx
 rcases hx with rfl | rfl | rfl | rfl<;>omega
theorem Yq {n:Nat} {d:Int} {c:Cu} (hn:n<=4):Shp n (mvP n d c):=by
 unfold mvP
 split
 ·have h:=Io ((D6 (pkC 2 c)).take n) _ (Nat.le_refl _)
  have e:((D6 (pkC 2 c)).take n).length=n:=by simp [D6];omega
  rw [e] at h
  rw [e]
  exact h
 ·exact LJ n d
end Go.Proofs.YtkcelmnbfbehbaaGreat
