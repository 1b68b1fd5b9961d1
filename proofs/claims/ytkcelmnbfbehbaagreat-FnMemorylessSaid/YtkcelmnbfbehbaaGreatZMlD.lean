/- Steps that turn names alone, ahead of a place where branches meet. Conditions: those that each names. -/
import Derived.Test.YtkcelmnbfbehbaaGreatGQU
set_option linter.all false
namespace Go.Proofs.YtkcelmnbfbehbaaGreat
namespace Am
open Go Go.RowKit
def Lead (P:Program) (cf:Cfg) (b:Base) (N:Nat) (X Y:St):Prop:=∀ a w,R P cf b N X a w->R P cf b N Y a w
section
variable {P:Program} {cf:Cfg} {b:Base} {N:Nat} {X Y:St} {K:St->Prop} {Q:Exit->St->Prop} {c:Code}
theorem Tt (S0:St) (h1:awp P cf b N c (lN (fun X'=>Lead P cf b N X' S0) Q) X) (h2:K S0):awp P cf b N c (lN K Q) X:=fun a w hR=>by
 refine Code.wp_mono (fun e a' w' ⟨X',k1,k2⟩ =>?_) (h1 a w hR)
 cases e with
 | normal=>exact ⟨_,h2,k1 a' w' k2⟩
 | _=>exact ⟨X',k1,k2⟩
theorem KH (i:Nat) {e:Nat} {d:Cn} (hi:X.H[i]? = some (.row e d)) (h:Lead P cf b N ⟨X.T.map (Lf.frz i d),(X.H.map (Ob.map (Lf.frz i d))).set i .gone⟩ Y):Lead P cf b N X Y:=fun a w ⟨φ,β,M,hR⟩=>by
 obtain ⟨β',M',hR'⟩:=hR.freeze hi
 exact h a w ⟨φ,β',M',hR'⟩
theorem Rk (i:Nat) {es:List Nat} {d:Cn} (hi:X.H[i]? = some (.tree es d)) (h:Lead P cf b N ⟨X.T.map (Lf.frz i d),(X.H.map (Ob.map (Lf.frz i d))).set i .gone⟩ Y):Lead P cf b N X Y:=fun a w ⟨φ,β,M,hR⟩=>by
 obtain ⟨β',M',hR'⟩:=hR.Pn hi
 exact h a w ⟨φ,β',M',hR'⟩
theorem Rj (i:Nat) {cs:List Lf} {xs:List B} (hi:X.H[i]? = some (.box cs)) (hx:cs.mapM asB=some xs) (h:Lead P cf b N ⟨X.T.map (Lf.oC i xs),(X.H.map (Ob.map (Lf.oC i xs))).set i .gone⟩ Y):Lead P cf b N X Y:=fun a w ⟨φ,β,M,hR⟩=>by
 obtain ⟨β',M',hR'⟩:=hR.XY hi hx
 exact h a w ⟨φ,β',M',hR'⟩
theorem PV (i n:Nat) {p:Ob} (hi:X.H[i]? = some .gone) (hn:X.H[n]? = some p) (hne:i≠n) (hfi:b.fx.getD i false=false) (hfn:b.fx.getD n false=false) (h:Lead P cf b N ⟨X.T.map (Lf.mv i n),((X.H.map (Ob.map (Lf.mv i n))).set i (p.map (Lf.mv i n))).set n .gone⟩ Y):Lead P cf b N X Y:=fun a w ⟨φ,β,M,hR⟩=>by
 obtain ⟨φ',β',hR'⟩:=hR.mv hi hn hne hfi hfn
 exact h a w ⟨φ',β',M,hR'⟩
theorem Dp (n:Nat) {B:List (Nat×Bool×AV)} {H':List Ob} (hfx:b.fx.length<=n) (hl:leT n B H' X):Lead P cf b N X ⟨tab B,H'⟩:=fun _ _ hR=>hR.le (hl.le hfx)
theorem Vj {B:List (Nat×Bool×AV)} {H':List Ob} (hl:leK B H' X):Lead P cf b N X ⟨tab B,H'⟩:=fun _ _ hR=>hR.leK hl
end
end Am
end Go.Proofs.YtkcelmnbfbehbaaGreat
namespace Go.Proofs.YtkcelmnbfbehbaaGreat
open Go Go.RowKit Am
theorem Et {m s:List (List Int)} {c:Cu} (hc:fE 999999999000 c):∃ x c',(∀ m0,fE m0 c->fE (m0+4) c')/\bG Tryz.prog 65 [.lf (.ptr 0 0),.tv (.agg [.b (.sl (.ii m)),.b (.sl (.ii s))])] [true] [nI c] (.int x) [nI c']:=by
 by_cases h0:(m.length:Int)=0
 ·refine ⟨amV [-1,m.length] c,aqC [-1,m.length] c,fun m0 h=>(rY h).mono (by omega),?_⟩
  refine bY Tryz.func65 rfl Tryz.ntmps65 aX (fun _ _=>by kernel_rfl) rfl rfl rfl ?_
  intro M0 w0 S φ0
  rw [Tryz.results65]
  refine ah ?_
  rw [decide_eq_true h0]
  (refine .inr (.inr (BX (.bool false) (by first | rfl | (simp only [xr,simprocAttr];done)) rfl ?_));refine amC ?_)
  refine ah ?_
  refine aj amQ (fun hb =>?_) (fun hb =>?_)
  ·refine ah ?_
   (refine .inr (.inl (bP [0] (jR (xs:=[-1,m.length]) (hc.mono (by omega)) (by simp)) rfl rfl rfl rfl ⟨rfl,trivial⟩ rfl rfl rfl rfl ?_));refine amC ?_)
   refine ah ?_
   (simp only [aG,aN];refine dw [0] rfl ⟨rfl,trivial⟩ rfl rfl rfl rfl rfl ?_;try rfl)
  ·simp at hb
 ·by_cases h1:pkV 20 c=0
  ·have hc1:=cO (n:=20) hc
   refine ⟨amV [-1,m.length] (pkC 20 c),aqC [-1,m.length] (pkC 20 c),fun m0 h=>(rY (cO h)).mono (by omega),?_⟩
   refine bY Tryz.func65 rfl Tryz.ntmps65 aX (fun _ _=>by kernel_rfl) rfl rfl rfl ?_
   intro M0 w0 S φ0
   rw [Tryz.results65]
   refine ah ?_
   rw [decide_eq_false h0]
   (refine .inr (.inr (sF [0] (Gm (n:=20) (hc.mono (by omega))) (by first | rfl | (simp only [xr,simprocAttr];done)) rfl rfl rfl ⟨rfl,trivial⟩ rfl rfl rfl rfl ?_));refine amC ?_)
   rw [decide_eq_true h1]
   refine ah ?_
   refine aj amQ (fun hb =>?_) (fun hb =>?_)
   ·refine ah ?_
    (refine .inr (.inl (bP [0] (jR (xs:=[-1,m.length]) (hc1.mono (by omega)) (by simp)) rfl rfl rfl rfl ⟨rfl,trivial⟩ rfl rfl rfl rfl ?_));refine amC ?_)
    refine ah ?_
    (simp only [aG,aN];refine dw [0] rfl ⟨rfl,trivial⟩ rfl rfl rfl rfl rfl ?_;try rfl)
   ·simp at hb
  ·have hc1:=cO (n:=20) hc
   refine ⟨pkV m.length (pkC 20 c),pkC m.length (pkC 20 c),fun m0 h=>(cO (cO h)).mono (by omega),?_⟩
   refine bY Tryz.func65 rfl Tryz.ntmps65 aX (fun _ _=>by kernel_rfl) rfl rfl rfl ?_
   intro M0 w0 S φ0
   rw [Tryz.results65]
   refine ah ?_
   rw [decide_eq_false h0]
   (refine .inr (.inr (sF [0] (Gm (n:=20) (hc.mono (by omega))) (by first | rfl | (simp only [xr,simprocAttr];done)) rfl rfl rfl ⟨rfl,trivial⟩ rfl rfl rfl rfl ?_));refine amC ?_)
   rw [decide_eq_false h1]
   refine ah ?_
   refine aj amQ (fun hb =>?_) (fun hb =>?_)
   ·simp at hb
   ·refine ah ?_
    (refine .inr (.inl (bP [0] (nV (n:=m.length) (hc1.mono (by omega))) rfl rfl rfl rfl ⟨rfl,trivial⟩ rfl rfl rfl rfl ?_));refine amC ?_)
    refine ah ?_
    (simp only [aG,aN];refine dw [0] rfl ⟨rfl,trivial⟩ rfl rfl rfl rfl rfl ?_;try rfl)
abbrev mlR (m s:List (List Int)) (x:Int):AV := .tup [.agg [.b (.sl (.ii m)),.b (.sl (.ii s))],.one (.b (.val (.int .i64 x)))]
def q2A (s:List (List Int)) (k:Nat):List Int:=[(s.getD k []).getD 0 0,(s.getD k []).getD 1 0]
def q2R (s:List (List Int)) (k:Nat):List Int:=if (s.getD k []).getD 0 0<0/\(s.getD k []).getD 1 0<0 then [1,(s.getD k []).getD 1 0] else q2A s k
def q2S (s:List (List Int)) (k:Nat):List (List Int):=(List.range k).map (q2R s)
theorem YD (s:List (List Int)) (k:Nat):(q2S s k).length=k:=by simp [q2S]
theorem Ll (s:List (List Int)) (k:Nat):q2S s (k+1)=q2S s k++[q2R s k]:=by simp [q2S,List.range_succ]
abbrev mlB (m s:List (List Int)):Bool:=bif decide (2<(m.length:Int)) then aO m s else false
set_option maxHeartbeats 2000000 in
theorem MO {bs:List Int} {m s:List (List Int)} {c1:Cu} (hc1:fE 1000 c1) (d1:bG Tryz.prog 61 [.lf (.ptr 0 0)] [true] [nI (bs,0,0)] (.tv (.agg [.b (.sl (.ii m)),.b (.sl (.ii s))])) [nI c1]) (h0:mlB m s=false):∃ x,Does Tryz.prog 21 [.lf (.b (.raw bs))] (.imm (mlR m s x)):=by
 obtain ⟨x,c3,b3,d3⟩:=Et (m:=m) (s:=s) (c:=c1) (hc1.mono (by omega))
 refine ⟨x,?_⟩
 refine aC Tryz.func21 rfl Tryz.ntmps21 aX (fun _ _=>by kernel_rfl) rfl (Nat.le_of_ble_eq_true rfl) ?_
 intro M0 w0
 rw [Tryz.results21]
 refine ah ?_
 (refine .inr (.inl (bP [1] (d1) rfl rfl rfl rfl ⟨rfl,trivial⟩ rfl rfl rfl rfl ?_));refine amC ?_)
 refine ah ?_
 ((try refine Or.inl ?_);refine ⟨_,(fun _=>sS m s),.inl rfl,?_⟩;refine amC ?_)
 rw [show (bif decide (2<(m.length:Int)) then aO m s else false)=false from h0]
 (refine .inr (.inr (BX (.bool false) (by first | rfl | (simp only [xr,simprocAttr];done)) rfl ?_));refine amC ?_)
 refine ah ?_
 refine aj amQ (fun hz =>?_) (fun hz =>?_)
 ·cases hz
 ·skip
  (refine amB ?_;refine bM 0 [(3,[1]),(4,[0])] [1,0] [(1,[0]),(3,[0]),(4,[1])] ?_;refine mg ?_)
  ((first | refine .inr (.inr ⟨1,_,_,iE (d3) rfl rfl rfl rfl rfl rfl rfl,?_⟩) | refine .inr ⟨1,_,_,iE (d3) rfl rfl rfl rfl rfl rfl rfl,?_⟩ | refine ⟨1,_,_,iE (d3) rfl rfl rfl rfl rfl rfl rfl,?_⟩);refine vN ?_)
  refine ah ?_
  refine ny ?_
  rfl
set_option maxHeartbeats 2000000 in
theorem MP {bs:List Int} {m s:List (List Int)} {c1:Cu} (hc1:fE 1000 c1) (d1:bG Tryz.prog 61 [.lf (.ptr 0 0)] [true] [nI (bs,0,0)] (.tv (.agg [.b (.sl (.ii m)),.b (.sl (.ii s))])) [nI c1]) (h0:mlB m s=true) (hk:pkV 4 c1=0):∃ x,Does Tryz.prog 21 [.lf (.b (.raw bs))] (.imm (mlR m s x)):=by
 have hc2:=cO (n:=4) hc1
 obtain ⟨x,c3,b3,d3⟩:=Et (m:=m) (s:=s) (c:=pkC 4 c1) (hc2.mono (by omega))
 refine ⟨x,?_⟩
 have d2:=Gm (n:=4) (c:=c1) (hc1.mono (by omega))
 rw [decide_eq_true hk] at d2
 refine aC Tryz.func21 rfl Tryz.ntmps21 aX (fun _ _=>by kernel_rfl) rfl (Nat.le_of_ble_eq_true rfl) ?_
 intro M0 w0
 rw [Tryz.results21]
 refine ah ?_
 (refine .inr (.inl (bP [1] (d1) rfl rfl rfl rfl ⟨rfl,trivial⟩ rfl rfl rfl rfl ?_));refine amC ?_)
 refine ah ?_
 ((try refine Or.inl ?_);refine ⟨_,(fun _=>sS m s),.inl rfl,?_⟩;refine amC ?_)
 rw [show (bif decide (2<(m.length:Int)) then aO m s else false)=true from h0]
 (refine .inr (.inr (sF [1] (d2) (by first | rfl | (simp only [xr,simprocAttr];done)) rfl rfl rfl ⟨rfl,trivial⟩ rfl rfl rfl rfl ?_));refine amC ?_)
 refine ah ?_
 refine aj amQ (fun hz =>?_) (fun hz =>?_)
 ·cases hz
 ·skip
  (refine amB ?_;refine bM 0 [(3,[1]),(4,[0])] [1,0] [(1,[0]),(3,[0]),(4,[1])] ?_;refine mg ?_)
  ((first | refine .inr (.inr ⟨1,_,_,iE (d3) rfl rfl rfl rfl rfl rfl rfl,?_⟩) | refine .inr ⟨1,_,_,iE (d3) rfl rfl rfl rfl rfl rfl rfl,?_⟩ | refine ⟨1,_,_,iE (d3) rfl rfl rfl rfl rfl rfl rfl,?_⟩);refine vN ?_)
  refine ah ?_
  refine ny ?_
  rfl
set_option maxHeartbeats 4000000 in
theorem MQ {bs:List Int} {m s:List (List Int)} {c1:Cu} (hs:s.length<=16) (hc1:fE 1000 c1) (d1:bG Tryz.prog 61 [.lf (.ptr 0 0)] [true] [nI (bs,0,0)] (.tv (.agg [.b (.sl (.ii m)),.b (.sl (.ii s))])) [nI c1]) (h0:mlB m s=true) (hk:¬ pkV 4 c1=0):∃ m' s' x,Does Tryz.prog 21 [.lf (.b (.raw bs))] (.imm (mlR m' s' x)):=by
 have hc2:=cO (n:=4) hc1
 have h2:2<m.length/\aO m s=true:=by
  unfold mlB at h0
  cases hd:decide (2<(m.length:Int))
  ·rw [hd] at h0;cases h0
  ·rw [hd] at h0
   exact ⟨by have:=of_decide_eq_true hd;omega,h0⟩
 obtain ⟨hm2,hp⟩:=h2
 have hrow:∀ r,r<s.length->(s.getD r []).length=m.length:=fun r hr=>eG hp r hr
 have hm0:=(iH hp (show 0<m.length by omega)).1
 obtain ⟨x,c3,b3,d3⟩:=Et (m:=ug 2 ((m.getD 0 []).getD 1 0) 2) (s:=q2S s s.length) (c:=pkC 4 c1) (hc2.mono (by omega))
 refine ⟨ug 2 ((m.getD 0 []).getD 1 0) 2,q2S s s.length,x,?_⟩
 have d2:=Gm (n:=4) (c:=c1) (hc1.mono (by omega))
 rw [decide_eq_false hk] at d2
 refine aC Tryz.func21 rfl Tryz.ntmps21 aX (fun _ _=>by kernel_rfl) rfl (Nat.le_of_ble_eq_true rfl) ?_
 intro M0 w0
 rw [Tryz.results21]
 refine ah ?_
 (refine .inr (.inl (bP [1] (d1) rfl rfl rfl rfl ⟨rfl,trivial⟩ rfl rfl rfl rfl ?_));refine amC ?_)
 refine ah ?_
 ((try refine Or.inl ?_);refine ⟨_,(fun _=>sS m s),.inl rfl,?_⟩;refine amC ?_)
 rw [show (bif decide (2<(m.length:Int)) then aO m s else false)=true from h0]
 (refine .inr (.inr (sF [1] (d2) (by first | rfl | (simp only [xr,simprocAttr];done)) rfl rfl rfl ⟨rfl,trivial⟩ rfl rfl rfl rfl ?_));refine amC ?_)
 refine ah ?_
 refine aj amQ (fun hz =>?_) (fun hz =>?_)
 ·have hrl0:=hrow
  refine ah ?_
  (refine .inr (.inl (bP [] (oM 2 ((m.getD 0 []).getD 1 0) (by omega)) rfl rfl rfl rfl trivial rfl rfl rfl rfl ?_));refine amC ?_)
  refine ah ?_
  (refine iZ 4 1 29 (.ii []) rfl rfl rfl (by first | trivial | (intro _ h;cases h)) ?_;simp only [xr,simprocAttr])
  (refine kQ 5 3 [] rfl rfl rfl ?_;simp only [xu,simprocAttr])
  refine au (α:=Nat) (fun k=>[(7,true,.int k)]) [2,4,5,6] (fun k=>[.box [.b (.val (.slice none 0 0)),.b (.val (.slice none 0 0))],nI (pkC 4 c1),.box [.b (.sl (.ii m)),.b (.sl (.ii s))],.tree [29,3] (.ii (ug 2 ((m.getD 0 []).getD 1 0) 2)),.box [.own 3,.own 5],.tree [29,3] (.ii (q2S s k))]) (fun k=>k<=s.length) (fun k=>s.length-k) 0 (by exact dQ) (Nat.zero_le _) fun k hk =>?_
  have hql:=YD s k
  simp only [xr,simprocAttr]
  refine ah ?_
  refine aj amQ (fun hd =>?_) (fun hd =>?_)
  ·have hd:=of_decide_eq_true hd
   have hk':k<s.length:=by omega
   have hrl:=hrow k hk'
   (refine amB ?_;refine bM 1 [(14,[6])] [6] [(14,[]),(15,[])] ?_;refine mg ?_)
   refine ah ?_
   refine aj amQ (fun hc =>?_) (fun hc =>?_)
   ·have e:q2R s k=[1,(s.getD k []).getD 1 0]:=if_pos (by simpa using hc)
    refine ah ?_
    refine ⟨k+1,by omega,by omega,.inr ⟨6,Nat.le_of_ble_eq_true rfl,aJ ?_ rfl rfl rfl⟩⟩
    exact bI (by rw [Ll,e]<;>rfl)
   ·have e:q2R s k=q2A s k:=if_neg (by simpa using hc)
    refine ah ?_
    refine ⟨k+1,by omega,by omega,.inr ⟨6,Nat.le_of_ble_eq_true rfl,aJ ?_ rfl rfl rfl⟩⟩
    exact bI (by rw [Ll,e]<;>rfl)
  ·have hd:=of_decide_eq_false hd
   obtain rfl:k=s.length:=by omega
   (refine dU 3 rfl ?_;simp only [xz,simprocAttr])
   (refine dU 5 rfl ?_;simp only [xz,simprocAttr])
   refine ah ?_
   (refine amB ?_;refine bM 0 [(3,[1]),(4,[0])] [1,0] [(1,[0]),(3,[0]),(4,[1])] ?_;refine mg ?_)
   ((first | refine .inr (.inr ⟨1,_,_,iE (d3) rfl rfl rfl rfl rfl rfl rfl,?_⟩) | refine .inr ⟨1,_,_,iE (d3) rfl rfl rfl rfl rfl rfl rfl,?_⟩ | refine ⟨1,_,_,iE (d3) rfl rfl rfl rfl rfl rfl rfl,?_⟩);refine vN ?_)
   refine ah ?_
   refine ny ?_
   rfl
 ·cases hz
theorem MR {bs:List Int} (hb:∀ b∈bs,0<=b/\b<256):∃ m s x,Does Tryz.prog 21 [.lf (.b (.raw bs))] (.imm (mlR m s x)):=by
 have hc:fE 0 (bs,0,0):=⟨hb,Int.le_refl _,Int.le_refl _⟩
 obtain ⟨m,s,c1,a1,a2,a3,b1,d1⟩:=Ry (c:=(bs,0,0)) (hc.mono (by omega))
 have hc1:fE 1000 c1:=(b1 _ hc).mono (by omega)
 cases h:mlB m s
 ·obtain ⟨x,hx⟩:=MO hc1 d1 h
  exact ⟨m,s,x,hx⟩
 ·by_cases hk:pkV 4 c1=0
  ·obtain ⟨x,hx⟩:=MP hc1 d1 h hk
   exact ⟨m,s,x,hx⟩
  ·exact MQ a2 hc1 d1 h hk
theorem N9 (bs:List Int):Does Tryz.prog 5 [.lf (.b (.raw bs))] (.imm (.bool (decide (65536<(bs.length:Int))))):=by
 refine aC Tryz.func5 rfl Tryz.ntmps5 aX (fun _ _=>by kernel_rfl) rfl (Nat.le_of_ble_eq_true rfl) ?_
 intro M0 w0
 rw [Tryz.results5]
 refine ah ?_
 refine bV ?_
 rfl
theorem YJ (xs:List Int):Does Tryz.prog 14 [.sl (.ints xs),.sl (.ints xs)] (.imm (.bool true)):=by
 refine aC Tryz.func14 rfl Tryz.ntmps14 aX (fun _ _=>by kernel_rfl) rfl (Nat.le_of_ble_eq_true rfl) ?_
 intro M0 w0
 rw [Tryz.results14]
 (refine dJ 0 rfl fun hf =>?_;simp only [xp,simprocAttr] at hf;simp only [xf,simprocAttr] at hf)
 refine ah ?_
 refine aj amQ (fun hc =>?_) (fun hc =>?_)
 ·simp at hc
 refine ah ?_
 refine au (α:=Nat) (fun k=>[(5,true,.int k)]) [0,1] (fun _=>[]) (fun k=>k<=xs.length) (fun k=>xs.length-k) 0 (by exact dQ) (Nat.zero_le _) fun k hk =>?_
 simp only [xr,simprocAttr]
 refine ah ?_
 refine aj amQ (fun hd =>?_) (fun hd =>?_)
 ·have hd:=of_decide_eq_true hd
  have hk':k<xs.length:=by omega
  refine ah ?_
  refine aj amQ (fun he =>?_) (fun he =>?_)
  ·simp at he
  ·refine ah ?_
   refine ⟨k+1,by omega,by omega,.inl ?_⟩
   exact dQ
 ·refine ah ?_
  refine bV ?_
  rfl
end Go.Proofs.YtkcelmnbfbehbaaGreat
