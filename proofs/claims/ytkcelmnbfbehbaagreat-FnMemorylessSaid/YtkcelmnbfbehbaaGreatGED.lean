/- The edges of a graph of pairs: what is known of them. Conditions: a graph that is whole. -/
import Derived.Test.YtkcelmnbfbehbaaGreatZGsP
import Derived.Test.YtkcelmnbfbehbaaGreatRatP
import Derived.Test.YtkcelmnbfbehbaaGreatZGDR
set_option linter.all false
namespace Go.Proofs.YtkcelmnbfbehbaaGreat
open Go Go.RowKit Am
theorem adn {m s:List (List Int)} {g:PrT} (h:jh m s g) {c:List Int} (hc:c∈egs g.rows):∃ j,MX g.list.length j c:=by
 obtain ⟨row,h1,h2⟩:=List.mem_flatten.1 hc
 obtain ⟨j,hj,rfl⟩:=List.mem_iff_getElem.1 h1
 exact ⟨j,h.eg j hj c (by rw [getD_in hj];exact h2)⟩
theorem adl {m s:List (List Int)} {g:PrT} (h:jh m s g):ae7 (egs g.rows) s.length g.list.length:=by
 have hl:=aQ h.prob
 have hle:=h.le
 refine ⟨by rw [qJ h.row,h.rlen],by omega,⟨by omega,by omega⟩,fun c hc =>?_⟩
 obtain ⟨j,k,u,v,rfl,h1,_⟩:=adn h hc
 show 0<=(k:Int)/\(k:Int)<_
 omega
structure EgI (E:List (List Int)) (n:Nat):Prop where
 len:E.length<=2400
 nle:n<=600
 at_:∀ e∈E,0<=e.getD 0 0/\e.getD 0 0<n/\0<=e.getD 1 0/\e.getD 1 0<n
theorem EgI.ed {E:List (List Int)} {n:Nat} (h:EgI E n):pz E n:=fun e he=>by
 have:=h.at_ e he
 unfold efr eto
 omega
theorem Fz {m s:List (List Int)} {g:PrT} (h:jh m s g) {j r:Nat} (hj:j<g.list.length) (hr:r<s.length):∃ (k:Nat) (a b:Int),(egs g.rows).getD (j*s.length+r) []=[(j:Int),(k:Int),a,b]/\k<g.list.length/\0<=a/\a<=119/\0<=b/\b<=119:=by
 have hrl:=h.rlen
 have h1:=h.row j (by omega)
 rw [CJ h.row j r (by omega) hr]
 obtain ⟨k,a,b,h2,h3⟩:=h.eg j (by omega) ((g.rows.getD j []).getD r []) (by rw [getD_in (show r<(g.rows.getD j []).length by omega)];exact List.getElem_mem _)
 exact ⟨k,a,b,h2,h3⟩
theorem Zc {m s:List (List Int)} {g:PrT} (h:jh m s g) {e:List Int} (he:e∈egs g.rows):∃ j r,j<g.list.length/\r<s.length/\e=(egs g.rows).getD (j*s.length+r) []:=by
 have hl:=aQ h.prob
 have h1:(egs g.rows).length=g.list.length*s.length:=by rw [qJ h.row,h.rlen]
 obtain ⟨i,hi,rfl⟩:=List.mem_iff_getElem.1 he
 refine ⟨i / s.length,i % s.length,?_,Nat.mod_lt _ (by omega),?_⟩
 ·rw [h1] at hi
  exact Nat.div_lt_of_lt_mul (by rw [Nat.mul_comm];exact hi)
 ·rw [show i / s.length*s.length+i % s.length=i by rw [Nat.mul_comm];exact Nat.div_add_mod _ _,getD_in hi]
theorem QV {m s:List (List Int)} {g:PrT} (h:jh m s g):EgI (egs g.rows) g.list.length:=by
 have hl:=aQ h.prob
 have hle:=h.le
 have h1:(egs g.rows).length=g.list.length*s.length:=by rw [qJ h.row,h.rlen]
 have h2:g.list.length*s.length<=600*4:=Nat.mul_le_mul hle (by omega)
 refine ⟨by omega,hle,fun e he =>?_⟩
 obtain ⟨j,r,hj,hr,rfl⟩:=Zc h he
 obtain ⟨k,a,b,h3,h4,-⟩:=Fz h hj hr
 rw [h3]
 show 0<=(j:Int)/\(j:Int)<_/\0<=(k:Int)/\(k:Int)<_
 omega
theorem QW {m s:List (List Int)} {g:PrT} (h:jh m s g):∀ e∈egs g.rows,0<=e.getD 2 0/\e.getD 2 0<=119/\0<=e.getD 3 0/\e.getD 3 0<=119:=fun e he=>by
 obtain ⟨j,r,hj,hr,rfl⟩:=Zc h he
 obtain ⟨k,a,b,h3,_,h5⟩:=Fz h hj hr
 rw [h3]
 exact h5
theorem JG {m s:List (List Int)} {g:PrT} (h:jh m s g):EdB (egs g.rows) g.list.length:=⟨h.le,(QV h).ed,QW h⟩
theorem ZB {E:List (List Int)} (hc:∀ e∈E,0<=e.getD 2 0/\e.getD 2 0<=119/\0<=e.getD 3 0/\e.getD 3 0<=119) {a b:Int} (h1:0<=a) (h2:a<=100000000) (h3:0<=b) (h4:b<=100000000):∀ e∈E,(0<=b*e.getD 2 0/\b*e.getD 2 0<=11900000000/\0<=a*e.getD 3 0/\a*e.getD 3 0<=11900000000) /\ -1000000000000<=wtR a b e/\wtR a b e<=100000000000:=fun e he=>by
 obtain ⟨k1,k2,k3,k4⟩:=hc e he
 have e1:0<=b*e.getD 2 0:=Int.mul_nonneg h3 k1
 have e2:b*e.getD 2 0<=100000000*119:=Int.mul_le_mul h4 k2 k1 (by decide)
 have e3:0<=a*e.getD 3 0:=Int.mul_nonneg h1 k3
 have e4:a*e.getD 3 0<=100000000*119:=Int.mul_le_mul h2 k4 k3 (by decide)
 unfold wtR
 omega
theorem getM {l:List Int} {v:Nat} (h:v<l.length):l.getD v (-1)=l.getD v 0:=by rw [getD_in h,getD_in h]
theorem UJ {l:List Int} {v:Nat} (h:¬ v<l.length):l.getD v (-1) = -1:=by
 rw [List.getD_eq_getElem?_getD,List.getElem?_eq_none (by omega)]
 rfl
theorem P5 {E:List (List Int)} {n u:Nat} {s:BF} (hb:BL E n s) (h:nbX E s.by_ u≠none) :
  u<n/\0<=s.by_.getD u 0/\s.by_.getD u 0<E.length/\edN (nbX E s.by_) u=E.getD (s.by_.getD u 0).toNat []/\aZ (nbX E s.by_) u=eto (E.getD (s.by_.getD u 0).toNat []):=by
 have h1:=hb.byr u
 by_cases hu:u<s.by_.length
 ·rw [getM hu] at h1
  by_cases h0:0<=s.by_.getD u 0
  ·have e:nbX E s.by_ u=some (E.getD (s.by_.getD u 0).toNat []):=by
    unfold nbX
    rw [getM hu,if_pos h0]
   refine ⟨by rw [hb.byl] at hu;exact hu,h0,h1.2,?_,?_⟩
   ·unfold edN
    rw [e]
    rfl
   ·unfold aZ
    rw [e]
  ·exfalso
   refine h ?_
   unfold nbX
   rw [getM hu,if_neg h0]
 ·exfalso
  refine h ?_
  unfold nbX
  rw [UJ hu]
  rfl
theorem UU {E:List (List Int)} {n:Nat} {wt:List Int->Int} {W B B':Int} (hW:∀ e∈E,wt e<=W) {s:BF} {old:List Int} (hs:∀ v,nbN s v<=B') (ho:∀ v:Nat,old.getD v 0<=B) (hB:B+W<=B') (hE:pz E n) (hb:BL E n s) {k:Nat} (hk:k<E.length) (v:Nat):nbN (jx1 wt E old k s) v<=B':=by
 have h1:=getD_mem hk
 have h2:=hW _ h1
 have h3:=ho (eto (E.getD k []))
 unfold jx1
 split
 ·rw [Iu hb (hE _ h1).1]
  split
  ·omega
  ·exact hs v
 ·exact hs v
theorem BL.jx1 {E:List (List Int)} {n:Nat} {wt:List Int->Int} {s:BF} {old:List Int} (h:BL E n s) {k:Nat} (hk:k<E.length):BL E n (jx1 wt E old k s):=by
 unfold Go.Proofs.YtkcelmnbfbehbaaGreat.jx1
 split
 ·exact h.set hk _ _
 ·exact h
theorem WT {E:List (List Int)} {n:Nat} {wt:List Int->Int} {s:BF} (h:BL E n s):∀ k,k<=E.length->BL E n (rxN wt E s k)
 | 0,_=>h
 | k+1,hk=>(WT h k (by omega)).jx1 (by omega)
theorem Np {E:List (List Int)} {n:Nat} {wt:List Int->Int} {s:BF} {old:List Int} (h:BL E n s):∀ k,k<=E.length->BL E n (jxN wt E old s k)
 | 0,_=>h
 | k+1,hk=>(Np h k (by omega)).jx1 (by omega)
theorem Oi {E:List (List Int)} {n:Nat} {wt:List Int->Int} {W B:Int} (hE:pz E n) (hW0:0<=W) (hW:∀ e∈E,wt e<=W) {s:BF} (h:BL E n s) (hs:∀ v,nbN s v<=B):∀ k,k<=E.length->∀ v,nbN (rxN wt E s k) v<=B+k*W
 | 0,_,v=>by have:=hs v;simpa [rxN] using this
 | k+1,hk,v=>by
  have ih:=Oi hE hW0 hW h hs k (by omega)
  have e:((k+1:Nat):Int)*W=k*W+W:=by rw [Int.natCast_add,Int.add_mul];simp
  rw [e]
  exact UU (B:=B+k*W) hW (fun v=>by have:=ih v;omega) ih (by omega) hE (WT h k (by omega)) (by omega) v
theorem UW {E:List (List Int)} {n:Nat} {wt:List Int->Int} {W B:Int} (hE:pz E n) (hW0:0<=W) (hW:∀ e∈E,wt e<=W) {s:BF} {old:List Int} (h:BL E n s) (ho:∀ v:Nat,old.getD v 0<=B) (hs:∀ v,nbN s v<=B):∀ k,k<=E.length->∀ v,nbN (jxN wt E old s k) v<=B+W
 | 0,_,v=>by have:=hs v;show nbN s v<=_;omega
 | k+1,hk,v=>UU (B:=B) hW (UW hE hW0 hW h ho hs k (by omega)) ho (Int.le_refl _) hE (Np h k (by omega)) (by omega) v
theorem Ql {E:List (List Int)} {n:Nat} {wt:List Int->Int} {W:Int} (hE:pz E n) (hW0:0<=W) (hW:∀ e∈E,wt e<=W):∀ t v,nbN (rnd (rxR wt E) n t) v<=t*(E.length*W)
 | 0,v=>by
  have:nbN (bf0 n) v=0:=zN n 0 v
  show nbN (bf0 n) v<=_
  simp [this]
 | t+1,v=>by
  have e:((t+1:Nat):Int)*(E.length*W)=t*(E.length*W)+E.length*W:=by rw [Int.natCast_add,Int.add_mul];simp
  rw [e]
  exact Oi hE hW0 hW (tV (fun s t=>BI.gs hE (wt:=wt)) t).bl.fresh (Ql hE hW0 hW t) _ (Nat.le_refl _) v
theorem IJ {E:List (List Int)} {n:Nat} {wt:List Int->Int} {W:Int} (hE:pz E n) (hW0:0<=W) (hW:∀ e∈E,wt e<=W):∀ t v,nbN (rnd (jxR wt E) n t) v<=t*W
 | 0,v=>by
  have:nbN (bf0 n) v=0:=zN n 0 v
  show nbN (bf0 n) v<=_
  simp [this]
 | t+1,v=>by
  have e:((t+1:Nat):Int)*W=t*W+W:=by rw [Int.natCast_add,Int.add_mul];simp
  rw [e]
  exact UW hE hW0 hW (tV (fun s t=>BI.jac hE (wt:=wt)) t).bl.fresh (IJ hE hW0 hW t) (IJ hE hW0 hW t) _ (Nat.le_refl _) v
def ada (E:List (List Int)) (wt:List Int->Int) (n:Nat) (R:BF->BF) (r:Int×Int×Bool):Prop :=
 (∃ t,BD R n t/\r=(0,0,false))\/(pW R n/\∃ (v:Nat) (p:Nat),(rnd R n (n+1)).last=v/\v<n/\(∀ j,j<=n->nbX E (rnd R n (n+1)).by_ (itr (aZ (nbX E (rnd R n (n+1)).by_)) j v)≠none)/\QF E wt n (rnd R n (n+1)).by_ (itr (aZ (nbX E (rnd R n (n+1)).by_)) n v) p /\
  r=(aH dO (iJ (nbX E (rnd R n (n+1)).by_) (itr (aZ (nbX E (rnd R n (n+1)).by_)) n v) p),aH cu (iJ (nbX E (rnd R n (n+1)).by_) (itr (aZ (nbX E (rnd R n (n+1)).by_)) n v) p),true))
abbrev ip1 (a:Int):Lf := .ip [.val (.int .i64 a)] 0
theorem YU {E:List (List Int)} {wt:List Int->Int} {k:Nat} {s:BF} (h:s.num.getD (efr (E.getD k [])) 0<wt (E.getD k [])+s.num.getD (eto (E.getD k [])) 0):rx1 wt E k s=setB s k (E.getD k []) (wt (E.getD k [])+s.num.getD (eto (E.getD k [])) 0):=if_pos h
theorem acV {E:List (List Int)} {wt:List Int->Int} {k:Nat} {s:BF} (h:¬ s.num.getD (efr (E.getD k [])) 0<wt (E.getD k [])+s.num.getD (eto (E.getD k [])) 0):rx1 wt E k s=s:=if_neg h
theorem aat (wt:List Int->Int) (E:List (List Int)) (n t:Nat):rnd (rxR wt E) n (t+1)=rxN wt E (newR (rnd (rxR wt E) n t)) E.length:=rfl
theorem MH {E:List (List Int)} {n:Nat} {s:BF} (hb:BL E n s) (hc:∀ e∈E,0<=e.getD 2 0/\e.getD 2 0<=119/\0<=e.getD 3 0/\e.getD 3 0<=119) {c:Nat} (h:∀ k,nbX E s.by_ (itr (aZ (nbX E s.by_)) k c)≠none):∀ k,0<=aH dO (iJ (nbX E s.by_) c k)/\aH dO (iJ (nbX E s.by_) c k)<=119*k/\0<=aH cu (iJ (nbX E s.by_) c k)/\aH cu (iJ (nbX E s.by_) c k)<=119*k
 | 0=>by simp [iJ,aH]
 | k+1=>by
  have ih:=MH hb hc h k
  obtain ⟨h1,h2,h3,h4,h5⟩:=P5 hb (h k)
  have h6:=hc _ (getD_mem (show (s.by_.getD (itr (aZ (nbX E s.by_)) k c) 0).toNat<E.length by omega))
  simp only [iJ,jF,aH,h4]
  unfold dO cu
  unfold dO cu at ih
  omega
set_option maxRecDepth 8000 in
set_option maxHeartbeats 4000000 in
theorem DY {E:List (List Int)} {n:Nat} {wt:List Int->Int} (hE:EgI E n) (hn0:0<n) (hc:∀ e∈E,0<=e.getD 2 0/\e.getD 2 0<=119/\0<=e.getD 3 0/\e.getD 3 0<=119) {f:Nat} {a b:Int} (hw:∀ k,k<E.length->Does Tryz.prog f [JJ (E.getD k []),.lf (ip1 a),.lf (ip1 b)] (.imm (.int (wt (E.getD k [])))))
  (hW:∀ e∈E,-1000000000000<=wt e/\wt e<=100000000000) {r:Int×Int×Bool} (hr:ada E wt n (rxR wt E) r):Does Tryz.prog 161 [.int n,.sl (.k 4 E),.clo f [ip1 a,ip1 b]] (.imm (.tup [.one (.b (.val (.int .i64 r.1))),.one (.b (.val (.int .i64 r.2.1))),.one (.b (.val (.bool r.2.2)))])):=by
 have hnl:=hE.nle
 have hEl:=hE.len
 have hbi:=fun t=>tV (fun s t=>BI.gs hE.ed (wt:=wt)) t
 have hbd:=Ql (W:=100000000000) hE.ed (by omega) fun e he=>(hW e he).2
 refine aC Tryz.func161 rfl Tryz.ntmps161 aX (fun _ _=>by kernel_rfl) rfl (Nat.le_of_ble_eq_true rfl) ?_
 intro M0 w0
 rw [Tryz.results161]
 (refine dJ 1 rfl fun hf =>?_;simp only [xp,simprocAttr] at hf;simp only [xf,simprocAttr] at hf)
 refine ah ?_
 (refine amB ?_;refine bM 2 [(1,[0]),(4,[1])] [0,1] [(1,[1]),(4,[0]),(5,[1]),(6,[0])] ?_;refine mg ?_)
 (refine .inr (.inl ⟨_,_,Hg (aar (-1) n (by omega) (by omega)) rfl rfl rfl rfl rfl rfl,?_⟩);refine vN ?_)
 simp only [xm,simprocAttr]
 refine ah ?_
 refine au (α:=Nat) (fun t=>[(26,true,.int t),(11,true,.int (rnd (rxR wt E) n t).last)]) [0,1,2,9,10,25] (fun t=>[.row 3 (.ints (rnd (rxR wt E) n t).num),.row 3 (.ints (rnd (rxR wt E) n t).by_)]) (fun t=>t<=n+1/\∀ i,i<t->¬ (rnd (rxR wt E) n (i+1)).last<0) (fun t=>n+1-t) 0 (by exact aV) ⟨by omega,fun i hi=>by omega⟩ fun t ht =>?_
 obtain ⟨ht,hls⟩:=ht
 have hb:=hbi t
 have hb0:(t:Int)*(E.length*100000000000)<=601*(2400*100000000000):=Int.mul_le_mul (by omega) (by omega) (by omega) (by omega)
 simp only [xr,simprocAttr]
 refine ah ?_
 refine aj amQ (fun hlt =>?_) (fun hlt =>?_)
 ·have hlt:=of_decide_eq_true hlt
  refine ah ?_
  refine au (α:=Nat) (fun k=>[(30,true,.int k),(11,true,.int (rxN wt E (newR (rnd (rxR wt E) n t)) k).last)]) [0,1,2,9,10,25,26,28,29] (fun k=>[.row 3 (.ints (rxN wt E (newR (rnd (rxR wt E) n t)) k).num),.row 3 (.ints (rxN wt E (newR (rnd (rxR wt E) n t)) k).by_)]) (fun k=>k<=E.length) (fun k=>E.length-k) 0 (by exact aV) (Nat.zero_le _) fun k hk =>?_
  have hR:=RI.all hE.ed hb.toR k hk
  have hnl1:=hR.bl.num
  have hnl2:=hR.bl.byl
  have hnv:∀ v:Nat,0<=(rxN wt E (newR (rnd (rxR wt E) n t)) k).num.getD v 0/\(rxN wt E (newR (rnd (rxR wt E) n t)) k).num.getD v 0<=200000000000000000:=fun v=>by
   have h1:=hR.nn v
   have h2:=Oi hE.ed (W:=100000000000) (by omega) (fun e he=>(hW e he).2) hb.bl.fresh (hbd t) k hk v
   unfold nbN at h1 h2
   omega
  generalize hS:rxN wt E (newR (rnd (rxR wt E) n t)) k=S at *
  simp only [xr,simprocAttr]
  refine ah ?_
  refine aj amQ (fun hkc =>?_) (fun hkc =>?_)
  ·have hkc:=of_decide_eq_true hkc
   have hk':k<E.length:=by omega
   have hm:=getD_mem hk'
   have he:=hE.at_ _ hm
   have hwe:=hW _ hm
   have hv1:=hnv (eto (E.getD k []))
   have hv2:=hnv (efr (E.getD k []))
   unfold eto at hv1
   unfold efr at hv2
   refine ah ?_
   ((try refine Or.inl ?_);refine ⟨_,(hw k hk'),amF,?_⟩;refine amC ?_)
   refine ah ?_
   refine aj amQ (fun hx =>?_) (fun hx =>?_)
   ·have hx:=of_decide_eq_true hx
    have hnext:rxN wt E (newR (rnd (rxR wt E) n t)) (k+1)=setB S k (E.getD k []) (wt (E.getD k [])+S.num.getD (eto (E.getD k [])) 0):=by
     rw [← YU hx,← hS]
     rfl
    have hef:((efr (E.getD k []):Nat):Int)=(E.getD k []).getD 0 0:=by unfold efr;omega
    (refine amB ?_;refine bM 0 [(11,[0]),(13,[1])] [0,1] [(10,[1]),(11,[1]),(12,[0]),(13,[0])] ?_;refine mg ?_)
    refine ah ?_
    refine ⟨k+1,by omega,by omega,.inr ⟨2,Nat.le_of_ble_eq_true rfl,aJ ?_ rfl rfl rfl⟩⟩
    ((try simp only [xk]);(repeat (refine fP ?_ ?_;first | (exact amE) | rotate_left));(refine gZ ?_;exact (by rw [hnext];rfl));(all_goals (try (simp only [xr,simprocAttr];try refine gQ ?_))))
    rw [hnext]
    exact hef.symm
   ·have hx:=of_decide_eq_false hx
    have hnext:rxN wt E (newR (rnd (rxR wt E) n t)) (k+1)=S:=by
     rw [← acV hx,← hS]
     rfl
    refine ah ?_
    refine ⟨k+1,by omega,by omega,.inr ⟨2,Nat.le_of_ble_eq_true rfl,aJ ?_ rfl rfl rfl⟩⟩
    ((try simp only [xk]);(repeat (refine fP ?_ ?_;first | (exact amE) | rotate_left));(refine gZ ?_;exact (by rw [hnext];rfl));(all_goals (try (simp only [xr,simprocAttr];try refine gQ ?_))))
    rw [hnext]
  ·have hkc:=of_decide_eq_false hkc
   obtain rfl:k=E.length:=by omega
   have hrt:rnd (rxR wt E) n (t+1)=S:=by rw [aat,hS]
   refine ah ?_
   refine aj amQ (fun hl =>?_) (fun hl =>?_)
   ·have hl:=of_decide_eq_true hl
    have hr0:r=(0,0,false):=by
     rcases hr with ⟨_,_,h⟩ | ⟨h,_⟩
     ·exact h
     ·exact (h t (by omega) (by rw [hrt];exact hl)).elim
    subst hr0
    refine ah ?_
    (simp only [xe,simprocAttr];refine ⟨[_,_,_],⟨rfl,rfl,rfl,trivial⟩,rfl,Imp.eq ?_⟩)
    rfl
   ·have hl:=of_decide_eq_false hl
    refine ah ?_
    refine ⟨t+1,by omega,fun i hi =>?_,by omega,.inl ?_⟩
    ·by_cases e:i=t
     ·subst e
      rw [hrt]
      exact hl
     ·exact hls i (by omega)
    ·((try simp only [xk]);(repeat (refine fP ?_ ?_;first | (exact amE) | rotate_left));(refine gZ ?_;exact (by rw [hrt]));(all_goals (try (simp only [xr,simprocAttr];try refine gQ ?_))))
     rw [hrt]
 ·have hlt:=of_decide_eq_false hlt
  obtain rfl:t=n+1:=by omega
  clear hb0
  rcases hr with ⟨u,h,_⟩ | ⟨_,v,p,hv1,hv2,hv3,hcy,rfl⟩
  ·exact (hls u (by have:=h.1;omega) h.2.1).elim
  have hbl:=hb.bl
  have hnl2:=hbl.byl
  generalize rnd (rxR wt E) n (n+1)=S at *
  rw [hv1]
  refine ah ?_
  refine au (α:=Nat) (fun i=>[(68,true,.int i),(11,true,.int (itr (aZ (nbX E S.by_)) i v:Nat))]) [0,1,9,10,67] (fun _=>[.row 3 (.ints S.num),.row 3 (.ints S.by_)]) (fun i=>i<=n) (fun i=>n-i) 0 (by exact aV) (Nat.zero_le _) fun i hi =>?_
  have hat:=P5 hbl (hv3 i hi)
  simp only [xr,simprocAttr]
  refine ah ?_
  refine aj amQ (fun hic =>?_) (fun hic =>?_)
  ·have hic:=of_decide_eq_true hic
   obtain ⟨h1,h2,h3,-,h5⟩:=hat
   have h6:itr (aZ (nbX E S.by_)) (i+1) v=eto (E.getD (S.by_.getD (itr (aZ (nbX E S.by_)) i v) 0).toNat []):=h5
   have h7:=hE.at_ _ (getD_mem (show (S.by_.getD (itr (aZ (nbX E S.by_)) i v) 0).toNat<E.length by omega))
   generalize itr (aZ (nbX E S.by_)) i v=u at *
   refine ah ?_
   refine ⟨i+1,by omega,by omega,.inl ?_⟩
   ((try simp only [xk]);(repeat (refine fP ?_ ?_;first | (exact amE) | rotate_left));(refine gZ ?_;exact (by rfl));(all_goals (try (simp only [xr,simprocAttr];try refine gQ ?_))))
   rw [h6]
   unfold eto
   omega
  ·have hic:=of_decide_eq_false hic
   obtain rfl:i=n:=by omega
   have hsm:=hcy.some
   have hp1:=hcy.p1
   have hpn:=hcy.pn
   have hbk:=hcy.back
   have hfb:=hcy.first
   generalize itr (aZ (nbX E S.by_)) i v=c at *
   refine ah ?_
   refine au (α:=Nat) (fun j=>[(17,true,.int (itr (aZ (nbX E S.by_)) j c:Nat)),(15,true,.int (aH dO (iJ (nbX E S.by_) c j))),(16,true,.int (aH cu (iJ (nbX E S.by_) c j)))]) [1,10,11] (fun _=>[.row 3 (.ints S.num),.row 3 (.ints S.by_)]) (fun j=>j<p) (fun j=>p-j) 0 (by exact aV) (by omega) fun j hj =>?_
   obtain ⟨h1,h2,h3,h4,h5⟩:=P5 hbl (hsm j)
   have hcb:=MH hbl hc hsm j
   have h6:itr (aZ (nbX E S.by_)) (j+1) c=eto (E.getD (S.by_.getD (itr (aZ (nbX E S.by_)) j c) 0).toNat []):=h5
   have h8:iJ (nbX E S.by_) c (j+1)=iJ (nbX E S.by_) c j++[E.getD (S.by_.getD (itr (aZ (nbX E S.by_)) j c) 0).toNat []]:=by rw [← h4];rfl
   have hm:=getD_mem (show (S.by_.getD (itr (aZ (nbX E S.by_)) j c) 0).toNat<E.length by omega)
   have h7:=hE.at_ _ hm
   have h9:=hc _ hm
   have h10:=hfb (j+1) (by omega)
   have h11:j+1=p->itr (aZ (nbX E S.by_)) (j+1) c=c:=fun e=>by rw [e];exact hbk
   have e1:aH dO (iJ (nbX E S.by_) c (j+1))=aH dO (iJ (nbX E S.by_) c j)+(E.getD (S.by_.getD (itr (aZ (nbX E S.by_)) j c) 0).toNat []).getD 2 0:=by
    rw [h8,jF]
    simp [aH,dO]
   have e2:aH cu (iJ (nbX E S.by_) c (j+1))=aH cu (iJ (nbX E S.by_) c j)+(E.getD (S.by_.getD (itr (aZ (nbX E S.by_)) j c) 0).toNat []).getD 3 0:=by
    rw [h8,jF]
    simp [aH,cu]
   have e3:((itr (aZ (nbX E S.by_)) (j+1) c:Nat):Int)=(E.getD (S.by_.getD (itr (aZ (nbX E S.by_)) j c) 0).toNat []).getD 1 0:=by
    rw [h6]
    unfold eto
    omega
   have e4:((itr (aZ (nbX E S.by_)) (j+1) c:Nat):Int)=c↔j+1=p:=⟨fun h=>Classical.byContradiction fun hne=>h10 (by omega) (by omega),fun h=>by rw [h11 h]⟩
   generalize itr (aZ (nbX E S.by_)) j c=u at *
   generalize aH dO (iJ (nbX E S.by_) c j)=C at *
   generalize aH cu (iJ (nbX E S.by_) c j)=G at *
   have f1:=e1.symm
   have f2:=e2.symm
   have f3:=e3.symm
   have i1:I64 (C+(E.getD (S.by_.getD u 0).toNat []).getD 2 0):=by unfold I64;omega
   have i2:I64 (G+(E.getD (S.by_.getD u 0).toNat []).getD 3 0):=by unfold I64;omega
   simp only [xr,simprocAttr]
   refine ah ?_
   refine aj amQ (fun hq =>?_) (fun hq =>?_)
   ·have hq:=of_decide_eq_true hq
    have hjp:j+1=p:=e4.1 (by rw [e3];exact hq)
    refine ah ?_
    (simp only [xe,simprocAttr];refine ⟨[_,_,_],⟨rfl,rfl,rfl,trivial⟩,rfl,Imp.eq ?_⟩)
    rw [← e1,← e2,hjp]
   ·have hq:=of_decide_eq_false hq
    have hjp:j+1≠p:=fun e=>hq (by rw [← e3];exact e4.2 e)
    refine ah ?_
    refine ⟨j+1,by omega,by omega,.inr ⟨2,Nat.le_of_ble_eq_true rfl,aJ ?_ rfl rfl rfl⟩⟩
    exact aV
end Go.Proofs.YtkcelmnbfbehbaaGreat
