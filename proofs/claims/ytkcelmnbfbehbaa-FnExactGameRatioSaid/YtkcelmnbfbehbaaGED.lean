/- The edges of a graph of pairs: what is known of them. Conditions: a graph that is whole. -/
import Derived.Test.YtkcelmnbfbehbaaPR
import Derived.Test.YtkcelmnbfbehbaaGCR
import Derived.Test.YtkcelmnbfbehbaaCB
import Derived.Test.YtkcelmnbfbehbaaRatP
import Derived.Test.YtkcelmnbfbehbaaKitG
set_option linter.all false
set_option linter.unusedSimpArgs false
set_option linter.unusedVariables false
namespace Go.Proofs.Ytkcelmnbfbehbaa
open Go Go.RowKit Am

/-- edges between nodes -/
structure EgI (E:List (List Int)) (n:Nat):Prop where
  len:E.length≤2400
  nle:n≤600
  at_:∀ e∈E,0≤e.getD 0 0∧e.getD 0 0<n∧0≤e.getD 1 0∧e.getD 1 0<n
theorem EgI.ed {E:List (List Int)} {n:Nat} (h:EgI E n):edIn E n:=fun e he=>by
  have:=h.at_ e he
  unfold efr eto
  omega
end Go.Proofs.Ytkcelmnbfbehbaa
/- Cycles with a gain, on the machine: the program's. Conditions: edges between nodes, and weights that are not large. -/
set_option linter.all false
set_option linter.unusedSimpArgs false
set_option linter.unusedVariables false
namespace Go.Proofs.Ytkcelmnbfbehbaa
open Go Go.RowKit Am

theorem getM {l:List Int} {v:Nat} (h:v<l.length):l.getD v (-1)=l.getD v 0:=by rw [getD_in h,getD_in h]
theorem getM_out {l:List Int} {v:Nat} (h:¬ v<l.length):l.getD v (-1) = -1:=by
  rw [List.getD_eq_getElem?_getD,List.getElem?_eq_none (by omega)]
  rfl
theorem nb_at {E:List (List Int)} {n u:Nat} {s:BF} (hb:BL E n s) (h:nbX E s.by_ u≠none) :
    u<n∧0≤s.by_.getD u 0∧s.by_.getD u 0<E.length∧edN (nbX E s.by_) u=E.getD (s.by_.getD u 0).toNat []∧stepN (nbX E s.by_) u=eto (E.getD (s.by_.getD u 0).toNat []):=by
  have h1:=hb.byr u
  by_cases hu:u<s.by_.length
  · rw [getM hu] at h1
    by_cases h0:0≤s.by_.getD u 0
    · have e:nbX E s.by_ u=some (E.getD (s.by_.getD u 0).toNat []):=by
        unfold nbX
        rw [getM hu,if_pos h0]
      refine ⟨by rw [hb.byl] at hu;exact hu,h0,h1.2,?_,?_⟩
      · unfold edN
        rw [e]
        rfl
      · unfold stepN
        rw [e]
    · exfalso
      refine h ?_
      unfold nbX
      rw [getM hu,if_neg h0]
  · exfalso
    refine h ?_
    unfold nbX
    rw [getM_out hu]
    rfl
/-! ### numbers are not large -/
theorem jx1_bd {E:List (List Int)} {n:Nat} {wt:List Int→Int} {W B B':Int} (hW:∀ e∈E,wt e≤W) {s:BF} {old:List Int} (hs:∀ v,nbN s v≤B') (ho:∀ v:Nat,old.getD v 0≤B) (hB:B+W≤B') (hE:edIn E n) (hb:BL E n s) {k:Nat} (hk:k<E.length) (v:Nat):nbN (jx1 wt E old k s) v≤B':=by
  have h1:=getD_mem hk
  have h2:=hW _ h1
  have h3:=ho (eto (E.getD k []))
  unfold jx1
  split
  · rw [nbN_set hb (hE _ h1).1]
    split
    · omega
    · exact hs v
  · exact hs v
theorem BL.jx1 {E:List (List Int)} {n:Nat} {wt:List Int→Int} {s:BF} {old:List Int} (h:BL E n s) {k:Nat} (hk:k<E.length):BL E n (jx1 wt E old k s):=by
  unfold Go.Proofs.Ytkcelmnbfbehbaa.jx1
  split
  · exact h.set hk _ _
  · exact h
theorem rxN_bl {E:List (List Int)} {n:Nat} {wt:List Int→Int} {s:BF} (h:BL E n s):∀ k,k≤E.length→BL E n (rxN wt E s k)
  | 0,_=>h
  | k+1,hk=>(rxN_bl h k (by omega)).jx1 (by omega)
theorem rxN_bd {E:List (List Int)} {n:Nat} {wt:List Int→Int} {W B:Int} (hE:edIn E n) (hW0:0≤W) (hW:∀ e∈E,wt e≤W) {s:BF} (h:BL E n s) (hs:∀ v,nbN s v≤B):∀ k,k≤E.length→∀ v,nbN (rxN wt E s k) v≤B+k*W
  | 0,_,v=>by have:=hs v;simpa [rxN] using this
  | k+1,hk,v=>by
    have ih:=rxN_bd hE hW0 hW h hs k (by omega)
    have e:((k+1:Nat):Int)*W=k*W+W:=by rw [Int.natCast_add,Int.add_mul];simp
    rw [e]
    exact jx1_bd (B:=B+k*W) hW (fun v=>by have:=ih v;omega) ih (by omega) hE (rxN_bl h k (by omega)) (by omega) v
theorem rndx_bd {E:List (List Int)} {n:Nat} {wt:List Int→Int} {W:Int} (hE:edIn E n) (hW0:0≤W) (hW:∀ e∈E,wt e≤W):∀ t v,nbN (rnd (rxR wt E) n t) v≤t*(E.length*W)
  | 0,v=>by
    have:nbN (bf0 n) v=0:=rep_gD n 0 v
    show nbN (bf0 n) v≤_
    simp [this]
  | t+1,v=>by
    have e:((t+1:Nat):Int)*(E.length*W)=t*(E.length*W)+E.length*W:=by rw [Int.natCast_add,Int.add_mul];simp
    rw [e]
    exact rxN_bd hE hW0 hW (rnd_bi (fun s t=>BI.gs hE (wt:=wt)) t).bl.fresh (rndx_bd hE hW0 hW t) _ (Nat.le_refl _) v
/-! ### the program's search -/
/-- what a search tells -/
def PosR (E:List (List Int)) (wt:List Int→Int) (n:Nat) (R:BF→BF) (r:Int×Int×Bool):Prop :=
  (∃ t,EndsAt R n t∧r=(0,0,false))∨(NeverEnds R n∧∃ (v:Nat) (p:Nat),(rnd R n (n+1)).last=v∧v<n∧(∀ j,j≤n→nbX E (rnd R n (n+1)).by_ (itr (stepN (nbX E (rnd R n (n+1)).by_)) j v)≠none)∧CycN E wt n (rnd R n (n+1)).by_ (itr (stepN (nbX E (rnd R n (n+1)).by_)) n v) p ∧
    r=(sumE cstE (runE (nbX E (rnd R n (n+1)).by_) (itr (stepN (nbX E (rnd R n (n+1)).by_)) n v) p),sumE grwE (runE (nbX E (rnd R n (n+1)).by_) (itr (stepN (nbX E (rnd R n (n+1)).by_)) n v) p),true))
abbrev ip1 (a:Int):Lf := .ip [.val (.int .i64 a)] 0
theorem rx1_yes {E:List (List Int)} {wt:List Int→Int} {k:Nat} {s:BF} (h:s.num.getD (efr (E.getD k [])) 0<wt (E.getD k [])+s.num.getD (eto (E.getD k [])) 0):rx1 wt E k s=setB s k (E.getD k []) (wt (E.getD k [])+s.num.getD (eto (E.getD k [])) 0):=if_pos h
theorem rx1_no {E:List (List Int)} {wt:List Int→Int} {k:Nat} {s:BF} (h:¬ s.num.getD (efr (E.getD k [])) 0<wt (E.getD k [])+s.num.getD (eto (E.getD k [])) 0):rx1 wt E k s=s:=if_neg h
theorem rnd_rx (wt:List Int→Int) (E:List (List Int)) (n t:Nat):rnd (rxR wt E) n (t+1)=rxN wt E (newR (rnd (rxR wt E) n t)) E.length:=rfl
theorem cyc_bd {E:List (List Int)} {n:Nat} {s:BF} (hb:BL E n s) (hc:∀ e∈E,0≤e.getD 2 0∧e.getD 2 0≤119∧0≤e.getD 3 0∧e.getD 3 0≤119) {c:Nat} (h:∀ k,nbX E s.by_ (itr (stepN (nbX E s.by_)) k c)≠none):∀ k,0≤sumE cstE (runE (nbX E s.by_) c k)∧sumE cstE (runE (nbX E s.by_) c k)≤119*k∧0≤sumE grwE (runE (nbX E s.by_) c k)∧sumE grwE (runE (nbX E s.by_) c k)≤119*k
  | 0=>by simp [runE,sumE]
  | k+1=>by
    have ih:=cyc_bd hb hc h k
    obtain ⟨h1,h2,h3,h4,h5⟩:=nb_at hb (h k)
    have h6:=hc _ (getD_mem (show (s.by_.getD (itr (stepN (nbX E s.by_)) k c) 0).toNat<E.length by omega))
    simp only [runE,sumE_app,sumE,h4]
    unfold cstE grwE
    unfold cstE grwE at ih
    omega
set_option maxRecDepth 8000 in
set_option maxHeartbeats 4000000 in
theorem positive_d {E:List (List Int)} {n:Nat} {wt:List Int→Int} (hE:EgI E n) (hn0:0<n) (hc:∀ e∈E,0≤e.getD 2 0∧e.getD 2 0≤119∧0≤e.getD 3 0∧e.getD 3 0≤119) {f:Nat} {a b:Int} (hw:∀ k,k<E.length→Does Try.prog f [fourE (E.getD k []),.lf (ip1 a),.lf (ip1 b)] (.imm (.int (wt (E.getD k [])))))
    (hW:∀ e∈E,-1000000000000≤wt e∧wt e≤100000000000) {r:Int×Int×Bool} (hr:PosR E wt n (rxR wt E) r):Does Try.prog 83 [.int n,.sl (.k 4 E),.clo f [ip1 a,ip1 b]] (.imm (.tup [.one (.b (.val (.int .i64 r.1))),.one (.b (.val (.int .i64 r.2.1))),.one (.b (.val (.bool r.2.2)))])):=by
  have hnl:=hE.nle
  have hEl:=hE.len
  have hbi:=fun t=>rnd_bi (fun s t=>BI.gs hE.ed (wt:=wt)) t
  have hbd:=rndx_bd (W:=100000000000) hE.ed (by omega) fun e he=>(hW e he).2
  refine spec_imm Try.func83 rfl Try.ntmps83 cfOK (fun _ _=>by kernel_rfl) rfl (Nat.le_of_ble_eq_true rfl) ?_
  intro M0 w0
  rw [Try.results83]
  (refine awp_fits 1 rfl fun hf => ?_;simp only [xp,simprocAttr] at hf;simp only [xf,simprocAttr] at hf)
  refine amGo ?_
  (refine amB ?_;refine awp_anyG 2 [(1,[0]),(4,[1])] [0,1] [(1,[1]),(4,[0]),(5,[1]),(6,[0])] ?_;refine amNG ?_)
  (refine .inr (.inl ⟨_,_,callG_b (repH (-1) n (by omega) (by omega)) rfl rfl rfl rfl rfl rfl,?_⟩);refine amTG ?_)
  simp only [xm,simprocAttr]
  refine amGo ?_
  refine awp_rounds (α:=Nat) (fun t=>[(26,true,.int t),(11,true,.int (rnd (rxR wt E) n t).last)]) [0,1,2,9,10,25] (fun t=>[.row 3 (.ints (rnd (rxR wt E) n t).num),.row 3 (.ints (rnd (rxR wt E) n t).by_)]) (fun t=>t≤n+1∧∀ i,i<t→¬ (rnd (rxR wt E) n (i+1)).last<0) (fun t=>n+1-t) 0 (by ((try simp only [xk]);(repeat (refine leK_cons ?_ ?_;first | (exact amE) | rotate_left));(refine leK_nil ?_;exact (by rfl));(all_goals (try (simp only [xr,simprocAttr];try refine int_eq1 ?_))))) ⟨by omega,fun i hi=>by omega⟩ fun t ht => ?_
  obtain ⟨ht,hls⟩:=ht
  have hb:=hbi t
  have hb0:(t:Int)*(E.length*100000000000)≤601*(2400*100000000000):=Int.mul_le_mul (by omega) (by omega) (by omega) (by omega)
  simp only [xr,simprocAttr]
  refine amGo ?_
  refine awp_cond amQ (fun hlt => ?_) (fun hlt => ?_)
  · have hlt:=of_decide_eq_true hlt
    refine amGo ?_
    refine awp_rounds (α:=Nat) (fun k=>[(30,true,.int k),(11,true,.int (rxN wt E (newR (rnd (rxR wt E) n t)) k).last)]) [0,1,2,9,10,25,26,28,29] (fun k=>[.row 3 (.ints (rxN wt E (newR (rnd (rxR wt E) n t)) k).num),.row 3 (.ints (rxN wt E (newR (rnd (rxR wt E) n t)) k).by_)]) (fun k=>k≤E.length) (fun k=>E.length-k) 0 (by ((try simp only [xk]);(repeat (refine leK_cons ?_ ?_;first | (exact amE) | rotate_left));(refine leK_nil ?_;exact (by rfl));(all_goals (try (simp only [xr,simprocAttr];try refine int_eq1 ?_))))) (Nat.zero_le _) fun k hk => ?_
    have hR:=RI.all hE.ed hb.toR k hk
    have hnl1:=hR.bl.num
    have hnl2:=hR.bl.byl
    have hnv:∀ v:Nat,0≤(rxN wt E (newR (rnd (rxR wt E) n t)) k).num.getD v 0∧(rxN wt E (newR (rnd (rxR wt E) n t)) k).num.getD v 0≤200000000000000000:=fun v=>by
      have h1:=hR.nn v
      have h2:=rxN_bd hE.ed (W:=100000000000) (by omega) (fun e he=>(hW e he).2) hb.bl.fresh (hbd t) k hk v
      unfold nbN at h1 h2
      omega
    generalize hS:rxN wt E (newR (rnd (rxR wt E) n t)) k=S at *
    simp only [xr,simprocAttr]
    refine amGo ?_
    refine awp_cond amQ (fun hkc => ?_) (fun hkc => ?_)
    · have hkc:=of_decide_eq_true hkc
      have hk':k<E.length:=by omega
      have hm:=getD_mem hk'
      have he:=hE.at_ _ hm
      have hwe:=hW _ hm
      have hv1:=hnv (eto (E.getD k []))
      have hv2:=hnv (efr (E.getD k []))
      unfold eto at hv1
      unfold efr at hv2
      refine amGo ?_
      ((try refine Or.inl ?_);refine ⟨_,(hw k hk'),amF,?_⟩;refine amC ?_)
      refine amGo ?_
      refine awp_cond amQ (fun hx => ?_) (fun hx => ?_)
      · have hx:=of_decide_eq_true hx
        have hnext:rxN wt E (newR (rnd (rxR wt E) n t)) (k+1)=setB S k (E.getD k []) (wt (E.getD k [])+S.num.getD (eto (E.getD k [])) 0):=by
          rw [← rx1_yes hx,← hS]
          rfl
        have hef:((efr (E.getD k []):Nat):Int)=(E.getD k []).getD 0 0:=by unfold efr;omega

        (refine amB ?_;refine awp_anyG 0 [(11,[0]),(13,[1])] [0,1] [(10,[1]),(11,[1]),(12,[0]),(13,[0])] ?_;refine amNG ?_)

        refine amGo ?_
        refine ⟨k+1,by omega,by omega,.inr ⟨2,Nat.le_of_ble_eq_true rfl,leT_of ?_ rfl rfl rfl⟩⟩
        ((try simp only [xk]);(repeat (refine leK_cons ?_ ?_;first | (exact amE) | rotate_left));(refine leK_nil ?_;exact (by rw [hnext];rfl));(all_goals (try (simp only [xr,simprocAttr];try refine int_eq1 ?_))))
        rw [hnext]
        exact hef.symm
      · have hx:=of_decide_eq_false hx
        have hnext:rxN wt E (newR (rnd (rxR wt E) n t)) (k+1)=S:=by
          rw [← rx1_no hx,← hS]
          rfl
        refine amGo ?_
        refine ⟨k+1,by omega,by omega,.inr ⟨2,Nat.le_of_ble_eq_true rfl,leT_of ?_ rfl rfl rfl⟩⟩
        ((try simp only [xk]);(repeat (refine leK_cons ?_ ?_;first | (exact amE) | rotate_left));(refine leK_nil ?_;exact (by rw [hnext];rfl));(all_goals (try (simp only [xr,simprocAttr];try refine int_eq1 ?_))))
        rw [hnext]
    · have hkc:=of_decide_eq_false hkc
      obtain rfl:k=E.length:=by omega
      have hrt:rnd (rxR wt E) n (t+1)=S:=by rw [rnd_rx,hS]
      refine amGo ?_
      refine awp_cond amQ (fun hl => ?_) (fun hl => ?_)
      · have hl:=of_decide_eq_true hl
        have hr0:r=(0,0,false):=by
          rcases hr with ⟨_,_,h⟩ | ⟨h,_⟩
          · exact h
          · exact (h t (by omega) (by rw [hrt];exact hl)).elim
        subst hr0
        refine amGo ?_
        (simp only [xe,simprocAttr];refine ⟨[_,_,_],⟨rfl,rfl,rfl,trivial⟩,rfl,Imp.eq ?_⟩)
        rfl
      · have hl:=of_decide_eq_false hl
        refine amGo ?_
        refine ⟨t+1,by omega,fun i hi => ?_,by omega,.inl ?_⟩
        · by_cases e:i=t
          · subst e
            rw [hrt]
            exact hl
          · exact hls i (by omega)
        · ((try simp only [xk]);(repeat (refine leK_cons ?_ ?_;first | (exact amE) | rotate_left));(refine leK_nil ?_;exact (by rw [hrt]));(all_goals (try (simp only [xr,simprocAttr];try refine int_eq1 ?_))))
          rw [hrt]
  · have hlt:=of_decide_eq_false hlt
    obtain rfl:t=n+1:=by omega
    clear hb0
    rcases hr with ⟨u,h,_⟩ | ⟨_,v,p,hv1,hv2,hv3,hcy,rfl⟩
    · exact (hls u (by have:=h.1;omega) h.2.1).elim
    have hbl:=hb.bl
    have hnl2:=hbl.byl
    generalize rnd (rxR wt E) n (n+1)=S at *
    rw [hv1]
    refine amGo ?_
    refine awp_rounds (α:=Nat) (fun i=>[(68,true,.int i),(11,true,.int (itr (stepN (nbX E S.by_)) i v:Nat))]) [0,1,9,10,67] (fun _=>[.row 3 (.ints S.num),.row 3 (.ints S.by_)]) (fun i=>i≤n) (fun i=>n-i) 0 (by ((try simp only [xk]);(repeat (refine leK_cons ?_ ?_;first | (exact amE) | rotate_left));(refine leK_nil ?_;exact (by rfl));(all_goals (try (simp only [xr,simprocAttr];try refine int_eq1 ?_))))) (Nat.zero_le _) fun i hi => ?_
    have hat:=nb_at hbl (hv3 i hi)
    simp only [xr,simprocAttr]
    refine amGo ?_
    refine awp_cond amQ (fun hic => ?_) (fun hic => ?_)
    · have hic:=of_decide_eq_true hic
      obtain ⟨h1,h2,h3,-,h5⟩:=hat
      have h6:itr (stepN (nbX E S.by_)) (i+1) v=eto (E.getD (S.by_.getD (itr (stepN (nbX E S.by_)) i v) 0).toNat []):=h5
      have h7:=hE.at_ _ (getD_mem (show (S.by_.getD (itr (stepN (nbX E S.by_)) i v) 0).toNat<E.length by omega))
      generalize itr (stepN (nbX E S.by_)) i v=u at *
      refine amGo ?_
      refine ⟨i+1,by omega,by omega,.inl ?_⟩
      ((try simp only [xk]);(repeat (refine leK_cons ?_ ?_;first | (exact amE) | rotate_left));(refine leK_nil ?_;exact (by rfl));(all_goals (try (simp only [xr,simprocAttr];try refine int_eq1 ?_))))
      rw [h6]
      unfold eto
      omega
    · have hic:=of_decide_eq_false hic
      obtain rfl:i=n:=by omega
      have hsm:=hcy.some
      have hp1:=hcy.p1
      have hpn:=hcy.pn
      have hbk:=hcy.back
      have hfb:=hcy.first
      generalize itr (stepN (nbX E S.by_)) i v=c at *
      refine amGo ?_
      refine awp_rounds (α:=Nat) (fun j=>[(17,true,.int (itr (stepN (nbX E S.by_)) j c:Nat)),(15,true,.int (sumE cstE (runE (nbX E S.by_) c j))),(16,true,.int (sumE grwE (runE (nbX E S.by_) c j)))]) [1,10,11] (fun _=>[.row 3 (.ints S.num),.row 3 (.ints S.by_)]) (fun j=>j<p) (fun j=>p-j) 0 (by ((try simp only [xk]);(repeat (refine leK_cons ?_ ?_;first | (exact amE) | rotate_left));(refine leK_nil ?_;exact (by rfl));(all_goals (try (simp only [xr,simprocAttr];try refine int_eq1 ?_))))) (by omega) fun j hj => ?_
      obtain ⟨h1,h2,h3,h4,h5⟩:=nb_at hbl (hsm j)
      have hcb:=cyc_bd hbl hc hsm j
      have h6:itr (stepN (nbX E S.by_)) (j+1) c=eto (E.getD (S.by_.getD (itr (stepN (nbX E S.by_)) j c) 0).toNat []):=h5
      have h8:runE (nbX E S.by_) c (j+1)=runE (nbX E S.by_) c j++[E.getD (S.by_.getD (itr (stepN (nbX E S.by_)) j c) 0).toNat []]:=by rw [← h4];rfl
      have hm:=getD_mem (show (S.by_.getD (itr (stepN (nbX E S.by_)) j c) 0).toNat<E.length by omega)
      have h7:=hE.at_ _ hm
      have h9:=hc _ hm
      have h10:=hfb (j+1) (by omega)
      have h11:j+1=p→itr (stepN (nbX E S.by_)) (j+1) c=c:=fun e=>by rw [e];exact hbk
      have e1:sumE cstE (runE (nbX E S.by_) c (j+1))=sumE cstE (runE (nbX E S.by_) c j)+(E.getD (S.by_.getD (itr (stepN (nbX E S.by_)) j c) 0).toNat []).getD 2 0:=by
        rw [h8,sumE_app]
        simp [sumE,cstE]
      have e2:sumE grwE (runE (nbX E S.by_) c (j+1))=sumE grwE (runE (nbX E S.by_) c j)+(E.getD (S.by_.getD (itr (stepN (nbX E S.by_)) j c) 0).toNat []).getD 3 0:=by
        rw [h8,sumE_app]
        simp [sumE,grwE]
      have e3:((itr (stepN (nbX E S.by_)) (j+1) c:Nat):Int)=(E.getD (S.by_.getD (itr (stepN (nbX E S.by_)) j c) 0).toNat []).getD 1 0:=by
        rw [h6]
        unfold eto
        omega
      have e4:((itr (stepN (nbX E S.by_)) (j+1) c:Nat):Int)=c↔j+1=p:=⟨fun h=>Classical.byContradiction fun hne=>h10 (by omega) (by omega),fun h=>by rw [h11 h]⟩
      generalize itr (stepN (nbX E S.by_)) j c=u at *
      generalize sumE cstE (runE (nbX E S.by_) c j)=C at *
      generalize sumE grwE (runE (nbX E S.by_) c j)=G at *
      have f1:=e1.symm
      have f2:=e2.symm
      have f3:=e3.symm
      have i1:I64 (C+(E.getD (S.by_.getD u 0).toNat []).getD 2 0):=by unfold I64;omega
      have i2:I64 (G+(E.getD (S.by_.getD u 0).toNat []).getD 3 0):=by unfold I64;omega
      simp only [xr,simprocAttr]
      refine amGo ?_
      refine awp_cond amQ (fun hq => ?_) (fun hq => ?_)
      · have hq:=of_decide_eq_true hq
        have hjp:j+1=p:=e4.1 (by rw [e3];exact hq)
        refine amGo ?_
        (simp only [xe,simprocAttr];refine ⟨[_,_,_],⟨rfl,rfl,rfl,trivial⟩,rfl,Imp.eq ?_⟩)
        rw [← e1,← e2,hjp]
      · have hq:=of_decide_eq_false hq
        have hjp:j+1≠p:=fun e=>hq (by rw [← e3];exact e4.2 e)
        refine amGo ?_
        refine ⟨j+1,by omega,by omega,.inr ⟨2,Nat.le_of_ble_eq_true rfl,leT_of ?_ rfl rfl rfl⟩⟩
        ((try simp only [xk]);(repeat (refine leK_cons ?_ ?_;first | (exact amE) | rotate_left));(refine leK_nil ?_;exact (by rfl));(all_goals (try (simp only [xr,simprocAttr];try refine int_eq1 ?_))))
end Go.Proofs.Ytkcelmnbfbehbaa
