/- The reference's drawn sequences of requests and caches, on the machine. Conditions: the place is small. -/
import Derived.Test.YtjblpcgkffhgfaaGreatGDR
import Derived.Test.YtjblpcgkffhgfaaGreatKitG
import Derived.Test.YtjblpcgkffhgfaaGreatPlay
set_option linter.all false
set_option linter.unusedSimpArgs false
set_option linter.unusedVariables false
namespace Go.Proofs.YtjblpcgkffhgfaaGreat
open Go Go.RowKit Am

/-- behind a code, a thing takes the name of one that is gone -/
theorem awp_mvQ {P:Program} {cf:Cfg} {b:Base} {N:Nat} {c:Code} {Q:Exit→St→Prop} {X:St} (i n:Nat) (h:awp P cf b N c (fun e Y=>∃ p,Y.H[i]? = some .gone∧Y.H[n]? = some p∧i≠n∧b.fx.getD i false=false∧b.fx.getD n false=false∧Q e ⟨Y.T.map (Lf.mv i n),((Y.H.map (Ob.map (Lf.mv i n))).set i (p.map (Lf.mv i n))).set n .gone⟩) X):awp P cf b N c Q X:=fun a w hR=>Code.wp_mono (fun e a' w' ⟨_,⟨_,h1,h2,h3,h4,h5,hq⟩,_,_,M,hR'⟩=>by
  obtain ⟨φ',β',hR2⟩:=hR'.mv h1 h2 h3 h4 h5
  exact ⟨_,hq,φ',β',M,hR2⟩) (h a w hR)
theorem l1Least_e (a b:Int):Does Tryz.prog 138 [.int a,.int b] (.imm (.int (min a b))):=by
  refine spec_imm Tryz.func138 rfl Tryz.ntmps138 cfOK (fun _ _=>by kernel_rfl) rfl (Nat.le_of_ble_eq_true rfl) ?_
  intro M0 w0
  rw [Tryz.results138]
  refine amGo ?_
  refine awp_cond amQ (fun hc => ?_) (fun hc => ?_)
  · have:=of_decide_eq_true hc
    refine amGo ?_
    (simp only [xe,simprocAttr];refine ⟨_,rfl,rfl,Imp.eq ?_⟩)
    rw [Int.min_eq_left (by omega)]
  · have:=of_decide_eq_false hc
    refine amGo ?_
    (simp only [xe,simprocAttr];refine ⟨_,rfl,rfl,Imp.eq ?_⟩)
    rw [Int.min_eq_right (by omega)]
/-- one request more -/
def rqN (near m:Int) (j:Nat) (s:Cu×List Int):Cu×List Int :=
  if near=0∧0<j then (pkC 2 s.1,s.2++[(s.2.getD (j-1) 0+pkV 2 s.1) % m])
  else if near=1∧2<j then (if pkV 3 (pkC 3 s.1)=0 then (pkC m (pkC 3 (pkC 3 s.1)),s.2++[pkV m (pkC 3 (pkC 3 s.1))]) else (pkC 3 (pkC 3 s.1),s.2++[s.2.getD (j-1-(pkV 3 s.1).toNat) 0]))
  else (pkC m s.1,s.2++[pkV m s.1])
def rqS (near m:Int) (c:Cu):Nat→Cu×List Int
  | 0=>(c,[])
  | j+1=>rqN near m j (rqS near m c j)
theorem rqN_len {near m:Int} {j:Nat} {s:Cu×List Int}:(rqN near m j s).2.length=s.2.length+1:=by
  unfold rqN
  split
  · simp
  · split
    · split<;>simp
    · simp
theorem rqS_len (near m:Int) (c:Cu):∀ j,(rqS near m c j).2.length=j
  | 0=>rfl
  | j+1=>by
    show (rqN near m j _).2.length=_
    rw [rqN_len,rqS_len near m c j]
theorem rqS_ok {near m:Int} {c:Cu} {m0:Int} (h:CuOK m0 c):∀ j:Nat,CuOK (m0+6*j) (rqS near m c j).1
  | 0=>h.mono (by omega)
  | j+1=>by
    have ih:=rqS_ok (near:=near) (m:=m) h j
    show CuOK _ (rqN near m j _).1
    unfold rqN
    split
    · exact (pkC_ok ih).mono (by omega)
    · split
      · split
        · exact (pkC_ok (pkC_ok (pkC_ok ih))).mono (by omega)
        · exact (pkC_ok (pkC_ok ih)).mono (by omega)
      · exact (pkC_ok ih).mono (by omega)
theorem rqS_val {near m:Int} {c:Cu} {m0:Int} (h:CuOK m0 c) (hm:1≤m):∀ j,∀ x∈(rqS near m c j).2,0≤x∧x<m
  | 0=>by simp [rqS]
  | j+1=>by
    have ih:=rqS_val (near:=near) h hm j
    have hc:=rqS_ok (near:=near) (m:=m) h j
    have hl:=rqS_len near m c j
    show ∀ x∈(rqN near m j _).2,_
    generalize rqS near m c j=s at ih hc hl
    have key:∀ v,0≤v∧v<m→∀ x∈s.2++[v],0≤x∧x<m:=fun v hv x hx=>by
      rcases List.mem_append.1 hx with hx | hx
      · exact ih x hx
      · rw [List.mem_singleton.1 hx];exact hv
    unfold rqN
    split
    · exact key _ ⟨Int.emod_nonneg _ (by omega),Int.emod_lt_of_pos _ (by omega)⟩
    · split
      · split
        · have:=pkV_rng m (pkC_ok (n:=3) (pkC_ok (n:=3) hc))
          exact key _ ⟨this.1,this.2 hm⟩
        · rename_i h1 _
          refine key _ ?_
          have hi:j-1-(pkV 3 s.1).toNat<s.2.length:=by omega
          rw [show s.2.getD (j-1-(pkV 3 s.1).toNat) 0=s.2[j-1-(pkV 3 s.1).toNat] from by simp [hi]]
          exact ih _ (List.getElem_mem _)
      · have:=pkV_rng m hc
        exact key _ ⟨this.1,this.2 hm⟩
/-- a long sequence -/
def rqL (m:Int):Nat→Cu×List Int→Cu×List Int
  | 0,s=>s
  | f+1,s=>if (s.2.length:Int)<60+pkV 2 s.1 then rqL m f (pkC 2 s.1,s.2++[(s.2.length:Int) % m]) else (pkC 2 s.1,s.2)
abbrev lenL:List Int:=[6,9,12,4,16,2,24,1,0]
theorem rqL_spec {m:Int} (hm:1≤m):∀ (f:Nat) (s:Cu×List Int) (m0:Int),CuOK m0 s.1→s.2.length≤61→62≤s.2.length+f→(rqL m f s).2.length≤61∧CuOK (m0+2*f) (rqL m f s).1
  | 0,s,m0,h,h1,h2=>by omega
  | f+1,s,m0,h,h1,h2=>by
    have hv:=pkV_rng 2 h
    unfold rqL
    split
    · have:=rqL_spec hm f (pkC 2 s.1,s.2++[(s.2.length:Int) % m]) (m0+2) (pkC_ok h) (by simp;omega) (by simp;omega)
      exact ⟨this.1,this.2.mono (by omega)⟩
    · exact ⟨h1,(pkC_ok h).mono (by omega)⟩
set_option maxHeartbeats 8000000 in
theorem requests_h {n:Int} {c:Cu} (hn : -1000≤n∧n≤1000) (hc:CuOK 999999990000 c):∃ rs c',rs.length≤61∧(∀ m0,CuOK m0 c→CuOK (m0+300) c')∧DoesH Tryz.prog 90 [.lf (.ptr 0 0),.int n] [true] [curO c] (.sl (.ints rs)) [curO c']:=by
  have hm:=amV_mem (xs:=lenL) hc (by simp)
  obtain ⟨N,hN,hN1⟩:∃ N:Nat,amV lenL c=N∧N≤24:=by
    simp only [List.mem_cons,List.not_mem_nil,or_false] at hm
    exact ⟨(amV lenL c).toNat,by omega,by omega⟩
  obtain ⟨m,hmm,hm1,hm8⟩:∃ m:Int,max 1 (min n 8)=m∧1≤m∧m≤8:=⟨_,rfl,by omega,by omega⟩
  have d1:=among_h (xs:=lenL) (c:=c) (hc.mono (by omega)) (by simp)
  rw [hN] at d1
  have hc1:=amC_ok (xs:=lenL) hc
  have b1:∀ m0,CuOK m0 c→CuOK (m0+2) (aqC lenL c):=fun _ h=>amC_ok h
  generalize aqC lenL c=c1 at hc1 b1 d1
  have d2:=pick_h (n:=3) (c:=c1) (hc1.mono (by omega))
  have hc2:=pkC_ok (n:=3) hc1
  have b2:∀ m0,CuOK m0 c→CuOK (m0+4) (pkC 3 c1):=fun m0 h=>(pkC_ok (b1 m0 h)).mono (by omega)
  have hnr:=pkV_rng 3 hc1
  generalize pkV 3 c1=near at d2 hnr
  generalize pkC 3 c1=c2 at d2 hc2 b2
  have hcz:=rqS_ok (near:=near) (m:=m) hc2 N
  have bz:∀ m0,CuOK m0 c→CuOK (m0+150) (rqS near m c2 N).1:=fun m0 h=>(rqS_ok (b2 m0 h) N).mono (by omega)
  have hlz:=rqS_len near m c2 N
  obtain ⟨⟨cz,z⟩,hz⟩:∃ s,rqS near m c2 N=s:=⟨_,rfl⟩
  rw [hz] at hcz hlz bz
  dsimp only at hcz hlz bz
  have d3:=pick_h (n:=48) (c:=cz) (hcz.mono (by omega))
  have hcp:=pkC_ok (n:=48) hcz
  have bp:∀ m0,CuOK m0 c→CuOK (m0+152) (pkC 48 cz):=fun m0 h=>(pkC_ok (bz m0 h)).mono (by omega)
  obtain ⟨tg,htg⟩:∃ tg,pkV 48 cz=tg:=⟨_,rfl⟩
  rw [htg] at d3
  generalize pkC 48 cz=cp at d3 hcp bp
  by_cases t8:tg=0
  · refine ⟨z++[amV [-1,n,8] cp],aqC [-1,n,8] cp,by simp;omega,fun m0 h=>(amC_ok (bp m0 h)).mono (by omega),?_⟩
    refine spec_hB Tryz.func90 rfl Tryz.ntmps90 cfOK (fun _ _=>by kernel_rfl) rfl rfl rfl ?_
    intro M0 w0 S φ0
    rw [Tryz.results90]
    refine amGo ?_
    ((try refine Or.inl ?_);refine ⟨_,(l1Least_e n 8),.inl rfl,?_⟩;refine amC ?_)
    refine amGo ?_
    ((try refine Or.inl ?_);refine ⟨_,(l1Most_e 1 (min n 8)),.inl rfl,?_⟩;refine amC ?_)
    rw [hmm]
    refine amGo ?_
    (refine .inr (.inl (callW_a [0] (d1) rfl rfl rfl rfl ⟨rfl,trivial⟩ rfl rfl rfl rfl ?_));refine amC ?_)
    refine amGo ?_
    (refine .inr (.inl (callW_a [0] (d2) rfl rfl rfl rfl ⟨rfl,trivial⟩ rfl rfl rfl rfl ?_));refine amC ?_)
    refine amGo ?_
    refine awp_rounds (α:=Nat) (fun _=>[]) [0,1,5,6,7,8] (fun j=>[curO (rqS near m c2 j).1,.row 3 (.ints (rqS near m c2 j).2)]) (fun j=>j≤N) (fun j=>N-j) 0 (by ((try simp only [xk]);(repeat (refine leK_cons ?_ ?_;first | (exact amE) | rotate_left));(refine leK_nil ?_;exact (by rfl));(all_goals (try (simp only [xr,simprocAttr];try refine int_eq1 ?_))))) (Nat.zero_le _) fun j hj => ?_
    have hjl:=rqS_len near m c2 j
    have hjc:=rqS_ok (near:=near) (m:=m) hc2 j
    have hjv:=rqS_val (near:=near) hc2 hm1 j
    have hjn:rqS near m c2 (j+1)=rqN near m j (rqS near m c2 j):=rfl
    generalize hsj:rqS near m c2 j=s at hjl hjc hjv hjn ⊢
    obtain ⟨cj,o⟩:=s
    unfold rqN at hjn
    dsimp only at hjl hjc hjv hjn ⊢
    simp only [xr,simprocAttr]
    refine amGo ?_
    refine awp_cond amQ (fun t0 => ?_) (fun t0 => ?_)
    · have t0:j<N:=by have:=of_decide_eq_true t0;omega
      refine amGo ?_
      refine awp_cond amQ (fun t1 => ?_) (fun t1 => ?_)
      · have t1:near=0∧0<j:=by
          simp only [Bool.cond_eq_ite,decide_eq_true_eq] at t1
          split at t1
          · exact ⟨by assumption,by have:=of_decide_eq_true t1;omega⟩
          · cases t1
        rw [if_pos t1] at hjn
        have ej:((o.length:Int)-1).toNat=j-1:=by omega
        have hlast:0≤o.getD ((o.length:Int)-1).toNat 0∧o.getD ((o.length:Int)-1).toNat 0<m:=hjv _ (by
          rw [ej,show o.getD (j-1) 0=o[j-1]'(by omega) from by simp [show j-1<o.length by omega]]
          exact List.getElem_mem _)
        have hpv:=pkV_rng 2 hjc
        refine awp_mvQ 1 2 ?_
        (refine amB ?_;refine awp_anyG 1 [(8,[0]),(13,[2,1])] [2,1,0] [(3,[0]),(5,[0]),(6,[0]),(8,[2,1]),(13,[0]),(14,[0])] ?_;refine amNG ?_)
        ((first | refine .inr (.inr ⟨0,_,_,callG_h (pick_h (n:=2) (c:=cj) (hjc.mono (by omega))) rfl rfl rfl rfl rfl rfl rfl,?_⟩) | refine .inr ⟨0,_,_,callG_h (pick_h (n:=2) (c:=cj) (hjc.mono (by omega))) rfl rfl rfl rfl rfl rfl rfl,?_⟩ | refine ⟨0,_,_,callG_h (pick_h (n:=2) (c:=cj) (hjc.mono (by omega))) rfl rfl rfl rfl rfl rfl rfl,?_⟩);refine amTG ?_)
        simp only [xm,simprocAttr]
        refine ⟨j+1,by omega,by omega,.inr ⟨2,Nat.le_of_ble_eq_true rfl,leT_of ?_ rfl rfl rfl⟩⟩
        ((try simp only [xk]);(repeat (refine leK_cons ?_ ?_;first | (exact amE) | rotate_left));(refine leK_nil ?_;exact (by rw [hjn,ej]<;>rfl));(all_goals (try (simp only [xr,simprocAttr];try refine int_eq1 ?_))))
      · have t1:¬ (near=0∧0<j):=fun h=>by
          simp only [Bool.cond_eq_ite,h.1,decide_true,if_true] at t1
          have:=of_decide_eq_false t1
          omega
        rw [if_neg t1] at hjn
        refine amGo ?_
        refine awp_cond amQ (fun t2 => ?_) (fun t2 => ?_)
        · have t2:near=1∧2<j:=by
            simp only [Bool.cond_eq_ite,decide_eq_true_eq] at t2
            split at t2
            · exact ⟨by assumption,by have:=of_decide_eq_true t2;omega⟩
            · cases t2
          rw [if_pos t2] at hjn
          have hpv:=pkV_rng 3 hjc
          refine amGo ?_
          (refine .inr (.inl (callW_a [0] (pick_h (n:=3) (c:=cj) (hjc.mono (by omega))) rfl rfl rfl rfl ⟨rfl,trivial⟩ rfl rfl rfl rfl ?_));refine amC ?_)
          have hj1:=pkC_ok (n:=3) hjc
          have hj2:=pkC_ok (n:=3) hj1
          generalize pkV 3 cj=v at hpv hjn ⊢
          generalize pkC 3 cj=cj1 at hj1 hj2 hjn ⊢
          have ev:((o.length:Int)-1-v).toNat=j-1-v.toNat:=by omega
          refine amGo ?_
          (refine .inr (.inl (callW_a [0] (one_h (n:=3) (c:=cj1) (hj1.mono (by omega))) rfl rfl rfl rfl ⟨rfl,trivial⟩ rfl rfl rfl rfl ?_));refine amC ?_)
          generalize pkV 3 cj1=u at hjn ⊢
          generalize pkC 3 cj1=cj2 at hj2 hjn ⊢
          refine amGo ?_
          refine awp_cond amQ (fun t3 => ?_) (fun t3 => ?_)
          · rw [if_pos (of_decide_eq_true t3)] at hjn
            have eo:(((o++[o.getD ((o.length:Int)-1-v).toNat 0]).length:Int)-1).toNat=o.length:=by simp
            have eo2:(o++[o.getD ((o.length:Int)-1-v).toNat 0]).length=o.length+1:=by simp
            refine amGo ?_
            (refine .inr (.inl (callW_a [0] (pick_h (n:=m) (c:=cj2) (hj2.mono (by omega))) rfl rfl rfl rfl ⟨rfl,trivial⟩ rfl rfl rfl rfl ?_));refine amC ?_)
            refine amGo ?_
            refine ⟨j+1,by omega,by omega,.inr ⟨2,Nat.le_of_ble_eq_true rfl,leT_of ?_ rfl rfl rfl⟩⟩
            ((try simp only [xk]);(repeat (refine leK_cons ?_ ?_;first | (exact amE) | rotate_left));(refine leK_nil ?_;exact (by rw [hjn]<;>simp<;>rfl));(all_goals (try (simp only [xr,simprocAttr];try refine int_eq1 ?_))))
          · rw [if_neg (of_decide_eq_false t3)] at hjn
            refine amGo ?_
            refine ⟨j+1,by omega,by omega,.inr ⟨2,Nat.le_of_ble_eq_true rfl,leT_of ?_ rfl rfl rfl⟩⟩
            ((try simp only [xk]);(repeat (refine leK_cons ?_ ?_;first | (exact amE) | rotate_left));(refine leK_nil ?_;exact (by rw [hjn,ev]<;>rfl));(all_goals (try (simp only [xr,simprocAttr];try refine int_eq1 ?_))))
        · have t2:¬ (near=1∧2<j):=fun h=>by
            simp only [Bool.cond_eq_ite,h.1,decide_true,if_true] at t2
            have:=of_decide_eq_false t2
            omega
          rw [if_neg t2] at hjn
          refine amGo ?_
          (refine .inr (.inl (callW_a [0] (pick_h (n:=m) (c:=cj) (hjc.mono (by omega))) rfl rfl rfl rfl ⟨rfl,trivial⟩ rfl rfl rfl rfl ?_));refine amC ?_)
          refine amGo ?_
          refine ⟨j+1,by omega,by omega,.inr ⟨2,Nat.le_of_ble_eq_true rfl,leT_of ?_ rfl rfl rfl⟩⟩
          ((try simp only [xk]);(repeat (refine leK_cons ?_ ?_;first | (exact amE) | rotate_left));(refine leK_nil ?_;exact (by rw [hjn]<;>rfl));(all_goals (try (simp only [xr,simprocAttr];try refine int_eq1 ?_))))
    have t0:j=N:=by have:=of_decide_eq_false t0;omega
    subst t0
    obtain ⟨rfl,rfl⟩:=Prod.mk.inj (hsj.symm.trans hz)
    refine amGo ?_
    (refine .inr (.inl (callW_a [0] (d3) rfl rfl rfl rfl ⟨rfl,trivial⟩ rfl rfl rfl rfl ?_));refine amC ?_)
    refine amGo ?_
    refine awp_cond amQ (fun e0 => ?_) (fun e0 => ?_)
    · refine amGo ?_
      (refine .inr (.inl (callW_a [0] (among_h (xs:=[-1,n,8]) (hcp.mono (by omega)) (by simp)) rfl rfl rfl rfl ⟨rfl,trivial⟩ rfl rfl rfl rfl ?_));refine amC ?_)
      (refine awp_frz 1 rfl ?_;simp only [xz,simprocAttr])
      refine amGo ?_
      (simp only [ends_normal,ends_ret];refine retH_1 [0] rfl ⟨rfl,trivial⟩ rfl rfl rfl rfl rfl ?_;try rfl)
    · simp [t8] at e0
  by_cases t9:tg=1
  · have hfin:=rqL_spec hm1 62 (cp,z) _ hcp (by dsimp only;omega) (by dsimp only;omega)
    have bfin:∀ m0,CuOK m0 c→CuOK (m0+300) (rqL m 62 (cp,z)).1:=fun m0 h=>(rqL_spec hm1 62 (cp,z) _ (bp m0 h) (by dsimp only;omega) (by dsimp only;omega)).2.mono (by omega)
    generalize hG:rqL m 62 (cp,z)=G at hfin bfin
    refine ⟨G.2,G.1,hfin.1,bfin,?_⟩
    refine spec_hB Tryz.func90 rfl Tryz.ntmps90 cfOK (fun _ _=>by kernel_rfl) rfl rfl rfl ?_
    intro M0 w0 S φ0
    rw [Tryz.results90]
    refine amGo ?_
    ((try refine Or.inl ?_);refine ⟨_,(l1Least_e n 8),.inl rfl,?_⟩;refine amC ?_)
    refine amGo ?_
    ((try refine Or.inl ?_);refine ⟨_,(l1Most_e 1 (min n 8)),.inl rfl,?_⟩;refine amC ?_)
    rw [hmm]
    refine amGo ?_
    (refine .inr (.inl (callW_a [0] (d1) rfl rfl rfl rfl ⟨rfl,trivial⟩ rfl rfl rfl rfl ?_));refine amC ?_)
    refine amGo ?_
    (refine .inr (.inl (callW_a [0] (d2) rfl rfl rfl rfl ⟨rfl,trivial⟩ rfl rfl rfl rfl ?_));refine amC ?_)
    refine amGo ?_
    refine awp_rounds (α:=Nat) (fun _=>[]) [0,1,5,6,7,8] (fun j=>[curO (rqS near m c2 j).1,.row 3 (.ints (rqS near m c2 j).2)]) (fun j=>j≤N) (fun j=>N-j) 0 (by ((try simp only [xk]);(repeat (refine leK_cons ?_ ?_;first | (exact amE) | rotate_left));(refine leK_nil ?_;exact (by rfl));(all_goals (try (simp only [xr,simprocAttr];try refine int_eq1 ?_))))) (Nat.zero_le _) fun j hj => ?_
    have hjl:=rqS_len near m c2 j
    have hjc:=rqS_ok (near:=near) (m:=m) hc2 j
    have hjv:=rqS_val (near:=near) hc2 hm1 j
    have hjn:rqS near m c2 (j+1)=rqN near m j (rqS near m c2 j):=rfl
    generalize hsj:rqS near m c2 j=s at hjl hjc hjv hjn ⊢
    obtain ⟨cj,o⟩:=s
    unfold rqN at hjn
    dsimp only at hjl hjc hjv hjn ⊢
    simp only [xr,simprocAttr]
    refine amGo ?_
    refine awp_cond amQ (fun t0 => ?_) (fun t0 => ?_)
    · have t0:j<N:=by have:=of_decide_eq_true t0;omega
      refine amGo ?_
      refine awp_cond amQ (fun t1 => ?_) (fun t1 => ?_)
      · have t1:near=0∧0<j:=by
          simp only [Bool.cond_eq_ite,decide_eq_true_eq] at t1
          split at t1
          · exact ⟨by assumption,by have:=of_decide_eq_true t1;omega⟩
          · cases t1
        rw [if_pos t1] at hjn
        have ej:((o.length:Int)-1).toNat=j-1:=by omega
        have hlast:0≤o.getD ((o.length:Int)-1).toNat 0∧o.getD ((o.length:Int)-1).toNat 0<m:=hjv _ (by
          rw [ej,show o.getD (j-1) 0=o[j-1]'(by omega) from by simp [show j-1<o.length by omega]]
          exact List.getElem_mem _)
        have hpv:=pkV_rng 2 hjc
        refine awp_mvQ 1 2 ?_
        (refine amB ?_;refine awp_anyG 1 [(8,[0]),(13,[2,1])] [2,1,0] [(3,[0]),(5,[0]),(6,[0]),(8,[2,1]),(13,[0]),(14,[0])] ?_;refine amNG ?_)
        ((first | refine .inr (.inr ⟨0,_,_,callG_h (pick_h (n:=2) (c:=cj) (hjc.mono (by omega))) rfl rfl rfl rfl rfl rfl rfl,?_⟩) | refine .inr ⟨0,_,_,callG_h (pick_h (n:=2) (c:=cj) (hjc.mono (by omega))) rfl rfl rfl rfl rfl rfl rfl,?_⟩ | refine ⟨0,_,_,callG_h (pick_h (n:=2) (c:=cj) (hjc.mono (by omega))) rfl rfl rfl rfl rfl rfl rfl,?_⟩);refine amTG ?_)
        simp only [xm,simprocAttr]
        refine ⟨j+1,by omega,by omega,.inr ⟨2,Nat.le_of_ble_eq_true rfl,leT_of ?_ rfl rfl rfl⟩⟩
        ((try simp only [xk]);(repeat (refine leK_cons ?_ ?_;first | (exact amE) | rotate_left));(refine leK_nil ?_;exact (by rw [hjn,ej]<;>rfl));(all_goals (try (simp only [xr,simprocAttr];try refine int_eq1 ?_))))
      · have t1:¬ (near=0∧0<j):=fun h=>by
          simp only [Bool.cond_eq_ite,h.1,decide_true,if_true] at t1
          have:=of_decide_eq_false t1
          omega
        rw [if_neg t1] at hjn
        refine amGo ?_
        refine awp_cond amQ (fun t2 => ?_) (fun t2 => ?_)
        · have t2:near=1∧2<j:=by
            simp only [Bool.cond_eq_ite,decide_eq_true_eq] at t2
            split at t2
            · exact ⟨by assumption,by have:=of_decide_eq_true t2;omega⟩
            · cases t2
          rw [if_pos t2] at hjn
          have hpv:=pkV_rng 3 hjc
          refine amGo ?_
          (refine .inr (.inl (callW_a [0] (pick_h (n:=3) (c:=cj) (hjc.mono (by omega))) rfl rfl rfl rfl ⟨rfl,trivial⟩ rfl rfl rfl rfl ?_));refine amC ?_)
          have hj1:=pkC_ok (n:=3) hjc
          have hj2:=pkC_ok (n:=3) hj1
          generalize pkV 3 cj=v at hpv hjn ⊢
          generalize pkC 3 cj=cj1 at hj1 hj2 hjn ⊢
          have ev:((o.length:Int)-1-v).toNat=j-1-v.toNat:=by omega
          refine amGo ?_
          (refine .inr (.inl (callW_a [0] (one_h (n:=3) (c:=cj1) (hj1.mono (by omega))) rfl rfl rfl rfl ⟨rfl,trivial⟩ rfl rfl rfl rfl ?_));refine amC ?_)
          generalize pkV 3 cj1=u at hjn ⊢
          generalize pkC 3 cj1=cj2 at hj2 hjn ⊢
          refine amGo ?_
          refine awp_cond amQ (fun t3 => ?_) (fun t3 => ?_)
          · rw [if_pos (of_decide_eq_true t3)] at hjn
            have eo:(((o++[o.getD ((o.length:Int)-1-v).toNat 0]).length:Int)-1).toNat=o.length:=by simp
            have eo2:(o++[o.getD ((o.length:Int)-1-v).toNat 0]).length=o.length+1:=by simp
            refine amGo ?_
            (refine .inr (.inl (callW_a [0] (pick_h (n:=m) (c:=cj2) (hj2.mono (by omega))) rfl rfl rfl rfl ⟨rfl,trivial⟩ rfl rfl rfl rfl ?_));refine amC ?_)
            refine amGo ?_
            refine ⟨j+1,by omega,by omega,.inr ⟨2,Nat.le_of_ble_eq_true rfl,leT_of ?_ rfl rfl rfl⟩⟩
            ((try simp only [xk]);(repeat (refine leK_cons ?_ ?_;first | (exact amE) | rotate_left));(refine leK_nil ?_;exact (by rw [hjn]<;>simp<;>rfl));(all_goals (try (simp only [xr,simprocAttr];try refine int_eq1 ?_))))
          · rw [if_neg (of_decide_eq_false t3)] at hjn
            refine amGo ?_
            refine ⟨j+1,by omega,by omega,.inr ⟨2,Nat.le_of_ble_eq_true rfl,leT_of ?_ rfl rfl rfl⟩⟩
            ((try simp only [xk]);(repeat (refine leK_cons ?_ ?_;first | (exact amE) | rotate_left));(refine leK_nil ?_;exact (by rw [hjn,ev]<;>rfl));(all_goals (try (simp only [xr,simprocAttr];try refine int_eq1 ?_))))
        · have t2:¬ (near=1∧2<j):=fun h=>by
            simp only [Bool.cond_eq_ite,h.1,decide_true,if_true] at t2
            have:=of_decide_eq_false t2
            omega
          rw [if_neg t2] at hjn
          refine amGo ?_
          (refine .inr (.inl (callW_a [0] (pick_h (n:=m) (c:=cj) (hjc.mono (by omega))) rfl rfl rfl rfl ⟨rfl,trivial⟩ rfl rfl rfl rfl ?_));refine amC ?_)
          refine amGo ?_
          refine ⟨j+1,by omega,by omega,.inr ⟨2,Nat.le_of_ble_eq_true rfl,leT_of ?_ rfl rfl rfl⟩⟩
          ((try simp only [xk]);(repeat (refine leK_cons ?_ ?_;first | (exact amE) | rotate_left));(refine leK_nil ?_;exact (by rw [hjn]<;>rfl));(all_goals (try (simp only [xr,simprocAttr];try refine int_eq1 ?_))))
    have t0:j=N:=by have:=of_decide_eq_false t0;omega
    subst t0
    obtain ⟨rfl,rfl⟩:=Prod.mk.inj (hsj.symm.trans hz)
    refine amGo ?_
    (refine .inr (.inl (callW_a [0] (d3) rfl rfl rfl rfl ⟨rfl,trivial⟩ rfl rfl rfl rfl ?_));refine amC ?_)
    refine amGo ?_
    refine awp_cond amQ (fun e0 => ?_) (fun e0 => ?_)
    · simp [t9] at e0
    refine amGo ?_
    refine awp_cond amQ (fun e1 => ?_) (fun e1 => ?_)
    · refine amGo ?_
      refine awp_rounds (α:=Cu×List Int×Nat) (fun _=>[]) [0,5,6] (fun a=>[curO a.1,.row 3 (.ints a.2.1)]) (fun a=>(∃ q:Int,CuOK q a.1∧q+2*a.2.2≤999999990400)∧a.2.1.length≤61∧62≤a.2.1.length+a.2.2∧rqL m a.2.2 (a.1,a.2.1)=G) (fun a=>a.2.2) (cp,o,62) (by ((try simp only [xk]);(repeat (refine leK_cons ?_ ?_;first | (exact amE) | rotate_left));(refine leK_nil ?_;exact (by rfl));(all_goals (try (simp only [xr,simprocAttr];try refine int_eq1 ?_))))) ⟨⟨_,hcp,by dsimp only;omega⟩,by dsimp only;omega,by dsimp only;omega,hG⟩ fun ⟨cr,o2,fl⟩ hr => ?_
      obtain ⟨⟨q,hq1,hq2⟩,hr1,hr2,hr3⟩:=hr
      dsimp only at hq1 hq2 hr1 hr2 hr3 ⊢
      obtain ⟨fl,rfl⟩:∃ f,fl=f+1:=⟨fl-1,by omega⟩
      have hqv:=pkV_rng 2 hq1
      unfold rqL at hr3
      dsimp only at hr3
      simp only [xr,simprocAttr]
      refine amGo ?_
      (refine .inr (.inl (callW_a [0] (pick_h (n:=2) (c:=cr) (hq1.mono (by omega))) rfl rfl rfl rfl ⟨rfl,trivial⟩ rfl rfl rfl rfl ?_));refine amC ?_)
      refine amGo ?_
      refine awp_cond amQ (fun e2 => ?_) (fun e2 => ?_)
      · have e2:=of_decide_eq_true e2
        rw [if_pos e2] at hr3
        refine amGo ?_
        refine ⟨(pkC 2 cr,o2++[(o2.length:Int) % m],fl),?_⟩
        dsimp only
        refine ⟨⟨q+2,pkC_ok hq1,by omega⟩,by simp;omega,by simp;omega,hr3,by omega,.inr ⟨2,Nat.le_of_ble_eq_true rfl,leT_of ?_ rfl rfl rfl⟩⟩
        ((try simp only [xk]);(repeat (refine leK_cons ?_ ?_;first | (exact amE) | rotate_left));(refine leK_nil ?_;exact (by rfl));(all_goals (try (simp only [xr,simprocAttr];try refine int_eq1 ?_))))
      · have e2:=of_decide_eq_false e2
        rw [if_neg e2] at hr3
        subst hr3
        (refine awp_frz 1 rfl ?_;simp only [xz,simprocAttr])
        refine amGo ?_
        (simp only [ends_normal,ends_ret];refine retH_1 [0] rfl ⟨rfl,trivial⟩ rfl rfl rfl rfl rfl ?_;try rfl)
    · simp [t9] at e1
  · refine ⟨z,cp,by omega,fun m0 h=>(bp m0 h).mono (by omega),?_⟩
    refine spec_hB Tryz.func90 rfl Tryz.ntmps90 cfOK (fun _ _=>by kernel_rfl) rfl rfl rfl ?_
    intro M0 w0 S φ0
    rw [Tryz.results90]
    refine amGo ?_
    ((try refine Or.inl ?_);refine ⟨_,(l1Least_e n 8),.inl rfl,?_⟩;refine amC ?_)
    refine amGo ?_
    ((try refine Or.inl ?_);refine ⟨_,(l1Most_e 1 (min n 8)),.inl rfl,?_⟩;refine amC ?_)
    rw [hmm]
    refine amGo ?_
    (refine .inr (.inl (callW_a [0] (d1) rfl rfl rfl rfl ⟨rfl,trivial⟩ rfl rfl rfl rfl ?_));refine amC ?_)
    refine amGo ?_
    (refine .inr (.inl (callW_a [0] (d2) rfl rfl rfl rfl ⟨rfl,trivial⟩ rfl rfl rfl rfl ?_));refine amC ?_)
    refine amGo ?_
    refine awp_rounds (α:=Nat) (fun _=>[]) [0,1,5,6,7,8] (fun j=>[curO (rqS near m c2 j).1,.row 3 (.ints (rqS near m c2 j).2)]) (fun j=>j≤N) (fun j=>N-j) 0 (by ((try simp only [xk]);(repeat (refine leK_cons ?_ ?_;first | (exact amE) | rotate_left));(refine leK_nil ?_;exact (by rfl));(all_goals (try (simp only [xr,simprocAttr];try refine int_eq1 ?_))))) (Nat.zero_le _) fun j hj => ?_
    have hjl:=rqS_len near m c2 j
    have hjc:=rqS_ok (near:=near) (m:=m) hc2 j
    have hjv:=rqS_val (near:=near) hc2 hm1 j
    have hjn:rqS near m c2 (j+1)=rqN near m j (rqS near m c2 j):=rfl
    generalize hsj:rqS near m c2 j=s at hjl hjc hjv hjn ⊢
    obtain ⟨cj,o⟩:=s
    unfold rqN at hjn
    dsimp only at hjl hjc hjv hjn ⊢
    simp only [xr,simprocAttr]
    refine amGo ?_
    refine awp_cond amQ (fun t0 => ?_) (fun t0 => ?_)
    · have t0:j<N:=by have:=of_decide_eq_true t0;omega
      refine amGo ?_
      refine awp_cond amQ (fun t1 => ?_) (fun t1 => ?_)
      · have t1:near=0∧0<j:=by
          simp only [Bool.cond_eq_ite,decide_eq_true_eq] at t1
          split at t1
          · exact ⟨by assumption,by have:=of_decide_eq_true t1;omega⟩
          · cases t1
        rw [if_pos t1] at hjn
        have ej:((o.length:Int)-1).toNat=j-1:=by omega
        have hlast:0≤o.getD ((o.length:Int)-1).toNat 0∧o.getD ((o.length:Int)-1).toNat 0<m:=hjv _ (by
          rw [ej,show o.getD (j-1) 0=o[j-1]'(by omega) from by simp [show j-1<o.length by omega]]
          exact List.getElem_mem _)
        have hpv:=pkV_rng 2 hjc
        refine awp_mvQ 1 2 ?_
        (refine amB ?_;refine awp_anyG 1 [(8,[0]),(13,[2,1])] [2,1,0] [(3,[0]),(5,[0]),(6,[0]),(8,[2,1]),(13,[0]),(14,[0])] ?_;refine amNG ?_)
        ((first | refine .inr (.inr ⟨0,_,_,callG_h (pick_h (n:=2) (c:=cj) (hjc.mono (by omega))) rfl rfl rfl rfl rfl rfl rfl,?_⟩) | refine .inr ⟨0,_,_,callG_h (pick_h (n:=2) (c:=cj) (hjc.mono (by omega))) rfl rfl rfl rfl rfl rfl rfl,?_⟩ | refine ⟨0,_,_,callG_h (pick_h (n:=2) (c:=cj) (hjc.mono (by omega))) rfl rfl rfl rfl rfl rfl rfl,?_⟩);refine amTG ?_)
        simp only [xm,simprocAttr]
        refine ⟨j+1,by omega,by omega,.inr ⟨2,Nat.le_of_ble_eq_true rfl,leT_of ?_ rfl rfl rfl⟩⟩
        ((try simp only [xk]);(repeat (refine leK_cons ?_ ?_;first | (exact amE) | rotate_left));(refine leK_nil ?_;exact (by rw [hjn,ej]<;>rfl));(all_goals (try (simp only [xr,simprocAttr];try refine int_eq1 ?_))))
      · have t1:¬ (near=0∧0<j):=fun h=>by
          simp only [Bool.cond_eq_ite,h.1,decide_true,if_true] at t1
          have:=of_decide_eq_false t1
          omega
        rw [if_neg t1] at hjn
        refine amGo ?_
        refine awp_cond amQ (fun t2 => ?_) (fun t2 => ?_)
        · have t2:near=1∧2<j:=by
            simp only [Bool.cond_eq_ite,decide_eq_true_eq] at t2
            split at t2
            · exact ⟨by assumption,by have:=of_decide_eq_true t2;omega⟩
            · cases t2
          rw [if_pos t2] at hjn
          have hpv:=pkV_rng 3 hjc
          refine amGo ?_
          (refine .inr (.inl (callW_a [0] (pick_h (n:=3) (c:=cj) (hjc.mono (by omega))) rfl rfl rfl rfl ⟨rfl,trivial⟩ rfl rfl rfl rfl ?_));refine amC ?_)
          have hj1:=pkC_ok (n:=3) hjc
          have hj2:=pkC_ok (n:=3) hj1
          generalize pkV 3 cj=v at hpv hjn ⊢
          generalize pkC 3 cj=cj1 at hj1 hj2 hjn ⊢
          have ev:((o.length:Int)-1-v).toNat=j-1-v.toNat:=by omega
          refine amGo ?_
          (refine .inr (.inl (callW_a [0] (one_h (n:=3) (c:=cj1) (hj1.mono (by omega))) rfl rfl rfl rfl ⟨rfl,trivial⟩ rfl rfl rfl rfl ?_));refine amC ?_)
          generalize pkV 3 cj1=u at hjn ⊢
          generalize pkC 3 cj1=cj2 at hj2 hjn ⊢
          refine amGo ?_
          refine awp_cond amQ (fun t3 => ?_) (fun t3 => ?_)
          · rw [if_pos (of_decide_eq_true t3)] at hjn
            have eo:(((o++[o.getD ((o.length:Int)-1-v).toNat 0]).length:Int)-1).toNat=o.length:=by simp
            have eo2:(o++[o.getD ((o.length:Int)-1-v).toNat 0]).length=o.length+1:=by simp
            refine amGo ?_
            (refine .inr (.inl (callW_a [0] (pick_h (n:=m) (c:=cj2) (hj2.mono (by omega))) rfl rfl rfl rfl ⟨rfl,trivial⟩ rfl rfl rfl rfl ?_));refine amC ?_)
            refine amGo ?_
            refine ⟨j+1,by omega,by omega,.inr ⟨2,Nat.le_of_ble_eq_true rfl,leT_of ?_ rfl rfl rfl⟩⟩
            ((try simp only [xk]);(repeat (refine leK_cons ?_ ?_;first | (exact amE) | rotate_left));(refine leK_nil ?_;exact (by rw [hjn]<;>simp<;>rfl));(all_goals (try (simp only [xr,simprocAttr];try refine int_eq1 ?_))))
          · rw [if_neg (of_decide_eq_false t3)] at hjn
            refine amGo ?_
            refine ⟨j+1,by omega,by omega,.inr ⟨2,Nat.le_of_ble_eq_true rfl,leT_of ?_ rfl rfl rfl⟩⟩
            ((try simp only [xk]);(repeat (refine leK_cons ?_ ?_;first | (exact amE) | rotate_left));(refine leK_nil ?_;exact (by rw [hjn,ev]<;>rfl));(all_goals (try (simp only [xr,simprocAttr];try refine int_eq1 ?_))))
        · have t2:¬ (near=1∧2<j):=fun h=>by
            simp only [Bool.cond_eq_ite,h.1,decide_true,if_true] at t2
            have:=of_decide_eq_false t2
            omega
          rw [if_neg t2] at hjn
          refine amGo ?_
          (refine .inr (.inl (callW_a [0] (pick_h (n:=m) (c:=cj) (hjc.mono (by omega))) rfl rfl rfl rfl ⟨rfl,trivial⟩ rfl rfl rfl rfl ?_));refine amC ?_)
          refine amGo ?_
          refine ⟨j+1,by omega,by omega,.inr ⟨2,Nat.le_of_ble_eq_true rfl,leT_of ?_ rfl rfl rfl⟩⟩
          ((try simp only [xk]);(repeat (refine leK_cons ?_ ?_;first | (exact amE) | rotate_left));(refine leK_nil ?_;exact (by rw [hjn]<;>rfl));(all_goals (try (simp only [xr,simprocAttr];try refine int_eq1 ?_))))
    have t0:j=N:=by have:=of_decide_eq_false t0;omega
    subst t0
    obtain ⟨rfl,rfl⟩:=Prod.mk.inj (hsj.symm.trans hz)
    refine amGo ?_
    (refine .inr (.inl (callW_a [0] (d3) rfl rfl rfl rfl ⟨rfl,trivial⟩ rfl rfl rfl rfl ?_));refine amC ?_)
    refine amGo ?_
    refine awp_cond amQ (fun e0 => ?_) (fun e0 => ?_)
    · exact absurd (of_decide_eq_true e0) t8
    refine amGo ?_
    refine awp_cond amQ (fun e1 => ?_) (fun e1 => ?_)
    · exact absurd (of_decide_eq_true e1) t9
    (refine awp_frz 1 rfl ?_;simp only [xz,simprocAttr])
    refine amGo ?_
    (simp only [ends_normal,ends_ret];refine retH_1 [0] rfl ⟨rfl,trivial⟩ rfl rfl rfl rfl rfl ?_;try rfl)
end Go.Proofs.YtjblpcgkffhgfaaGreat
/- The reference's drawn caches and marks, on the machine. Conditions: the place is small. -/
set_option linter.all false
set_option linter.unusedSimpArgs false
set_option linter.unusedVariables false
namespace Go.Proofs.YtjblpcgkffhgfaaGreat
open Go Go.RowKit Am

abbrev pkL1:List Int:=[1,2,2,3,3,4,6]
abbrev pkL2:List Int:=[0,7,-1]
abbrev pnL1:List Int:=[2,3,4,4,5,5,8]
abbrev pnL2:List Int:=[1,0,9]
/-- a number of a list, or rarely one of another -/
def pgV (L1 L2:List Int) (c:Cu):Int×Cu:=if pkV 24 (aqC L1 c)=0 then (amV L2 (pkC 24 (aqC L1 c)),aqC L2 (pkC 24 (aqC L1 c))) else (amV L1 c,pkC 24 (aqC L1 c))
theorem pgV_ok {L1 L2:List Int} {c:Cu} {m:Int} (h:CuOK m c):CuOK (m+6) (pgV L1 L2 c).2:=by
  unfold pgV
  split
  · exact (amC_ok (pkC_ok (amC_ok h))).mono (by omega)
  · exact (pkC_ok (amC_ok h)).mono (by omega)
theorem pgV_mem {L1 L2:List Int} {c:Cu} {m:Int} (h:CuOK m c) (h1:0<L1.length) (h2:0<L2.length):(pgV L1 L2 c).1∈L1++L2:=by
  unfold pgV
  split
  · exact List.mem_append.2 (.inr (amV_mem (pkC_ok (amC_ok h)) h2))
  · exact List.mem_append.2 (.inl (amV_mem h h1))
set_option maxHeartbeats 4000000 in
theorem paging_h {c:Cu} (hc:CuOK 999999980000 c):∃ k n rs c',rs.length≤61∧(-1≤k∧k≤7)∧(0≤n∧n≤9)∧(∀ m0,CuOK m0 c→CuOK (m0+320) c')∧DoesH Tryz.prog 45 [.lf (.ptr 0 0)] [true] [curO c] (.tup [inT k,inT n,.one (.b (.sl (.ints rs)))]) [curO c']:=by
  have hc1:=pgV_ok (L1:=pkL1) (L2:=pkL2) hc
  have b1:∀ m0,CuOK m0 c→CuOK (m0+6) (pgV pkL1 pkL2 c).2:=fun m0 h=>pgV_ok h
  have m1:=pgV_mem (L1:=pkL1) (L2:=pkL2) hc (by simp) (by simp)
  obtain ⟨⟨k,c1⟩,hk⟩:∃ s,pgV pkL1 pkL2 c=s:=⟨_,rfl⟩
  rw [hk] at hc1 b1 m1
  dsimp only at hc1 b1 m1
  have hc2:=pgV_ok (L1:=pnL1) (L2:=pnL2) hc1
  have b2:∀ m0,CuOK m0 c→CuOK (m0+12) (pgV pnL1 pnL2 c1).2:=fun m0 h=>(pgV_ok (b1 m0 h)).mono (by omega)
  have m2:=pgV_mem (L1:=pnL1) (L2:=pnL2) hc1 (by simp) (by simp)
  obtain ⟨⟨n,c2⟩,hn⟩:∃ s,pgV pnL1 pnL2 c1=s:=⟨_,rfl⟩
  rw [hn] at hc2 b2 m2
  dsimp only at hc2 b2 m2
  simp only [List.mem_append,List.mem_cons,List.not_mem_nil,or_false] at m1 m2
  have hkr : -1≤k∧k≤7:=by omega
  have hnr:0≤n∧n≤9:=by omega
  clear m1 m2
  obtain ⟨rs,c3,q1,q2,d3⟩:=requests_h (n:=n) (c:=c2) (by omega) (hc2.mono (by omega))
  refine ⟨k,n,rs,c3,q1,hkr,hnr,fun m0 h=>(q2 _ (b2 m0 h)).mono (by omega),?_⟩
  clear hkr hnr
  refine spec_hB Tryz.func45 rfl Tryz.ntmps45 cfOK (fun _ _=>by kernel_rfl) rfl rfl rfl ?_
  intro M0 w0 S φ0
  rw [Tryz.results45]
  refine amGo ?_
  (refine .inr (.inl (callW_a [0] (among_h (xs:=pkL1) (hc.mono (by omega)) (by simp)) rfl rfl rfl rfl ⟨rfl,trivial⟩ rfl rfl rfl rfl ?_));refine amC ?_)
  refine amGo ?_
  (refine .inr (.inl (callW_a [0] (one_h (n:=24) ((amC_ok hc).mono (by omega))) rfl rfl rfl rfl ⟨rfl,trivial⟩ rfl rfl rfl rfl ?_));refine amC ?_)
  refine amGo ?_
  refine awp_cond amQ (fun e1 => ?_) (fun e1 => ?_)
  · have e1:=of_decide_eq_true e1
    unfold pgV at hk
    rw [if_pos e1] at hk
    obtain ⟨rfl,rfl⟩:=Prod.mk.inj hk
    refine amGo ?_
    (refine .inr (.inl (callW_a [0] (among_h (xs:=pkL2) ((pkC_ok (amC_ok hc)).mono (by omega)) (by simp)) rfl rfl rfl rfl ⟨rfl,trivial⟩ rfl rfl rfl rfl ?_));refine amC ?_)
    refine amGo ?_
    (refine .inr (.inl (callW_a [0] (among_h (xs:=pnL1) (hc1.mono (by omega)) (by simp)) rfl rfl rfl rfl ⟨rfl,trivial⟩ rfl rfl rfl rfl ?_));refine amC ?_)
    refine amGo ?_
    (refine .inr (.inl (callW_a [0] (one_h (n:=24) ((amC_ok hc1).mono (by omega))) rfl rfl rfl rfl ⟨rfl,trivial⟩ rfl rfl rfl rfl ?_));refine amC ?_)
    refine amGo ?_
    refine awp_cond amQ (fun e2 => ?_) (fun e2 => ?_)
    · have e2:=of_decide_eq_true e2
      unfold pgV at hn
      rw [if_pos e2] at hn
      obtain ⟨rfl,rfl⟩:=Prod.mk.inj hn
      refine amGo ?_
      (refine .inr (.inl (callW_a [0] (among_h (xs:=pnL2) ((pkC_ok (amC_ok hc1)).mono (by omega)) (by simp)) rfl rfl rfl rfl ⟨rfl,trivial⟩ rfl rfl rfl rfl ?_));refine amC ?_)
      refine amGo ?_
      (refine .inr (.inl (callW_a [0] (d3) rfl rfl rfl rfl ⟨rfl,trivial⟩ rfl rfl rfl rfl ?_));refine amC ?_)
      refine amGo ?_
      (simp only [ends_normal,ends_ret];refine retH_2 (vs:=[_,_,_]) [0] rfl ⟨rfl,trivial⟩ rfl rfl rfl rfl ⟨rfl,rfl,rfl,trivial⟩ ?_;try rfl)
    · have e2:=of_decide_eq_false e2
      unfold pgV at hn
      rw [if_neg e2] at hn
      obtain ⟨rfl,rfl⟩:=Prod.mk.inj hn
      refine amGo ?_
      (refine .inr (.inl (callW_a [0] (d3) rfl rfl rfl rfl ⟨rfl,trivial⟩ rfl rfl rfl rfl ?_));refine amC ?_)
      refine amGo ?_
      (simp only [ends_normal,ends_ret];refine retH_2 (vs:=[_,_,_]) [0] rfl ⟨rfl,trivial⟩ rfl rfl rfl rfl ⟨rfl,rfl,rfl,trivial⟩ ?_;try rfl)
  · have e1:=of_decide_eq_false e1
    unfold pgV at hk
    rw [if_neg e1] at hk
    obtain ⟨rfl,rfl⟩:=Prod.mk.inj hk
    refine amGo ?_
    (refine .inr (.inl (callW_a [0] (among_h (xs:=pnL1) (hc1.mono (by omega)) (by simp)) rfl rfl rfl rfl ⟨rfl,trivial⟩ rfl rfl rfl rfl ?_));refine amC ?_)
    refine amGo ?_
    (refine .inr (.inl (callW_a [0] (one_h (n:=24) ((amC_ok hc1).mono (by omega))) rfl rfl rfl rfl ⟨rfl,trivial⟩ rfl rfl rfl rfl ?_));refine amC ?_)
    refine amGo ?_
    refine awp_cond amQ (fun e2 => ?_) (fun e2 => ?_)
    · have e2:=of_decide_eq_true e2
      unfold pgV at hn
      rw [if_pos e2] at hn
      obtain ⟨rfl,rfl⟩:=Prod.mk.inj hn
      refine amGo ?_
      (refine .inr (.inl (callW_a [0] (among_h (xs:=pnL2) ((pkC_ok (amC_ok hc1)).mono (by omega)) (by simp)) rfl rfl rfl rfl ⟨rfl,trivial⟩ rfl rfl rfl rfl ?_));refine amC ?_)
      refine amGo ?_
      (refine .inr (.inl (callW_a [0] (d3) rfl rfl rfl rfl ⟨rfl,trivial⟩ rfl rfl rfl rfl ?_));refine amC ?_)
      refine amGo ?_
      (simp only [ends_normal,ends_ret];refine retH_2 (vs:=[_,_,_]) [0] rfl ⟨rfl,trivial⟩ rfl rfl rfl rfl ⟨rfl,rfl,rfl,trivial⟩ ?_;try rfl)
    · have e2:=of_decide_eq_false e2
      unfold pgV at hn
      rw [if_neg e2] at hn
      obtain ⟨rfl,rfl⟩:=Prod.mk.inj hn
      refine amGo ?_
      (refine .inr (.inl (callW_a [0] (d3) rfl rfl rfl rfl ⟨rfl,trivial⟩ rfl rfl rfl rfl ?_));refine amC ?_)
      refine amGo ?_
      (simp only [ends_normal,ends_ret];refine retH_2 (vs:=[_,_,_]) [0] rfl ⟨rfl,trivial⟩ rfl rfl rfl rfl ⟨rfl,rfl,rfl,trivial⟩ ?_;try rfl)
/-- some places -/
def mkSC:Nat→Cu→Cu
  | 0,c=>c
  | i+1,c=>pkC 3 (mkSC i c)
def mkSL:Nat→Cu→List Int
  | 0,_=>[]
  | i+1,c=>if pkV 3 (mkSC i c)=0 then mkSL i c++[(i:Int)] else mkSL i c
theorem mkSC_ok {m:Int} {c:Cu} (h:CuOK m c):∀ i:Nat,CuOK (m+2*i) (mkSC i c)
  | 0=>h.mono (by omega)
  | i+1=>(pkC_ok (mkSC_ok h i)).mono (by omega)
theorem mkSL_len (c:Cu):∀ i,(mkSL i c).length≤i
  | 0=>Nat.le_refl _
  | i+1=>by
    have:=mkSL_len c i
    unfold mkSL
    split
    · simp;omega
    · omega
set_option maxHeartbeats 4000000 in
theorem marks_h {xs:List Int} {c:Cu} (hx:xs.length≤61) (hc:CuOK 999999980000 c):∃ ms c',ms.length≤62∧(∀ m0,CuOK m0 c→CuOK (m0+200) c')∧DoesH Tryz.prog 50 [.lf (.ptr 0 0),.sl (.ints xs)] [true] [curO c] (.sl (.ints ms)) [curO c']:=by
  have hcz:=mkSC_ok hc xs.length
  have bz:∀ m0,CuOK m0 c→CuOK (m0+122) (mkSC xs.length c):=fun m0 h=>(mkSC_ok h xs.length).mono (by omega)
  have hlz:=mkSL_len c xs.length
  have d2:=one_h (n:=24) (c:=mkSC xs.length c) (hcz.mono (by omega))
  have hcp:=pkC_ok (n:=24) hcz
  have bp:∀ m0,CuOK m0 c→CuOK (m0+124) (pkC 24 (mkSC xs.length c)):=fun m0 h=>(pkC_ok (bz m0 h)).mono (by omega)
  obtain ⟨u,hu⟩:∃ u,pkV 24 (mkSC xs.length c)=u:=⟨_,rfl⟩
  rw [hu] at d2
  by_cases h0:u=0
  · refine ⟨mkSL xs.length c++[amV [-1,0,xs.length] (pkC 24 (mkSC xs.length c))],aqC [-1,0,xs.length] (pkC 24 (mkSC xs.length c)),by simp;omega,fun m0 h=>(amC_ok (bp m0 h)).mono (by omega),?_⟩
    refine spec_hB Tryz.func50 rfl Tryz.ntmps50 cfOK (fun _ _=>by kernel_rfl) rfl rfl rfl ?_
    intro M0 w0 S φ0
    rw [Tryz.results50]
    refine amGo ?_
    refine awp_rounds (α:=Nat) (fun i=>[(6,true,.int i)]) [0,1,5] (fun i=>[curO (mkSC i c),.row 3 (.ints (mkSL i c))]) (fun i=>i≤xs.length) (fun i=>xs.length-i) 0 (by ((try simp only [xk]);(repeat (refine leK_cons ?_ ?_;first | (exact amE) | rotate_left));(refine leK_nil ?_;exact (by rfl));(all_goals (try (simp only [xr,simprocAttr];try refine int_eq1 ?_))))) (Nat.zero_le _) fun i hi => ?_
    have hci:=mkSC_ok hc i
    have hli:=mkSL_len c i
    simp only [xr,simprocAttr]
    refine amGo ?_
    refine awp_cond amQ (fun e1 => ?_) (fun e1 => ?_)
    · have e1:=of_decide_eq_true e1
      refine amGo ?_
      (refine .inr (.inl (callW_a [0] (one_h (n:=3) (hci.mono (by omega))) rfl rfl rfl rfl ⟨rfl,trivial⟩ rfl rfl rfl rfl ?_));refine amC ?_)
      refine amGo ?_
      refine awp_cond amQ (fun e2 => ?_) (fun e2 => ?_)
      · have e2:=of_decide_eq_true e2
        refine amGo ?_
        refine ⟨i+1,by omega,by omega,.inr ⟨2,Nat.le_of_ble_eq_true rfl,leT_of ?_ rfl rfl rfl⟩⟩
        ((try simp only [xk]);(repeat (refine leK_cons ?_ ?_;first | (exact amE) | rotate_left));(refine leK_nil ?_;exact (by simp only [mkSL,mkSC,e2,if_true]<;>rfl));(all_goals (try (simp only [xr,simprocAttr];try refine int_eq1 ?_))))
      · have e2:=of_decide_eq_false e2
        refine amGo ?_
        refine ⟨i+1,by omega,by omega,.inr ⟨2,Nat.le_of_ble_eq_true rfl,leT_of ?_ rfl rfl rfl⟩⟩
        ((try simp only [xk]);(repeat (refine leK_cons ?_ ?_;first | (exact amE) | rotate_left));(refine leK_nil ?_;exact (by simp only [mkSL,mkSC,e2,if_false]<;>rfl));(all_goals (try (simp only [xr,simprocAttr];try refine int_eq1 ?_))))
    have e1:=of_decide_eq_false e1
    obtain rfl:i=xs.length:=by omega
    refine amGo ?_
    (refine .inr (.inl (callW_a [0] (d2) rfl rfl rfl rfl ⟨rfl,trivial⟩ rfl rfl rfl rfl ?_));refine amC ?_)
    refine amGo ?_
    refine awp_cond amQ (fun e3 => ?_) (fun e3 => ?_)
    · refine amGo ?_
      (refine .inr (.inl (callW_a [0] (among_h (xs:=[-1,0,(xs.length:Int)]) (hcp.mono (by omega)) (by simp)) rfl rfl rfl rfl ⟨rfl,trivial⟩ rfl rfl rfl rfl ?_));refine amC ?_)
      (refine awp_frz 1 rfl ?_;simp only [xz,simprocAttr])
      refine amGo ?_
      (simp only [ends_normal,ends_ret];refine retH_1 [0] rfl ⟨rfl,trivial⟩ rfl rfl rfl rfl rfl ?_;try rfl)
    · simp [h0] at e3
  · refine ⟨mkSL xs.length c,pkC 24 (mkSC xs.length c),by omega,fun m0 h=>(bp m0 h).mono (by omega),?_⟩
    refine spec_hB Tryz.func50 rfl Tryz.ntmps50 cfOK (fun _ _=>by kernel_rfl) rfl rfl rfl ?_
    intro M0 w0 S φ0
    rw [Tryz.results50]
    refine amGo ?_
    refine awp_rounds (α:=Nat) (fun i=>[(6,true,.int i)]) [0,1,5] (fun i=>[curO (mkSC i c),.row 3 (.ints (mkSL i c))]) (fun i=>i≤xs.length) (fun i=>xs.length-i) 0 (by ((try simp only [xk]);(repeat (refine leK_cons ?_ ?_;first | (exact amE) | rotate_left));(refine leK_nil ?_;exact (by rfl));(all_goals (try (simp only [xr,simprocAttr];try refine int_eq1 ?_))))) (Nat.zero_le _) fun i hi => ?_
    have hci:=mkSC_ok hc i
    have hli:=mkSL_len c i
    simp only [xr,simprocAttr]
    refine amGo ?_
    refine awp_cond amQ (fun e1 => ?_) (fun e1 => ?_)
    · have e1:=of_decide_eq_true e1
      refine amGo ?_
      (refine .inr (.inl (callW_a [0] (one_h (n:=3) (hci.mono (by omega))) rfl rfl rfl rfl ⟨rfl,trivial⟩ rfl rfl rfl rfl ?_));refine amC ?_)
      refine amGo ?_
      refine awp_cond amQ (fun e2 => ?_) (fun e2 => ?_)
      · have e2:=of_decide_eq_true e2
        refine amGo ?_
        refine ⟨i+1,by omega,by omega,.inr ⟨2,Nat.le_of_ble_eq_true rfl,leT_of ?_ rfl rfl rfl⟩⟩
        ((try simp only [xk]);(repeat (refine leK_cons ?_ ?_;first | (exact amE) | rotate_left));(refine leK_nil ?_;exact (by simp only [mkSL,mkSC,e2,if_true]<;>rfl));(all_goals (try (simp only [xr,simprocAttr];try refine int_eq1 ?_))))
      · have e2:=of_decide_eq_false e2
        refine amGo ?_
        refine ⟨i+1,by omega,by omega,.inr ⟨2,Nat.le_of_ble_eq_true rfl,leT_of ?_ rfl rfl rfl⟩⟩
        ((try simp only [xk]);(repeat (refine leK_cons ?_ ?_;first | (exact amE) | rotate_left));(refine leK_nil ?_;exact (by simp only [mkSL,mkSC,e2,if_false]<;>rfl));(all_goals (try (simp only [xr,simprocAttr];try refine int_eq1 ?_))))
    have e1:=of_decide_eq_false e1
    obtain rfl:i=xs.length:=by omega
    refine amGo ?_
    (refine .inr (.inl (callW_a [0] (d2) rfl rfl rfl rfl ⟨rfl,trivial⟩ rfl rfl rfl rfl ?_));refine amC ?_)
    refine amGo ?_
    refine awp_cond amQ (fun e3 => ?_) (fun e3 => ?_)
    · exact absurd (of_decide_eq_true e3) h0
    (refine awp_frz 1 rfl ?_;simp only [xz,simprocAttr])
    refine amGo ?_
    (simp only [ends_normal,ends_ret];refine retH_1 [0] rfl ⟨rfl,trivial⟩ rfl rfl rfl rfl rfl ?_;try rfl)
end Go.Proofs.YtjblpcgkffhgfaaGreat
/- The reference's drawn plans, on the machine. Conditions: the place is small. -/
set_option linter.all false
set_option linter.unusedSimpArgs false
set_option linter.unusedVariables false
namespace Go.Proofs.YtjblpcgkffhgfaaGreat
open Go Go.RowKit Am

/-- a page leaves -/
def plE (x:Int) (now:List Int) (c:Cu):Int×Cu×List Int:=(now.getD (pkV now.length c).toNat 0,pkC now.length c,putL (now.filter fun y => !decide (y=now.getD (pkV now.length c).toNat 0)) x)
def plA (k x:Int) (c:Cu) (now:List Int):Int×Cu×List Int :=
  if now.contains x=true then (-1,c,now)
  else if 0<now.length then (if k≤now.length then plE x now c else if pkV 4 c=0 then plE x now (pkC 4 c) else (-1,pkC 4 c,putL now x))
  else (-1,c,putL now x)
abbrev plL (n:Int):List Int:=[-1,0,n-1,n,-2]
def plB (n o:Int) (c:Cu):Int×Cu:=if pkV 60 c=0 then (amV (plL n) (pkC 60 c),aqC (plL n) (pkC 60 c)) else (o,pkC 60 c)
/-- cursor, plan and pages in the cache behind i requests -/
def plS (k n:Int) (xs:List Int) (c:Cu):Nat→Cu×List Int×List Int
  | 0=>(c,[],[])
  | i+1=>((plB n (plA k (xs.getD i 0) (plS k n xs c i).1 (plS k n xs c i).2.2).1 (plA k (xs.getD i 0) (plS k n xs c i).1 (plS k n xs c i).2.2).2.1).2,(plS k n xs c i).2.1++[(plB n (plA k (xs.getD i 0) (plS k n xs c i).1 (plS k n xs c i).2.2).1 (plA k (xs.getD i 0) (plS k n xs c i).1 (plS k n xs c i).2.2).2.1).1],(plA k (xs.getD i 0) (plS k n xs c i).1 (plS k n xs c i).2.2).2.2)
theorem plE_ok {m x:Int} {now:List Int} {c:Cu} (h:CuOK m c):CuOK (m+2) (plE x now c).2.1∧(plE x now c).2.2.length≤now.length+1:=by
  refine ⟨pkC_ok h,?_⟩
  have h1:=putL_len (now.filter fun y => !decide (y=now.getD (pkV now.length c).toNat 0)) x
  have h2:=List.length_filter_le (fun y => !decide (y=now.getD (pkV now.length c).toNat 0)) now
  show (putL _ x).length≤_
  omega
theorem plA_ok {m k x:Int} {now:List Int} {c:Cu} (h:CuOK m c):CuOK (m+4) (plA k x c now).2.1∧(plA k x c now).2.2.length≤now.length+1:=by
  have hp:=putL_len now x
  unfold plA
  split
  · exact ⟨h.mono (by omega),by dsimp only;omega⟩
  · split
    · split
      · have:=plE_ok (x:=x) (now:=now) h
        exact ⟨this.1.mono (by omega),this.2⟩
      · split
        · have:=plE_ok (x:=x) (now:=now) (pkC_ok (n:=4) h)
          exact ⟨this.1.mono (by omega),this.2⟩
        · exact ⟨(pkC_ok h).mono (by omega),hp⟩
    · exact ⟨h.mono (by omega),hp⟩
theorem plB_ok {m n o:Int} {c:Cu} (h:CuOK m c):CuOK (m+4) (plB n o c).2:=by
  unfold plB
  split
  · exact (amC_ok (pkC_ok h)).mono (by omega)
  · exact (pkC_ok h).mono (by omega)
theorem plS_ok {m k n:Int} {xs:List Int} {c:Cu} (h:CuOK m c):∀ i:Nat,CuOK (m+8*i) (plS k n xs c i).1∧(plS k n xs c i).2.1.length=i∧(plS k n xs c i).2.2.length≤i
  | 0=>⟨h.mono (by omega),rfl,Nat.le_refl _⟩
  | i+1=>by
    obtain ⟨h1,h2,h3⟩:=plS_ok (k:=k) (n:=n) (xs:=xs) h i
    have h4:=plA_ok (k:=k) (x:=xs.getD i 0) (now:=(plS k n xs c i).2.2) h1
    refine ⟨(plB_ok h4.1).mono (by omega),?_,?_⟩
    · show (_++[_]).length=_
      rw [List.length_append,h2]
      rfl
    · exact Nat.le_trans h4.2 (by omega)
set_option maxHeartbeats 16000000 in
theorem plan_h {k n:Int} {xs:List Int} {c:Cu} (hk : -1≤k∧k≤7) (hn:0≤n∧n≤9) (hx:xs.length≤61) (hc:CuOK 999999980000 c):∃ ps c',ps.length≤62∧(∀ m0,CuOK m0 c→CuOK (m0+500) c')∧DoesH Tryz.prog 46 [.lf (.ptr 0 0),.int k,.int n,.sl (.ints xs)] [true] [curO c] (.sl (.ints ps)) [curO c']:=by
  obtain ⟨hcz,hlz,_⟩:=plS_ok (k:=k) (n:=n) (xs:=xs) hc xs.length
  have bz:∀ m0,CuOK m0 c→CuOK (m0+488) (plS k n xs c xs.length).1:=fun m0 h=>(plS_ok h xs.length).1.mono (by omega)
  obtain ⟨⟨cz,z,nz⟩,hz⟩:∃ s,plS k n xs c xs.length=s:=⟨_,rfl⟩
  rw [hz] at hcz hlz bz
  dsimp only at hcz hlz bz
  have d2:=one_h (n:=40) (c:=cz) (hcz.mono (by omega))
  have bp:∀ m0,CuOK m0 c→CuOK (m0+490) (pkC 40 cz):=fun m0 h=>(pkC_ok (bz m0 h)).mono (by omega)
  obtain ⟨u,hu⟩:∃ u,pkV 40 cz=u:=⟨_,rfl⟩
  rw [hu] at d2
  generalize pkC 40 cz=cp at d2 bp
  by_cases h0:u=0
  · refine ⟨z++[-1],cp,by simp;omega,fun m0 h=>(bp m0 h).mono (by omega),?_⟩
    refine spec_hB Tryz.func46 rfl Tryz.ntmps46 cfOK (fun _ _=>by kernel_rfl) rfl rfl rfl ?_
    intro M0 w0 S φ0
    rw [Tryz.results46]
    refine amGo ?_
    (refine awp_frz 2 rfl ?_;simp only [xz,simprocAttr])
    refine awp_rounds (α:=Nat) (fun i=>[(11,true,.int i),(10,true,.sl (.ints (plS k n xs c i).2.2))]) [0,1,2,3,9] (fun i=>[curO (plS k n xs c i).1,.row 3 (.ints (plS k n xs c i).2.1),.gone]) (fun i=>i≤xs.length) (fun i=>xs.length-i) 0 (by ((try simp only [xk]);(repeat (refine leK_cons ?_ ?_;first | (exact amE) | rotate_left));(refine leK_nil ?_;exact (by rfl));(all_goals (try (simp only [xr,simprocAttr];try refine int_eq1 ?_))))) (Nat.zero_le _) fun i hi => ?_
    obtain ⟨hci,hli,hmi⟩:=plS_ok (k:=k) (n:=n) (xs:=xs) hc i
    have hnx:plS k n xs c (i+1)=((plB n (plA k (xs.getD i 0) (plS k n xs c i).1 (plS k n xs c i).2.2).1 (plA k (xs.getD i 0) (plS k n xs c i).1 (plS k n xs c i).2.2).2.1).2,(plS k n xs c i).2.1++[(plB n (plA k (xs.getD i 0) (plS k n xs c i).1 (plS k n xs c i).2.2).1 (plA k (xs.getD i 0) (plS k n xs c i).1 (plS k n xs c i).2.2).2.1).1],(plA k (xs.getD i 0) (plS k n xs c i).1 (plS k n xs c i).2.2).2.2):=rfl
    generalize hsi:plS k n xs c i=s at hci hli hmi hnx ⊢
    obtain ⟨ci,ps,now⟩:=s
    dsimp only at hci hli hmi hnx ⊢
    generalize hA:plA k (xs.getD i 0) ci now=A at hnx
    unfold plA at hA
    simp only [xr,simprocAttr]
    refine amGo ?_
    refine awp_cond amQ (fun t0 => ?_) (fun t0 => ?_)
    · have t0:i<xs.length:=by
        simp only [Bool.cond_eq_ite,decide_eq_true_eq] at t0
        split at t0
        · omega
        · cases t0
      refine amGo ?_
      ((try refine Or.inl ?_);refine ⟨_,(l1Has_d now (xs.getD i 0)),.inl rfl,?_⟩;refine amC ?_)
      refine amGo ?_
      refine awp_cond amQ (fun q0 => ?_) (fun q0 => ?_)
      · have q0:now.contains (xs.getD i 0)=false:=by simpa using q0
        rw [q0,if_neg (by decide)] at hA
        by_cases q1:0<now.length
        · rw [if_pos q1] at hA
          by_cases q2:k≤now.length
          · rw [if_pos q2] at hA
            refine amGo ?_
            rw [decide_eq_true (show (0:Int)<(now.length:Int) by omega),decide_eq_true q2]
            (refine .inr (.inr (callW_gf (.bool false) (by first | rfl | (simp only [xr,simprocAttr];done)) rfl ?_));refine amC ?_)
            refine amGo ?_
            refine awp_cond amQ (fun q3 => ?_) (fun q3 => ?_)
            · skip
              have hv:=pkV_rng (now.length) (hci)
              have hfl:=List.length_filter_le (fun y => !decide (y=now.getD (pkV now.length (ci)).toNat 0)) now
              refine amGo ?_
              (refine .inr (.inl (callW_a [0] (pick_h (n:=now.length) (c:=ci) ((hci).mono (by omega))) rfl rfl rfl rfl ⟨rfl,trivial⟩ rfl rfl rfl rfl ?_));refine amC ?_)
              refine amGo ?_
              ((try refine Or.inl ?_);refine ⟨_,(l5Out_d now (now.getD (pkV now.length (ci)).toNat 0) (by omega)),amF,?_⟩;refine amC ?_)
              refine amGo ?_
              ((try refine Or.inl ?_);refine ⟨_,(l1Put_d (now.filter fun y => !decide (y=now.getD (pkV now.length (ci)).toNat 0)) (xs.getD i 0) (by omega)),amF,?_⟩;refine amC ?_)
              unfold plE at hA
              subst hA
              dsimp only at hnx
              have hE:CuOK 999999990000 (pkC now.length (ci)):=(pkC_ok (hci)).mono (by omega)
              generalize (pkC now.length (ci))=e at hE hnx ⊢
              refine amGo ?_
              (refine .inr (.inl (callW_a [0] (one_h (n:=60) (c:=e) (hE.mono (by omega))) rfl rfl rfl rfl ⟨rfl,trivial⟩ rfl rfl rfl rfl ?_));refine amC ?_)
              refine amGo ?_
              unfold plB at hnx
              refine awp_cond amQ (fun z0 => ?_) (fun z0 => ?_)
              · have z0:=of_decide_eq_true z0
                simp only [z0,if_true] at hnx
                refine amGo ?_
                (refine .inr (.inl (callW_a [0] (among_h (xs:=plL n) (c:=pkC 60 e) ((pkC_ok hE).mono (by omega)) (by simp)) rfl rfl rfl rfl ⟨rfl,trivial⟩ rfl rfl rfl rfl ?_));refine amC ?_)
                refine amGo ?_
                refine ⟨i+1,by omega,by omega,.inr ⟨3,Nat.le_of_ble_eq_true rfl,leT_of ?_ rfl rfl rfl⟩⟩
                rw [hnx]
                ((try simp only [xk]);(repeat (refine leK_cons ?_ ?_;first | (exact amE) | rotate_left));(refine leK_nil ?_;exact (by rfl));(all_goals (try (simp only [xr,simprocAttr];try refine int_eq1 ?_))))
              · have z0:=of_decide_eq_false z0
                simp only [z0,if_false] at hnx
                refine amGo ?_
                refine ⟨i+1,by omega,by omega,.inr ⟨3,Nat.le_of_ble_eq_true rfl,leT_of ?_ rfl rfl rfl⟩⟩
                rw [hnx]
                ((try simp only [xk]);(repeat (refine leK_cons ?_ ?_;first | (exact amE) | rotate_left));(refine leK_nil ?_;exact (by rfl));(all_goals (try (simp only [xr,simprocAttr];try refine int_eq1 ?_))))
            · simp at q3
          · rw [if_neg q2] at hA
            refine amGo ?_
            rw [decide_eq_true (show (0:Int)<(now.length:Int) by omega),decide_eq_false q2]
            (refine .inr (.inr (callW_gt [0] (one_h (n:=4) (c:=ci) (hci.mono (by omega))) (by first | rfl | (simp only [xr,simprocAttr];done)) rfl rfl rfl ⟨rfl,trivial⟩ rfl rfl rfl rfl ?_));refine amC ?_)
            refine amGo ?_
            refine awp_cond amQ (fun q3 => ?_) (fun q3 => ?_)
            · have q3:pkV 4 ci=0:=by simpa using q3
              rw [if_pos q3] at hA
              have hv:=pkV_rng (now.length) (pkC_ok (n:=4) hci)
              have hfl:=List.length_filter_le (fun y => !decide (y=now.getD (pkV now.length (pkC 4 ci)).toNat 0)) now
              refine amGo ?_
              (refine .inr (.inl (callW_a [0] (pick_h (n:=now.length) (c:=pkC 4 ci) ((pkC_ok (n:=4) hci).mono (by omega))) rfl rfl rfl rfl ⟨rfl,trivial⟩ rfl rfl rfl rfl ?_));refine amC ?_)
              refine amGo ?_
              ((try refine Or.inl ?_);refine ⟨_,(l5Out_d now (now.getD (pkV now.length (pkC 4 ci)).toNat 0) (by omega)),amF,?_⟩;refine amC ?_)
              refine amGo ?_
              ((try refine Or.inl ?_);refine ⟨_,(l1Put_d (now.filter fun y => !decide (y=now.getD (pkV now.length (pkC 4 ci)).toNat 0)) (xs.getD i 0) (by omega)),amF,?_⟩;refine amC ?_)
              unfold plE at hA
              subst hA
              dsimp only at hnx
              have hE:CuOK 999999990000 (pkC now.length (pkC 4 ci)):=(pkC_ok (pkC_ok (n:=4) hci)).mono (by omega)
              generalize (pkC now.length (pkC 4 ci))=e at hE hnx ⊢
              refine amGo ?_
              (refine .inr (.inl (callW_a [0] (one_h (n:=60) (c:=e) (hE.mono (by omega))) rfl rfl rfl rfl ⟨rfl,trivial⟩ rfl rfl rfl rfl ?_));refine amC ?_)
              refine amGo ?_
              unfold plB at hnx
              refine awp_cond amQ (fun z0 => ?_) (fun z0 => ?_)
              · have z0:=of_decide_eq_true z0
                simp only [z0,if_true] at hnx
                refine amGo ?_
                (refine .inr (.inl (callW_a [0] (among_h (xs:=plL n) (c:=pkC 60 e) ((pkC_ok hE).mono (by omega)) (by simp)) rfl rfl rfl rfl ⟨rfl,trivial⟩ rfl rfl rfl rfl ?_));refine amC ?_)
                refine amGo ?_
                refine ⟨i+1,by omega,by omega,.inr ⟨3,Nat.le_of_ble_eq_true rfl,leT_of ?_ rfl rfl rfl⟩⟩
                rw [hnx]
                ((try simp only [xk]);(repeat (refine leK_cons ?_ ?_;first | (exact amE) | rotate_left));(refine leK_nil ?_;exact (by rfl));(all_goals (try (simp only [xr,simprocAttr];try refine int_eq1 ?_))))
              · have z0:=of_decide_eq_false z0
                simp only [z0,if_false] at hnx
                refine amGo ?_
                refine ⟨i+1,by omega,by omega,.inr ⟨3,Nat.le_of_ble_eq_true rfl,leT_of ?_ rfl rfl rfl⟩⟩
                rw [hnx]
                ((try simp only [xk]);(repeat (refine leK_cons ?_ ?_;first | (exact amE) | rotate_left));(refine leK_nil ?_;exact (by rfl));(all_goals (try (simp only [xr,simprocAttr];try refine int_eq1 ?_))))
            · have q3:¬ pkV 4 ci=0:=by simpa using q3
              rw [if_neg q3] at hA
              refine amGo ?_
              ((try refine Or.inl ?_);refine ⟨_,(l1Put_d now (xs.getD i 0) (by omega)),amF,?_⟩;refine amC ?_)
              subst hA
              dsimp only at hnx
              have hE:CuOK 999999990000 (pkC 4 ci):=(pkC_ok (n:=4) hci).mono (by omega)
              generalize (pkC 4 ci)=e at hE hnx ⊢
              refine amGo ?_
              (refine .inr (.inl (callW_a [0] (one_h (n:=60) (c:=e) (hE.mono (by omega))) rfl rfl rfl rfl ⟨rfl,trivial⟩ rfl rfl rfl rfl ?_));refine amC ?_)
              refine amGo ?_
              unfold plB at hnx
              refine awp_cond amQ (fun z0 => ?_) (fun z0 => ?_)
              · have z0:=of_decide_eq_true z0
                simp only [z0,if_true] at hnx
                refine amGo ?_
                (refine .inr (.inl (callW_a [0] (among_h (xs:=plL n) (c:=pkC 60 e) ((pkC_ok hE).mono (by omega)) (by simp)) rfl rfl rfl rfl ⟨rfl,trivial⟩ rfl rfl rfl rfl ?_));refine amC ?_)
                refine amGo ?_
                refine ⟨i+1,by omega,by omega,.inr ⟨3,Nat.le_of_ble_eq_true rfl,leT_of ?_ rfl rfl rfl⟩⟩
                rw [hnx]
                ((try simp only [xk]);(repeat (refine leK_cons ?_ ?_;first | (exact amE) | rotate_left));(refine leK_nil ?_;exact (by rfl));(all_goals (try (simp only [xr,simprocAttr];try refine int_eq1 ?_))))
              · have z0:=of_decide_eq_false z0
                simp only [z0,if_false] at hnx
                refine amGo ?_
                refine ⟨i+1,by omega,by omega,.inr ⟨3,Nat.le_of_ble_eq_true rfl,leT_of ?_ rfl rfl rfl⟩⟩
                rw [hnx]
                ((try simp only [xk]);(repeat (refine leK_cons ?_ ?_;first | (exact amE) | rotate_left));(refine leK_nil ?_;exact (by rfl));(all_goals (try (simp only [xr,simprocAttr];try refine int_eq1 ?_))))
        · rw [if_neg q1] at hA
          refine amGo ?_
          rw [decide_eq_false (show ¬ (0:Int)<(now.length:Int) by omega)]
          (refine .inr (.inr (callW_gf (.bool false) (by first | rfl | (simp only [xr,simprocAttr];done)) rfl ?_));refine amC ?_)
          refine amGo ?_
          refine awp_cond amQ (fun q3 => ?_) (fun q3 => ?_)
          · simp at q3
          · refine amGo ?_
            ((try refine Or.inl ?_);refine ⟨_,(l1Put_d now (xs.getD i 0) (by omega)),amF,?_⟩;refine amC ?_)
            subst hA
            dsimp only at hnx
            have hE:CuOK 999999990000 (ci):=hci.mono (by omega)
            generalize (ci)=e at hE hnx ⊢
            refine amGo ?_
            (refine .inr (.inl (callW_a [0] (one_h (n:=60) (c:=e) (hE.mono (by omega))) rfl rfl rfl rfl ⟨rfl,trivial⟩ rfl rfl rfl rfl ?_));refine amC ?_)
            refine amGo ?_
            unfold plB at hnx
            refine awp_cond amQ (fun z0 => ?_) (fun z0 => ?_)
            · have z0:=of_decide_eq_true z0
              simp only [z0,if_true] at hnx
              refine amGo ?_
              (refine .inr (.inl (callW_a [0] (among_h (xs:=plL n) (c:=pkC 60 e) ((pkC_ok hE).mono (by omega)) (by simp)) rfl rfl rfl rfl ⟨rfl,trivial⟩ rfl rfl rfl rfl ?_));refine amC ?_)
              refine amGo ?_
              refine ⟨i+1,by omega,by omega,.inr ⟨3,Nat.le_of_ble_eq_true rfl,leT_of ?_ rfl rfl rfl⟩⟩
              rw [hnx]
              ((try simp only [xk]);(repeat (refine leK_cons ?_ ?_;first | (exact amE) | rotate_left));(refine leK_nil ?_;exact (by rfl));(all_goals (try (simp only [xr,simprocAttr];try refine int_eq1 ?_))))
            · have z0:=of_decide_eq_false z0
              simp only [z0,if_false] at hnx
              refine amGo ?_
              refine ⟨i+1,by omega,by omega,.inr ⟨3,Nat.le_of_ble_eq_true rfl,leT_of ?_ rfl rfl rfl⟩⟩
              rw [hnx]
              ((try simp only [xk]);(repeat (refine leK_cons ?_ ?_;first | (exact amE) | rotate_left));(refine leK_nil ?_;exact (by rfl));(all_goals (try (simp only [xr,simprocAttr];try refine int_eq1 ?_))))
      · have q0:now.contains (xs.getD i 0)=true:=by simpa using q0
        rw [q0,if_pos rfl] at hA
        subst hA
        dsimp only at hnx
        have hE:CuOK 999999990000 (ci):=hci.mono (by omega)
        generalize (ci)=e at hE hnx ⊢
        refine amGo ?_
        (refine .inr (.inl (callW_a [0] (one_h (n:=60) (c:=e) (hE.mono (by omega))) rfl rfl rfl rfl ⟨rfl,trivial⟩ rfl rfl rfl rfl ?_));refine amC ?_)
        refine amGo ?_
        unfold plB at hnx
        refine awp_cond amQ (fun z0 => ?_) (fun z0 => ?_)
        · have z0:=of_decide_eq_true z0
          simp only [z0,if_true] at hnx
          refine amGo ?_
          (refine .inr (.inl (callW_a [0] (among_h (xs:=plL n) (c:=pkC 60 e) ((pkC_ok hE).mono (by omega)) (by simp)) rfl rfl rfl rfl ⟨rfl,trivial⟩ rfl rfl rfl rfl ?_));refine amC ?_)
          refine amGo ?_
          refine ⟨i+1,by omega,by omega,.inr ⟨3,Nat.le_of_ble_eq_true rfl,leT_of ?_ rfl rfl rfl⟩⟩
          rw [hnx]
          ((try simp only [xk]);(repeat (refine leK_cons ?_ ?_;first | (exact amE) | rotate_left));(refine leK_nil ?_;exact (by rfl));(all_goals (try (simp only [xr,simprocAttr];try refine int_eq1 ?_))))
        · have z0:=of_decide_eq_false z0
          simp only [z0,if_false] at hnx
          refine amGo ?_
          refine ⟨i+1,by omega,by omega,.inr ⟨3,Nat.le_of_ble_eq_true rfl,leT_of ?_ rfl rfl rfl⟩⟩
          rw [hnx]
          ((try simp only [xk]);(repeat (refine leK_cons ?_ ?_;first | (exact amE) | rotate_left));(refine leK_nil ?_;exact (by rfl));(all_goals (try (simp only [xr,simprocAttr];try refine int_eq1 ?_))))
    have t0:i=xs.length:=by
      simp only [Bool.cond_eq_ite,decide_eq_true_eq] at t0
      split at t0
      · have:=of_decide_eq_false t0;omega
      · omega
    subst t0
    obtain ⟨rfl,hr2⟩:=Prod.mk.inj (hsi.symm.trans hz)
    obtain ⟨rfl,rfl⟩:=Prod.mk.inj hr2
    refine amGo ?_
    (refine .inr (.inl (callW_a [0] (d2) rfl rfl rfl rfl ⟨rfl,trivial⟩ rfl rfl rfl rfl ?_));refine amC ?_)
    refine amGo ?_
    refine awp_cond amQ (fun e3 => ?_) (fun e3 => ?_)
    · refine amG1 ?_
      (refine awp_frz 1 rfl ?_;simp only [xz,simprocAttr])
      refine amGo ?_
      (simp only [ends_normal,ends_ret];refine retH_1 [0] rfl ⟨rfl,trivial⟩ rfl rfl rfl rfl rfl ?_;try rfl)
    · simp [h0] at e3
  · refine ⟨z,cp,by omega,fun m0 h=>(bp m0 h).mono (by omega),?_⟩
    refine spec_hB Tryz.func46 rfl Tryz.ntmps46 cfOK (fun _ _=>by kernel_rfl) rfl rfl rfl ?_
    intro M0 w0 S φ0
    rw [Tryz.results46]
    refine amGo ?_
    (refine awp_frz 2 rfl ?_;simp only [xz,simprocAttr])
    refine awp_rounds (α:=Nat) (fun i=>[(11,true,.int i),(10,true,.sl (.ints (plS k n xs c i).2.2))]) [0,1,2,3,9] (fun i=>[curO (plS k n xs c i).1,.row 3 (.ints (plS k n xs c i).2.1),.gone]) (fun i=>i≤xs.length) (fun i=>xs.length-i) 0 (by ((try simp only [xk]);(repeat (refine leK_cons ?_ ?_;first | (exact amE) | rotate_left));(refine leK_nil ?_;exact (by rfl));(all_goals (try (simp only [xr,simprocAttr];try refine int_eq1 ?_))))) (Nat.zero_le _) fun i hi => ?_
    obtain ⟨hci,hli,hmi⟩:=plS_ok (k:=k) (n:=n) (xs:=xs) hc i
    have hnx:plS k n xs c (i+1)=((plB n (plA k (xs.getD i 0) (plS k n xs c i).1 (plS k n xs c i).2.2).1 (plA k (xs.getD i 0) (plS k n xs c i).1 (plS k n xs c i).2.2).2.1).2,(plS k n xs c i).2.1++[(plB n (plA k (xs.getD i 0) (plS k n xs c i).1 (plS k n xs c i).2.2).1 (plA k (xs.getD i 0) (plS k n xs c i).1 (plS k n xs c i).2.2).2.1).1],(plA k (xs.getD i 0) (plS k n xs c i).1 (plS k n xs c i).2.2).2.2):=rfl
    generalize hsi:plS k n xs c i=s at hci hli hmi hnx ⊢
    obtain ⟨ci,ps,now⟩:=s
    dsimp only at hci hli hmi hnx ⊢
    generalize hA:plA k (xs.getD i 0) ci now=A at hnx
    unfold plA at hA
    simp only [xr,simprocAttr]
    refine amGo ?_
    refine awp_cond amQ (fun t0 => ?_) (fun t0 => ?_)
    · have t0:i<xs.length:=by
        simp only [Bool.cond_eq_ite,decide_eq_true_eq] at t0
        split at t0
        · omega
        · cases t0
      refine amGo ?_
      ((try refine Or.inl ?_);refine ⟨_,(l1Has_d now (xs.getD i 0)),.inl rfl,?_⟩;refine amC ?_)
      refine amGo ?_
      refine awp_cond amQ (fun q0 => ?_) (fun q0 => ?_)
      · have q0:now.contains (xs.getD i 0)=false:=by simpa using q0
        rw [q0,if_neg (by decide)] at hA
        by_cases q1:0<now.length
        · rw [if_pos q1] at hA
          by_cases q2:k≤now.length
          · rw [if_pos q2] at hA
            refine amGo ?_
            rw [decide_eq_true (show (0:Int)<(now.length:Int) by omega),decide_eq_true q2]
            (refine .inr (.inr (callW_gf (.bool false) (by first | rfl | (simp only [xr,simprocAttr];done)) rfl ?_));refine amC ?_)
            refine amGo ?_
            refine awp_cond amQ (fun q3 => ?_) (fun q3 => ?_)
            · skip
              have hv:=pkV_rng (now.length) (hci)
              have hfl:=List.length_filter_le (fun y => !decide (y=now.getD (pkV now.length (ci)).toNat 0)) now
              refine amGo ?_
              (refine .inr (.inl (callW_a [0] (pick_h (n:=now.length) (c:=ci) ((hci).mono (by omega))) rfl rfl rfl rfl ⟨rfl,trivial⟩ rfl rfl rfl rfl ?_));refine amC ?_)
              refine amGo ?_
              ((try refine Or.inl ?_);refine ⟨_,(l5Out_d now (now.getD (pkV now.length (ci)).toNat 0) (by omega)),amF,?_⟩;refine amC ?_)
              refine amGo ?_
              ((try refine Or.inl ?_);refine ⟨_,(l1Put_d (now.filter fun y => !decide (y=now.getD (pkV now.length (ci)).toNat 0)) (xs.getD i 0) (by omega)),amF,?_⟩;refine amC ?_)
              unfold plE at hA
              subst hA
              dsimp only at hnx
              have hE:CuOK 999999990000 (pkC now.length (ci)):=(pkC_ok (hci)).mono (by omega)
              generalize (pkC now.length (ci))=e at hE hnx ⊢
              refine amGo ?_
              (refine .inr (.inl (callW_a [0] (one_h (n:=60) (c:=e) (hE.mono (by omega))) rfl rfl rfl rfl ⟨rfl,trivial⟩ rfl rfl rfl rfl ?_));refine amC ?_)
              refine amGo ?_
              unfold plB at hnx
              refine awp_cond amQ (fun z0 => ?_) (fun z0 => ?_)
              · have z0:=of_decide_eq_true z0
                simp only [z0,if_true] at hnx
                refine amGo ?_
                (refine .inr (.inl (callW_a [0] (among_h (xs:=plL n) (c:=pkC 60 e) ((pkC_ok hE).mono (by omega)) (by simp)) rfl rfl rfl rfl ⟨rfl,trivial⟩ rfl rfl rfl rfl ?_));refine amC ?_)
                refine amGo ?_
                refine ⟨i+1,by omega,by omega,.inr ⟨3,Nat.le_of_ble_eq_true rfl,leT_of ?_ rfl rfl rfl⟩⟩
                rw [hnx]
                ((try simp only [xk]);(repeat (refine leK_cons ?_ ?_;first | (exact amE) | rotate_left));(refine leK_nil ?_;exact (by rfl));(all_goals (try (simp only [xr,simprocAttr];try refine int_eq1 ?_))))
              · have z0:=of_decide_eq_false z0
                simp only [z0,if_false] at hnx
                refine amGo ?_
                refine ⟨i+1,by omega,by omega,.inr ⟨3,Nat.le_of_ble_eq_true rfl,leT_of ?_ rfl rfl rfl⟩⟩
                rw [hnx]
                ((try simp only [xk]);(repeat (refine leK_cons ?_ ?_;first | (exact amE) | rotate_left));(refine leK_nil ?_;exact (by rfl));(all_goals (try (simp only [xr,simprocAttr];try refine int_eq1 ?_))))
            · simp at q3
          · rw [if_neg q2] at hA
            refine amGo ?_
            rw [decide_eq_true (show (0:Int)<(now.length:Int) by omega),decide_eq_false q2]
            (refine .inr (.inr (callW_gt [0] (one_h (n:=4) (c:=ci) (hci.mono (by omega))) (by first | rfl | (simp only [xr,simprocAttr];done)) rfl rfl rfl ⟨rfl,trivial⟩ rfl rfl rfl rfl ?_));refine amC ?_)
            refine amGo ?_
            refine awp_cond amQ (fun q3 => ?_) (fun q3 => ?_)
            · have q3:pkV 4 ci=0:=by simpa using q3
              rw [if_pos q3] at hA
              have hv:=pkV_rng (now.length) (pkC_ok (n:=4) hci)
              have hfl:=List.length_filter_le (fun y => !decide (y=now.getD (pkV now.length (pkC 4 ci)).toNat 0)) now
              refine amGo ?_
              (refine .inr (.inl (callW_a [0] (pick_h (n:=now.length) (c:=pkC 4 ci) ((pkC_ok (n:=4) hci).mono (by omega))) rfl rfl rfl rfl ⟨rfl,trivial⟩ rfl rfl rfl rfl ?_));refine amC ?_)
              refine amGo ?_
              ((try refine Or.inl ?_);refine ⟨_,(l5Out_d now (now.getD (pkV now.length (pkC 4 ci)).toNat 0) (by omega)),amF,?_⟩;refine amC ?_)
              refine amGo ?_
              ((try refine Or.inl ?_);refine ⟨_,(l1Put_d (now.filter fun y => !decide (y=now.getD (pkV now.length (pkC 4 ci)).toNat 0)) (xs.getD i 0) (by omega)),amF,?_⟩;refine amC ?_)
              unfold plE at hA
              subst hA
              dsimp only at hnx
              have hE:CuOK 999999990000 (pkC now.length (pkC 4 ci)):=(pkC_ok (pkC_ok (n:=4) hci)).mono (by omega)
              generalize (pkC now.length (pkC 4 ci))=e at hE hnx ⊢
              refine amGo ?_
              (refine .inr (.inl (callW_a [0] (one_h (n:=60) (c:=e) (hE.mono (by omega))) rfl rfl rfl rfl ⟨rfl,trivial⟩ rfl rfl rfl rfl ?_));refine amC ?_)
              refine amGo ?_
              unfold plB at hnx
              refine awp_cond amQ (fun z0 => ?_) (fun z0 => ?_)
              · have z0:=of_decide_eq_true z0
                simp only [z0,if_true] at hnx
                refine amGo ?_
                (refine .inr (.inl (callW_a [0] (among_h (xs:=plL n) (c:=pkC 60 e) ((pkC_ok hE).mono (by omega)) (by simp)) rfl rfl rfl rfl ⟨rfl,trivial⟩ rfl rfl rfl rfl ?_));refine amC ?_)
                refine amGo ?_
                refine ⟨i+1,by omega,by omega,.inr ⟨3,Nat.le_of_ble_eq_true rfl,leT_of ?_ rfl rfl rfl⟩⟩
                rw [hnx]
                ((try simp only [xk]);(repeat (refine leK_cons ?_ ?_;first | (exact amE) | rotate_left));(refine leK_nil ?_;exact (by rfl));(all_goals (try (simp only [xr,simprocAttr];try refine int_eq1 ?_))))
              · have z0:=of_decide_eq_false z0
                simp only [z0,if_false] at hnx
                refine amGo ?_
                refine ⟨i+1,by omega,by omega,.inr ⟨3,Nat.le_of_ble_eq_true rfl,leT_of ?_ rfl rfl rfl⟩⟩
                rw [hnx]
                ((try simp only [xk]);(repeat (refine leK_cons ?_ ?_;first | (exact amE) | rotate_left));(refine leK_nil ?_;exact (by rfl));(all_goals (try (simp only [xr,simprocAttr];try refine int_eq1 ?_))))
            · have q3:¬ pkV 4 ci=0:=by simpa using q3
              rw [if_neg q3] at hA
              refine amGo ?_
              ((try refine Or.inl ?_);refine ⟨_,(l1Put_d now (xs.getD i 0) (by omega)),amF,?_⟩;refine amC ?_)
              subst hA
              dsimp only at hnx
              have hE:CuOK 999999990000 (pkC 4 ci):=(pkC_ok (n:=4) hci).mono (by omega)
              generalize (pkC 4 ci)=e at hE hnx ⊢
              refine amGo ?_
              (refine .inr (.inl (callW_a [0] (one_h (n:=60) (c:=e) (hE.mono (by omega))) rfl rfl rfl rfl ⟨rfl,trivial⟩ rfl rfl rfl rfl ?_));refine amC ?_)
              refine amGo ?_
              unfold plB at hnx
              refine awp_cond amQ (fun z0 => ?_) (fun z0 => ?_)
              · have z0:=of_decide_eq_true z0
                simp only [z0,if_true] at hnx
                refine amGo ?_
                (refine .inr (.inl (callW_a [0] (among_h (xs:=plL n) (c:=pkC 60 e) ((pkC_ok hE).mono (by omega)) (by simp)) rfl rfl rfl rfl ⟨rfl,trivial⟩ rfl rfl rfl rfl ?_));refine amC ?_)
                refine amGo ?_
                refine ⟨i+1,by omega,by omega,.inr ⟨3,Nat.le_of_ble_eq_true rfl,leT_of ?_ rfl rfl rfl⟩⟩
                rw [hnx]
                ((try simp only [xk]);(repeat (refine leK_cons ?_ ?_;first | (exact amE) | rotate_left));(refine leK_nil ?_;exact (by rfl));(all_goals (try (simp only [xr,simprocAttr];try refine int_eq1 ?_))))
              · have z0:=of_decide_eq_false z0
                simp only [z0,if_false] at hnx
                refine amGo ?_
                refine ⟨i+1,by omega,by omega,.inr ⟨3,Nat.le_of_ble_eq_true rfl,leT_of ?_ rfl rfl rfl⟩⟩
                rw [hnx]
                ((try simp only [xk]);(repeat (refine leK_cons ?_ ?_;first | (exact amE) | rotate_left));(refine leK_nil ?_;exact (by rfl));(all_goals (try (simp only [xr,simprocAttr];try refine int_eq1 ?_))))
        · rw [if_neg q1] at hA
          refine amGo ?_
          rw [decide_eq_false (show ¬ (0:Int)<(now.length:Int) by omega)]
          (refine .inr (.inr (callW_gf (.bool false) (by first | rfl | (simp only [xr,simprocAttr];done)) rfl ?_));refine amC ?_)
          refine amGo ?_
          refine awp_cond amQ (fun q3 => ?_) (fun q3 => ?_)
          · simp at q3
          · refine amGo ?_
            ((try refine Or.inl ?_);refine ⟨_,(l1Put_d now (xs.getD i 0) (by omega)),amF,?_⟩;refine amC ?_)
            subst hA
            dsimp only at hnx
            have hE:CuOK 999999990000 (ci):=hci.mono (by omega)
            generalize (ci)=e at hE hnx ⊢
            refine amGo ?_
            (refine .inr (.inl (callW_a [0] (one_h (n:=60) (c:=e) (hE.mono (by omega))) rfl rfl rfl rfl ⟨rfl,trivial⟩ rfl rfl rfl rfl ?_));refine amC ?_)
            refine amGo ?_
            unfold plB at hnx
            refine awp_cond amQ (fun z0 => ?_) (fun z0 => ?_)
            · have z0:=of_decide_eq_true z0
              simp only [z0,if_true] at hnx
              refine amGo ?_
              (refine .inr (.inl (callW_a [0] (among_h (xs:=plL n) (c:=pkC 60 e) ((pkC_ok hE).mono (by omega)) (by simp)) rfl rfl rfl rfl ⟨rfl,trivial⟩ rfl rfl rfl rfl ?_));refine amC ?_)
              refine amGo ?_
              refine ⟨i+1,by omega,by omega,.inr ⟨3,Nat.le_of_ble_eq_true rfl,leT_of ?_ rfl rfl rfl⟩⟩
              rw [hnx]
              ((try simp only [xk]);(repeat (refine leK_cons ?_ ?_;first | (exact amE) | rotate_left));(refine leK_nil ?_;exact (by rfl));(all_goals (try (simp only [xr,simprocAttr];try refine int_eq1 ?_))))
            · have z0:=of_decide_eq_false z0
              simp only [z0,if_false] at hnx
              refine amGo ?_
              refine ⟨i+1,by omega,by omega,.inr ⟨3,Nat.le_of_ble_eq_true rfl,leT_of ?_ rfl rfl rfl⟩⟩
              rw [hnx]
              ((try simp only [xk]);(repeat (refine leK_cons ?_ ?_;first | (exact amE) | rotate_left));(refine leK_nil ?_;exact (by rfl));(all_goals (try (simp only [xr,simprocAttr];try refine int_eq1 ?_))))
      · have q0:now.contains (xs.getD i 0)=true:=by simpa using q0
        rw [q0,if_pos rfl] at hA
        subst hA
        dsimp only at hnx
        have hE:CuOK 999999990000 (ci):=hci.mono (by omega)
        generalize (ci)=e at hE hnx ⊢
        refine amGo ?_
        (refine .inr (.inl (callW_a [0] (one_h (n:=60) (c:=e) (hE.mono (by omega))) rfl rfl rfl rfl ⟨rfl,trivial⟩ rfl rfl rfl rfl ?_));refine amC ?_)
        refine amGo ?_
        unfold plB at hnx
        refine awp_cond amQ (fun z0 => ?_) (fun z0 => ?_)
        · have z0:=of_decide_eq_true z0
          simp only [z0,if_true] at hnx
          refine amGo ?_
          (refine .inr (.inl (callW_a [0] (among_h (xs:=plL n) (c:=pkC 60 e) ((pkC_ok hE).mono (by omega)) (by simp)) rfl rfl rfl rfl ⟨rfl,trivial⟩ rfl rfl rfl rfl ?_));refine amC ?_)
          refine amGo ?_
          refine ⟨i+1,by omega,by omega,.inr ⟨3,Nat.le_of_ble_eq_true rfl,leT_of ?_ rfl rfl rfl⟩⟩
          rw [hnx]
          ((try simp only [xk]);(repeat (refine leK_cons ?_ ?_;first | (exact amE) | rotate_left));(refine leK_nil ?_;exact (by rfl));(all_goals (try (simp only [xr,simprocAttr];try refine int_eq1 ?_))))
        · have z0:=of_decide_eq_false z0
          simp only [z0,if_false] at hnx
          refine amGo ?_
          refine ⟨i+1,by omega,by omega,.inr ⟨3,Nat.le_of_ble_eq_true rfl,leT_of ?_ rfl rfl rfl⟩⟩
          rw [hnx]
          ((try simp only [xk]);(repeat (refine leK_cons ?_ ?_;first | (exact amE) | rotate_left));(refine leK_nil ?_;exact (by rfl));(all_goals (try (simp only [xr,simprocAttr];try refine int_eq1 ?_))))
    have t0:i=xs.length:=by
      simp only [Bool.cond_eq_ite,decide_eq_true_eq] at t0
      split at t0
      · have:=of_decide_eq_false t0;omega
      · omega
    subst t0
    obtain ⟨rfl,hr2⟩:=Prod.mk.inj (hsi.symm.trans hz)
    obtain ⟨rfl,rfl⟩:=Prod.mk.inj hr2
    refine amGo ?_
    (refine .inr (.inl (callW_a [0] (d2) rfl rfl rfl rfl ⟨rfl,trivial⟩ rfl rfl rfl rfl ?_));refine amC ?_)
    refine amGo ?_
    refine awp_cond amQ (fun e3 => ?_) (fun e3 => ?_)
    · exact absurd (of_decide_eq_true e3) h0
    (refine awp_frz 1 rfl ?_;simp only [xz,simprocAttr])
    refine amGo ?_
    (simp only [ends_normal,ends_ret];refine retH_1 [0] rfl ⟨rfl,trivial⟩ rfl rfl rfl rfl rfl ?_;try rfl)
end Go.Proofs.YtjblpcgkffhgfaaGreat
