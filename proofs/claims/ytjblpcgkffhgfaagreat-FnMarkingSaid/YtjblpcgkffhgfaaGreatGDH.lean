/- The reference's drawn sequences of requests and caches, on the machine. Conditions: the place is small. -/
import Derived.Test.YtjblpcgkffhgfaaGreatGDR
import Derived.Test.YtjblpcgkffhgfaaGreatAm18
set_option linter.all false
set_option linter.unusedSimpArgs false
set_option linter.unusedVariables false
namespace Go.Proofs.YtjblpcgkffhgfaaGreat
open Go Go.RowKit Am

/-- behind a code, a thing takes the name of one that is gone -/
theorem awp_mvQ {P:Program} {cf:Cfg} {b:Base} {N:Nat} {c:Code} {Q:Exit→St→Prop} {X:St} (i n:Nat) (h:awp P cf b N c (fun e Y=>∃ p,Y.H[i]? = some .gone∧Y.H[n]? = some p∧i≠n∧b.fx.getD i false=false∧b.fx.getD n false=false∧Q e ⟨Y.T.map (Lf.mv i n),((Y.H.map (Ob.map (Lf.mv i n))).set i (p.map (Lf.mv i n))).set n .gone⟩) X):awp P cf b N c Q X:=fun a w hR=>Code.wp_mono (fun e a' w' ⟨_,⟨_,h1,h2,h3,h4,h5,hq⟩,_,_,M,hR'⟩=>by
  obtain ⟨φ',β',hR2⟩:=hR'.mv h1 h2 h3 h4 h5
  exact ⟨_,hq,φ',β',M,hR2⟩) (h a w hR)
theorem l1Least_e (a b:Int):Does Tryz.prog 138 [.int a,.int b] (.imm (.int (min a b))):=by
  refine spec_imm Tryz.func138 rfl Tryz.ntmps138 cfOK (fun _ _=>by kernel_rfl) rfl (Nat.le_of_ble_eq_true rfl) ?_
  intro M0 w0
  rw [Tryz.results138]
  refine amGo ?_
  refine awp_cond amQ (fun hc => ?_) (fun hc => ?_)
  · have:=of_decide_eq_true hc
    refine amGo ?_
    (simp only [xe,simprocAttr];refine ⟨_,rfl,rfl,Imp.eq ?_⟩)
    rw [Int.min_eq_left (by omega)]
  · have:=of_decide_eq_false hc
    refine amGo ?_
    (simp only [xe,simprocAttr];refine ⟨_,rfl,rfl,Imp.eq ?_⟩)
    rw [Int.min_eq_right (by omega)]
/-- one request more -/
def rqN (near m:Int) (j:Nat) (s:Cu×List Int):Cu×List Int :=
  if near=0∧0<j then (pkC 2 s.1,s.2++[(s.2.getD (j-1) 0+pkV 2 s.1) % m])
  else if near=1∧2<j then (if pkV 3 (pkC 3 s.1)=0 then (pkC m (pkC 3 (pkC 3 s.1)),s.2++[pkV m (pkC 3 (pkC 3 s.1))]) else (pkC 3 (pkC 3 s.1),s.2++[s.2.getD (j-1-(pkV 3 s.1).toNat) 0]))
  else (pkC m s.1,s.2++[pkV m s.1])
def rqS (near m:Int) (c:Cu):Nat→Cu×List Int
  | 0=>(c,[])
  | j+1=>rqN near m j (rqS near m c j)
theorem rqN_len {near m:Int} {j:Nat} {s:Cu×List Int}:(rqN near m j s).2.length=s.2.length+1:=by
  unfold rqN
  split
  · simp
  · split
    · split<;>simp
    · simp
theorem rqS_len (near m:Int) (c:Cu):∀ j,(rqS near m c j).2.length=j
  | 0=>rfl
  | j+1=>by
    show (rqN near m j _).2.length=_
    rw [rqN_len,rqS_len near m c j]
theorem rqS_ok {near m:Int} {c:Cu} {m0:Int} (h:CuOK m0 c):∀ j:Nat,CuOK (m0+6*j) (rqS near m c j).1
  | 0=>h.mono (by omega)
  | j+1=>by
    have ih:=rqS_ok (near:=near) (m:=m) h j
    show CuOK _ (rqN near m j _).1
    unfold rqN
    split
    · exact (pkC_ok ih).mono (by omega)
    · split
      · split
        · exact (pkC_ok (pkC_ok (pkC_ok ih))).mono (by omega)
        · exact (pkC_ok (pkC_ok ih)).mono (by omega)
      · exact (pkC_ok ih).mono (by omega)
theorem rqS_val {near m:Int} {c:Cu} {m0:Int} (h:CuOK m0 c) (hm:1≤m):∀ j,∀ x∈(rqS near m c j).2,0≤x∧x<m
  | 0=>by simp [rqS]
  | j+1=>by
    have ih:=rqS_val (near:=near) h hm j
    have hc:=rqS_ok (near:=near) (m:=m) h j
    have hl:=rqS_len near m c j
    show ∀ x∈(rqN near m j _).2,_
    generalize rqS near m c j=s at ih hc hl
    have key:∀ v,0≤v∧v<m→∀ x∈s.2++[v],0≤x∧x<m:=fun v hv x hx=>by
      rcases List.mem_append.1 hx with hx | hx
      · exact ih x hx
      · rw [List.mem_singleton.1 hx];exact hv
    unfold rqN
    split
    · exact key _ ⟨Int.emod_nonneg _ (by omega),Int.emod_lt_of_pos _ (by omega)⟩
    · split
      · split
        · have:=pkV_rng m (pkC_ok (n:=3) (pkC_ok (n:=3) hc))
          exact key _ ⟨this.1,this.2 hm⟩
        · rename_i h1 _
          refine key _ ?_
          have hi:j-1-(pkV 3 s.1).toNat<s.2.length:=by omega
          rw [show s.2.getD (j-1-(pkV 3 s.1).toNat) 0=s.2[j-1-(pkV 3 s.1).toNat] from by simp [hi]]
          exact ih _ (List.getElem_mem _)
      · have:=pkV_rng m hc
        exact key _ ⟨this.1,this.2 hm⟩
/-- a long sequence -/
def rqL (m:Int):Nat→Cu×List Int→Cu×List Int
  | 0,s=>s
  | f+1,s=>if (s.2.length:Int)<60+pkV 2 s.1 then rqL m f (pkC 2 s.1,s.2++[(s.2.length:Int) % m]) else (pkC 2 s.1,s.2)
abbrev lenL:List Int:=[6,9,12,4,16,2,24,1,0]
theorem rqL_spec {m:Int} (hm:1≤m):∀ (f:Nat) (s:Cu×List Int) (m0:Int),CuOK m0 s.1→s.2.length≤61→62≤s.2.length+f→(rqL m f s).2.length≤61∧CuOK (m0+2*f) (rqL m f s).1
  | 0,s,m0,h,h1,h2=>by omega
  | f+1,s,m0,h,h1,h2=>by
    have hv:=pkV_rng 2 h
    unfold rqL
    split
    · have:=rqL_spec hm f (pkC 2 s.1,s.2++[(s.2.length:Int) % m]) (m0+2) (pkC_ok h) (by simp;omega) (by simp;omega)
      exact ⟨this.1,this.2.mono (by omega)⟩
    · exact ⟨h1,(pkC_ok h).mono (by omega)⟩
set_option maxHeartbeats 8000000 in
theorem requests_h {n:Int} {c:Cu} (hn : -1000≤n∧n≤1000) (hc:CuOK 999999990000 c):∃ rs c',rs.length≤61∧(∀ m0,CuOK m0 c→CuOK (m0+300) c')∧DoesH Tryz.prog 90 [.lf (.ptr 0 0),.int n] [true] [curO c] (.sl (.ints rs)) [curO c']:=by
  have hm:=amV_mem (xs:=lenL) hc (by simp)
  obtain ⟨N,hN,hN1⟩:∃ N:Nat,amV lenL c=N∧N≤24:=by
    simp only [List.mem_cons,List.not_mem_nil,or_false] at hm
    exact ⟨(amV lenL c).toNat,by omega,by omega⟩
  obtain ⟨m,hmm,hm1,hm8⟩:∃ m:Int,max 1 (min n 8)=m∧1≤m∧m≤8:=⟨_,rfl,by omega,by omega⟩
  have d1:=among_h (xs:=lenL) (c:=c) (hc.mono (by omega)) (by simp)
  rw [hN] at d1
  have hc1:=amC_ok (xs:=lenL) hc
  have b1:∀ m0,CuOK m0 c→CuOK (m0+2) (aqC lenL c):=fun _ h=>amC_ok h
  generalize aqC lenL c=c1 at hc1 b1 d1
  have d2:=pick_h (n:=3) (c:=c1) (hc1.mono (by omega))
  have hc2:=pkC_ok (n:=3) hc1
  have b2:∀ m0,CuOK m0 c→CuOK (m0+4) (pkC 3 c1):=fun m0 h=>(pkC_ok (b1 m0 h)).mono (by omega)
  have hnr:=pkV_rng 3 hc1
  generalize pkV 3 c1=near at d2 hnr
  generalize pkC 3 c1=c2 at d2 hc2 b2
  have hcz:=rqS_ok (near:=near) (m:=m) hc2 N
  have bz:∀ m0,CuOK m0 c→CuOK (m0+150) (rqS near m c2 N).1:=fun m0 h=>(rqS_ok (b2 m0 h) N).mono (by omega)
  have hlz:=rqS_len near m c2 N
  obtain ⟨⟨cz,z⟩,hz⟩:∃ s,rqS near m c2 N=s:=⟨_,rfl⟩
  rw [hz] at hcz hlz bz
  dsimp only at hcz hlz bz
  have d3:=pick_h (n:=48) (c:=cz) (hcz.mono (by omega))
  have hcp:=pkC_ok (n:=48) hcz
  have bp:∀ m0,CuOK m0 c→CuOK (m0+152) (pkC 48 cz):=fun m0 h=>(pkC_ok (bz m0 h)).mono (by omega)
  obtain ⟨tg,htg⟩:∃ tg,pkV 48 cz=tg:=⟨_,rfl⟩
  rw [htg] at d3
  generalize pkC 48 cz=cp at d3 hcp bp
  by_cases t8:tg=0
  · refine ⟨z++[amV [-1,n,8] cp],aqC [-1,n,8] cp,by simp;omega,fun m0 h=>(amC_ok (bp m0 h)).mono (by omega),?_⟩
    refine spec_hB Tryz.func90 rfl Tryz.ntmps90 cfOK (fun _ _=>by kernel_rfl) rfl rfl rfl ?_
    intro M0 w0 S φ0
    rw [Tryz.results90]
    refine amGo ?_
    ((try refine Or.inl ?_);refine ⟨_,(l1Least_e n 8),.inl rfl,?_⟩;refine amC ?_)
    refine amGo ?_
    ((try refine Or.inl ?_);refine ⟨_,(l1Most_e 1 (min n 8)),.inl rfl,?_⟩;refine amC ?_)
    rw [hmm]
    refine amGo ?_
    (refine .inr (.inl (callW_a [0] (d1) rfl rfl rfl rfl ⟨rfl,trivial⟩ rfl rfl rfl rfl ?_));refine amC ?_)
    refine amGo ?_
    (refine .inr (.inl (callW_a [0] (d2) rfl rfl rfl rfl ⟨rfl,trivial⟩ rfl rfl rfl rfl ?_));refine amC ?_)
    refine amGo ?_
    refine awp_rounds (α:=Nat) (fun _=>[]) [0,1,5,6,7,8] (fun j=>[curO (rqS near m c2 j).1,.row 3 (.ints (rqS near m c2 j).2)]) (fun j=>j≤N) (fun j=>N-j) 0 (by ((try simp only [xk]);(repeat (refine leK_cons ?_ ?_;first | (exact amE) | rotate_left));(refine leK_nil ?_;exact (by rfl));(all_goals (try (simp only [xr,simprocAttr];try refine int_eq1 ?_))))) (Nat.zero_le _) fun j hj => ?_
    have hjl:=rqS_len near m c2 j
    have hjc:=rqS_ok (near:=near) (m:=m) hc2 j
    have hjv:=rqS_val (near:=near) hc2 hm1 j
    have hjn:rqS near m c2 (j+1)=rqN near m j (rqS near m c2 j):=rfl
    generalize hsj:rqS near m c2 j=s at hjl hjc hjv hjn ⊢
    obtain ⟨cj,o⟩:=s
    unfold rqN at hjn
    dsimp only at hjl hjc hjv hjn ⊢
    simp only [xr,simprocAttr]
    refine amGo ?_
    refine awp_cond amQ (fun t0 => ?_) (fun t0 => ?_)
    · have t0:j<N:=by have:=of_decide_eq_true t0;omega
      refine amGo ?_
      refine awp_cond amQ (fun t1 => ?_) (fun t1 => ?_)
      · have t1:near=0∧0<j:=by
          simp only [Bool.cond_eq_ite,decide_eq_true_eq] at t1
          split at t1
          · exact ⟨by assumption,by have:=of_decide_eq_true t1;omega⟩
          · cases t1
        rw [if_pos t1] at hjn
        have ej:((o.length:Int)-1).toNat=j-1:=by omega
        have hlast:0≤o.getD ((o.length:Int)-1).toNat 0∧o.getD ((o.length:Int)-1).toNat 0<m:=hjv _ (by
          rw [ej,show o.getD (j-1) 0=o[j-1]'(by omega) from by simp [show j-1<o.length by omega]]
          exact List.getElem_mem _)
        have hpv:=pkV_rng 2 hjc
        refine awp_mvQ 1 2 ?_
        (refine amB ?_;refine awp_anyG 1 [(8,[0]),(13,[2,1])] [2,1,0] [(3,[0]),(5,[0]),(6,[0]),(8,[2,1]),(13,[0]),(14,[0])] ?_;refine amNG ?_)
        ((first | refine .inr (.inr ⟨0,_,_,callG_h (pick_h (n:=2) (c:=cj) (hjc.mono (by omega))) rfl rfl rfl rfl rfl rfl rfl,?_⟩) | refine .inr ⟨0,_,_,callG_h (pick_h (n:=2) (c:=cj) (hjc.mono (by omega))) rfl rfl rfl rfl rfl rfl rfl,?_⟩ | refine ⟨0,_,_,callG_h (pick_h (n:=2) (c:=cj) (hjc.mono (by omega))) rfl rfl rfl rfl rfl rfl rfl,?_⟩);refine amTG ?_)
        simp only [xm,simprocAttr]
        refine ⟨j+1,by omega,by omega,.inr ⟨2,Nat.le_of_ble_eq_true rfl,leT_of ?_ rfl rfl rfl⟩⟩
        ((try simp only [xk]);(repeat (refine leK_cons ?_ ?_;first | (exact amE) | rotate_left));(refine leK_nil ?_;exact (by rw [hjn,ej]<;>rfl));(all_goals (try (simp only [xr,simprocAttr];try refine int_eq1 ?_))))
      · have t1:¬ (near=0∧0<j):=fun h=>by
          simp only [Bool.cond_eq_ite,h.1,decide_true,if_true] at t1
          have:=of_decide_eq_false t1
          omega
        rw [if_neg t1] at hjn
        refine amGo ?_
        refine awp_cond amQ (fun t2 => ?_) (fun t2 => ?_)
        · have t2:near=1∧2<j:=by
            simp only [Bool.cond_eq_ite,decide_eq_true_eq] at t2
            split at t2
            · exact ⟨by assumption,by have:=of_decide_eq_true t2;omega⟩
            · cases t2
          rw [if_pos t2] at hjn
          have hpv:=pkV_rng 3 hjc
          refine amGo ?_
          (refine .inr (.inl (callW_a [0] (pick_h (n:=3) (c:=cj) (hjc.mono (by omega))) rfl rfl rfl rfl ⟨rfl,trivial⟩ rfl rfl rfl rfl ?_));refine amC ?_)
          have hj1:=pkC_ok (n:=3) hjc
          have hj2:=pkC_ok (n:=3) hj1
          generalize pkV 3 cj=v at hpv hjn ⊢
          generalize pkC 3 cj=cj1 at hj1 hj2 hjn ⊢
          have ev:((o.length:Int)-1-v).toNat=j-1-v.toNat:=by omega
          refine amGo ?_
          (refine .inr (.inl (callW_a [0] (one_h (n:=3) (c:=cj1) (hj1.mono (by omega))) rfl rfl rfl rfl ⟨rfl,trivial⟩ rfl rfl rfl rfl ?_));refine amC ?_)
          generalize pkV 3 cj1=u at hjn ⊢
          generalize pkC 3 cj1=cj2 at hj2 hjn ⊢
          refine amGo ?_
          refine awp_cond amQ (fun t3 => ?_) (fun t3 => ?_)
          · rw [if_pos (of_decide_eq_true t3)] at hjn
            have eo:(((o++[o.getD ((o.length:Int)-1-v).toNat 0]).length:Int)-1).toNat=o.length:=by simp
            have eo2:(o++[o.getD ((o.length:Int)-1-v).toNat 0]).length=o.length+1:=by simp
            refine amGo ?_
            (refine .inr (.inl (callW_a [0] (pick_h (n:=m) (c:=cj2) (hj2.mono (by omega))) rfl rfl rfl rfl ⟨rfl,trivial⟩ rfl rfl rfl rfl ?_));refine amC ?_)
            refine amGo ?_
            refine ⟨j+1,by omega,by omega,.inr ⟨2,Nat.le_of_ble_eq_true rfl,leT_of ?_ rfl rfl rfl⟩⟩
            ((try simp only [xk]);(repeat (refine leK_cons ?_ ?_;first | (exact amE) | rotate_left));(refine leK_nil ?_;exact (by rw [hjn]<;>simp<;>rfl));(all_goals (try (simp only [xr,simprocAttr];try refine int_eq1 ?_))))
          · rw [if_neg (of_decide_eq_false t3)] at hjn
            refine amGo ?_
            refine ⟨j+1,by omega,by omega,.inr ⟨2,Nat.le_of_ble_eq_true rfl,leT_of ?_ rfl rfl rfl⟩⟩
            ((try simp only [xk]);(repeat (refine leK_cons ?_ ?_;first | (exact amE) | rotate_left));(refine leK_nil ?_;exact (by rw [hjn,ev]<;>rfl));(all_goals (try (simp only [xr,simprocAttr];try refine int_eq1 ?_))))
        · have t2:¬ (near=1∧2<j):=fun h=>by
            simp only [Bool.cond_eq_ite,h.1,decide_true,if_true] at t2
            have:=of_decide_eq_false t2
            omega
          rw [if_neg t2] at hjn
          refine amGo ?_
          (refine .inr (.inl (callW_a [0] (pick_h (n:=m) (c:=cj) (hjc.mono (by omega))) rfl rfl rfl rfl ⟨rfl,trivial⟩ rfl rfl rfl rfl ?_));refine amC ?_)
          refine amGo ?_
          refine ⟨j+1,by omega,by omega,.inr ⟨2,Nat.le_of_ble_eq_true rfl,leT_of ?_ rfl rfl rfl⟩⟩
          ((try simp only [xk]);(repeat (refine leK_cons ?_ ?_;first | (exact amE) | rotate_left));(refine leK_nil ?_;exact (by rw [hjn]<;>rfl));(all_goals (try (simp only [xr,simprocAttr];try refine int_eq1 ?_))))
    have t0:j=N:=by have:=of_decide_eq_false t0;omega
    subst t0
    obtain ⟨rfl,rfl⟩:=Prod.mk.inj (hsj.symm.trans hz)
    refine amGo ?_
    (refine .inr (.inl (callW_a [0] (d3) rfl rfl rfl rfl ⟨rfl,trivial⟩ rfl rfl rfl rfl ?_));refine amC ?_)
    refine amGo ?_
    refine awp_cond amQ (fun e0 => ?_) (fun e0 => ?_)
    · refine amGo ?_
      (refine .inr (.inl (callW_a [0] (among_h (xs:=[-1,n,8]) (hcp.mono (by omega)) (by simp)) rfl rfl rfl rfl ⟨rfl,trivial⟩ rfl rfl rfl rfl ?_));refine amC ?_)
      (refine awp_frz 1 rfl ?_;simp only [xz,simprocAttr])
      refine amGo ?_
      (simp only [ends_normal,ends_ret];refine retH_1 [0] rfl ⟨rfl,trivial⟩ rfl rfl rfl rfl rfl ?_;try rfl)
    · simp [t8] at e0
  by_cases t9:tg=1
  · have hfin:=rqL_spec hm1 62 (cp,z) _ hcp (by dsimp only;omega) (by dsimp only;omega)
    have bfin:∀ m0,CuOK m0 c→CuOK (m0+300) (rqL m 62 (cp,z)).1:=fun m0 h=>(rqL_spec hm1 62 (cp,z) _ (bp m0 h) (by dsimp only;omega) (by dsimp only;omega)).2.mono (by omega)
    generalize hG:rqL m 62 (cp,z)=G at hfin bfin
    refine ⟨G.2,G.1,hfin.1,bfin,?_⟩
    refine spec_hB Tryz.func90 rfl Tryz.ntmps90 cfOK (fun _ _=>by kernel_rfl) rfl rfl rfl ?_
    intro M0 w0 S φ0
    rw [Tryz.results90]
    refine amGo ?_
    ((try refine Or.inl ?_);refine ⟨_,(l1Least_e n 8),.inl rfl,?_⟩;refine amC ?_)
    refine amGo ?_
    ((try refine Or.inl ?_);refine ⟨_,(l1Most_e 1 (min n 8)),.inl rfl,?_⟩;refine amC ?_)
    rw [hmm]
    refine amGo ?_
    (refine .inr (.inl (callW_a [0] (d1) rfl rfl rfl rfl ⟨rfl,trivial⟩ rfl rfl rfl rfl ?_));refine amC ?_)
    refine amGo ?_
    (refine .inr (.inl (callW_a [0] (d2) rfl rfl rfl rfl ⟨rfl,trivial⟩ rfl rfl rfl rfl ?_));refine amC ?_)
    refine amGo ?_
    refine awp_rounds (α:=Nat) (fun _=>[]) [0,1,5,6,7,8] (fun j=>[curO (rqS near m c2 j).1,.row 3 (.ints (rqS near m c2 j).2)]) (fun j=>j≤N) (fun j=>N-j) 0 (by ((try simp only [xk]);(repeat (refine leK_cons ?_ ?_;first | (exact amE) | rotate_left));(refine leK_nil ?_;exact (by rfl));(all_goals (try (simp only [xr,simprocAttr];try refine int_eq1 ?_))))) (Nat.zero_le _) fun j hj => ?_
    have hjl:=rqS_len near m c2 j
    have hjc:=rqS_ok (near:=near) (m:=m) hc2 j
    have hjv:=rqS_val (near:=near) hc2 hm1 j
    have hjn:rqS near m c2 (j+1)=rqN near m j (rqS near m c2 j):=rfl
    generalize hsj:rqS near m c2 j=s at hjl hjc hjv hjn ⊢
    obtain ⟨cj,o⟩:=s
    unfold rqN at hjn
    dsimp only at hjl hjc hjv hjn ⊢
    simp only [xr,simprocAttr]
    refine amGo ?_
    refine awp_cond amQ (fun t0 => ?_) (fun t0 => ?_)
    · have t0:j<N:=by have:=of_decide_eq_true t0;omega
      refine amGo ?_
      refine awp_cond amQ (fun t1 => ?_) (fun t1 => ?_)
      · have t1:near=0∧0<j:=by
          simp only [Bool.cond_eq_ite,decide_eq_true_eq] at t1
          split at t1
          · exact ⟨by assumption,by have:=of_decide_eq_true t1;omega⟩
          · cases t1
        rw [if_pos t1] at hjn
        have ej:((o.length:Int)-1).toNat=j-1:=by omega
        have hlast:0≤o.getD ((o.length:Int)-1).toNat 0∧o.getD ((o.length:Int)-1).toNat 0<m:=hjv _ (by
          rw [ej,show o.getD (j-1) 0=o[j-1]'(by omega) from by simp [show j-1<o.length by omega]]
          exact List.getElem_mem _)
        have hpv:=pkV_rng 2 hjc
        refine awp_mvQ 1 2 ?_
        (refine amB ?_;refine awp_anyG 1 [(8,[0]),(13,[2,1])] [2,1,0] [(3,[0]),(5,[0]),(6,[0]),(8,[2,1]),(13,[0]),(14,[0])] ?_;refine amNG ?_)
        ((first | refine .inr (.inr ⟨0,_,_,callG_h (pick_h (n:=2) (c:=cj) (hjc.mono (by omega))) rfl rfl rfl rfl rfl rfl rfl,?_⟩) | refine .inr ⟨0,_,_,callG_h (pick_h (n:=2) (c:=cj) (hjc.mono (by omega))) rfl rfl rfl rfl rfl rfl rfl,?_⟩ | refine ⟨0,_,_,callG_h (pick_h (n:=2) (c:=cj) (hjc.mono (by omega))) rfl rfl rfl rfl rfl rfl rfl,?_⟩);refine amTG ?_)
        simp only [xm,simprocAttr]
        refine ⟨j+1,by omega,by omega,.inr ⟨2,Nat.le_of_ble_eq_true rfl,leT_of ?_ rfl rfl rfl⟩⟩
        ((try simp only [xk]);(repeat (refine leK_cons ?_ ?_;first | (exact amE) | rotate_left));(refine leK_nil ?_;exact (by rw [hjn,ej]<;>rfl));(all_goals (try (simp only [xr,simprocAttr];try refine int_eq1 ?_))))
      · have t1:¬ (near=0∧0<j):=fun h=>by
          simp only [Bool.cond_eq_ite,h.1,decide_true,if_true] at t1
          have:=of_decide_eq_false t1
          omega
        rw [if_neg t1] at hjn
        refine amGo ?_
        refine awp_cond amQ (fun t2 => ?_) (fun t2 => ?_)
        · have t2:near=1∧2<j:=by
            simp only [Bool.cond_eq_ite,decide_eq_true_eq] at t2
            split at t2
            · exact ⟨by assumption,by have:=of_decide_eq_true t2;omega⟩
            · cases t2
          rw [if_pos t2] at hjn
          have hpv:=pkV_rng 3 hjc
          refine amGo ?_
          (refine .inr (.inl (callW_a [0] (pick_h (n:=3) (c:=cj) (hjc.mono (by omega))) rfl rfl rfl rfl ⟨rfl,trivial⟩ rfl rfl rfl rfl ?_));refine amC ?_)
          have hj1:=pkC_ok (n:=3) hjc
          have hj2:=pkC_ok (n:=3) hj1
          generalize pkV 3 cj=v at hpv hjn ⊢
          generalize pkC 3 cj=cj1 at hj1 hj2 hjn ⊢
          have ev:((o.length:Int)-1-v).toNat=j-1-v.toNat:=by omega
          refine amGo ?_
          (refine .inr (.inl (callW_a [0] (one_h (n:=3) (c:=cj1) (hj1.mono (by omega))) rfl rfl rfl rfl ⟨rfl,trivial⟩ rfl rfl rfl rfl ?_));refine amC ?_)
          generalize pkV 3 cj1=u at hjn ⊢
          generalize pkC 3 cj1=cj2 at hj2 hjn ⊢
          refine amGo ?_
          refine awp_cond amQ (fun t3 => ?_) (fun t3 => ?_)
          · rw [if_pos (of_decide_eq_true t3)] at hjn
            have eo:(((o++[o.getD ((o.length:Int)-1-v).toNat 0]).length:Int)-1).toNat=o.length:=by simp
            have eo2:(o++[o.getD ((o.length:Int)-1-v).toNat 0]).length=o.length+1:=by simp
            refine amGo ?_
            (refine .inr (.inl (callW_a [0] (pick_h (n:=m) (c:=cj2) (hj2.mono (by omega))) rfl rfl rfl rfl ⟨rfl,trivial⟩ rfl rfl rfl rfl ?_));refine amC ?_)
            refine amGo ?_
            refine ⟨j+1,by omega,by omega,.inr ⟨2,Nat.le_of_ble_eq_true rfl,leT_of ?_ rfl rfl rfl⟩⟩
            ((try simp only [xk]);(repeat (refine leK_cons ?_ ?_;first | (exact amE) | rotate_left));(refine leK_nil ?_;exact (by rw [hjn]<;>simp<;>rfl));(all_goals (try (simp only [xr,simprocAttr];try refine int_eq1 ?_))))
          · rw [if_neg (of_decide_eq_false t3)] at hjn
            refine amGo ?_
            refine ⟨j+1,by omega,by omega,.inr ⟨2,Nat.le_of_ble_eq_true rfl,leT_of ?_ rfl rfl rfl⟩⟩
            ((try simp only [xk]);(repeat (refine leK_cons ?_ ?_;first | (exact amE) | rotate_left));(refine leK_nil ?_;exact (by rw [hjn,ev]<;>rfl));(all_goals (try (simp only [xr,simprocAttr];try refine int_eq1 ?_))))
        · have t2:¬ (near=1∧2<j):=fun h=>by
            simp only [Bool.cond_eq_ite,h.1,decide_true,if_true] at t2
            have:=of_decide_eq_false t2
            omega
          rw [if_neg t2] at hjn
          refine amGo ?_
          (refine .inr (.inl (callW_a [0] (pick_h (n:=m) (c:=cj) (hjc.mono (by omega))) rfl rfl rfl rfl ⟨rfl,trivial⟩ rfl rfl rfl rfl ?_));refine amC ?_)
          refine amGo ?_
          refine ⟨j+1,by omega,by omega,.inr ⟨2,Nat.le_of_ble_eq_true rfl,leT_of ?_ rfl rfl rfl⟩⟩
          ((try simp only [xk]);(repeat (refine leK_cons ?_ ?_;first | (exact amE) | rotate_left));(refine leK_nil ?_;exact (by rw [hjn]<;>rfl));(all_goals (try (simp only [xr,simprocAttr];try refine int_eq1 ?_))))
    have t0:j=N:=by have:=of_decide_eq_false t0;omega
    subst t0
    obtain ⟨rfl,rfl⟩:=Prod.mk.inj (hsj.symm.trans hz)
    refine amGo ?_
    (refine .inr (.inl (callW_a [0] (d3) rfl rfl rfl rfl ⟨rfl,trivial⟩ rfl rfl rfl rfl ?_));refine amC ?_)
    refine amGo ?_
    refine awp_cond amQ (fun e0 => ?_) (fun e0 => ?_)
    · simp [t9] at e0
    refine amGo ?_
    refine awp_cond amQ (fun e1 => ?_) (fun e1 => ?_)
    · refine amGo ?_
      refine awp_rounds (α:=Cu×List Int×Nat) (fun _=>[]) [0,5,6] (fun a=>[curO a.1,.row 3 (.ints a.2.1)]) (fun a=>(∃ q:Int,CuOK q a.1∧q+2*a.2.2≤999999990400)∧a.2.1.length≤61∧62≤a.2.1.length+a.2.2∧rqL m a.2.2 (a.1,a.2.1)=G) (fun a=>a.2.2) (cp,o,62) (by ((try simp only [xk]);(repeat (refine leK_cons ?_ ?_;first | (exact amE) | rotate_left));(refine leK_nil ?_;exact (by rfl));(all_goals (try (simp only [xr,simprocAttr];try refine int_eq1 ?_))))) ⟨⟨_,hcp,by dsimp only;omega⟩,by dsimp only;omega,by dsimp only;omega,hG⟩ fun ⟨cr,o2,fl⟩ hr => ?_
      obtain ⟨⟨q,hq1,hq2⟩,hr1,hr2,hr3⟩:=hr
      dsimp only at hq1 hq2 hr1 hr2 hr3 ⊢
      obtain ⟨fl,rfl⟩:∃ f,fl=f+1:=⟨fl-1,by omega⟩
      have hqv:=pkV_rng 2 hq1
      unfold rqL at hr3
      dsimp only at hr3
      simp only [xr,simprocAttr]
      refine amGo ?_
      (refine .inr (.inl (callW_a [0] (pick_h (n:=2) (c:=cr) (hq1.mono (by omega))) rfl rfl rfl rfl ⟨rfl,trivial⟩ rfl rfl rfl rfl ?_));refine amC ?_)
      refine amGo ?_
      refine awp_cond amQ (fun e2 => ?_) (fun e2 => ?_)
      · have e2:=of_decide_eq_true e2
        rw [if_pos e2] at hr3
        refine amGo ?_
        refine ⟨(pkC 2 cr,o2++[(o2.length:Int) % m],fl),?_⟩
        dsimp only
        refine ⟨⟨q+2,pkC_ok hq1,by omega⟩,by simp;omega,by simp;omega,hr3,by omega,.inr ⟨2,Nat.le_of_ble_eq_true rfl,leT_of ?_ rfl rfl rfl⟩⟩
        ((try simp only [xk]);(repeat (refine leK_cons ?_ ?_;first | (exact amE) | rotate_left));(refine leK_nil ?_;exact (by rfl));(all_goals (try (simp only [xr,simprocAttr];try refine int_eq1 ?_))))
      · have e2:=of_decide_eq_false e2
        rw [if_neg e2] at hr3
        subst hr3
        (refine awp_frz 1 rfl ?_;simp only [xz,simprocAttr])
        refine amGo ?_
        (simp only [ends_normal,ends_ret];refine retH_1 [0] rfl ⟨rfl,trivial⟩ rfl rfl rfl rfl rfl ?_;try rfl)
    · simp [t9] at e1
  · refine ⟨z,cp,by omega,fun m0 h=>(bp m0 h).mono (by omega),?_⟩
    refine spec_hB Tryz.func90 rfl Tryz.ntmps90 cfOK (fun _ _=>by kernel_rfl) rfl rfl rfl ?_
    intro M0 w0 S φ0
    rw [Tryz.results90]
    refine amGo ?_
    ((try refine Or.inl ?_);refine ⟨_,(l1Least_e n 8),.inl rfl,?_⟩;refine amC ?_)
    refine amGo ?_
    ((try refine Or.inl ?_);refine ⟨_,(l1Most_e 1 (min n 8)),.inl rfl,?_⟩;refine amC ?_)
    rw [hmm]
    refine amGo ?_
    (refine .inr (.inl (callW_a [0] (d1) rfl rfl rfl rfl ⟨rfl,trivial⟩ rfl rfl rfl rfl ?_));refine amC ?_)
    refine amGo ?_
    (refine .inr (.inl (callW_a [0] (d2) rfl rfl rfl rfl ⟨rfl,trivial⟩ rfl rfl rfl rfl ?_));refine amC ?_)
    refine amGo ?_
    refine awp_rounds (α:=Nat) (fun _=>[]) [0,1,5,6,7,8] (fun j=>[curO (rqS near m c2 j).1,.row 3 (.ints (rqS near m c2 j).2)]) (fun j=>j≤N) (fun j=>N-j) 0 (by ((try simp only [xk]);(repeat (refine leK_cons ?_ ?_;first | (exact amE) | rotate_left));(refine leK_nil ?_;exact (by rfl));(all_goals (try (simp only [xr,simprocAttr];try refine int_eq1 ?_))))) (Nat.zero_le _) fun j hj => ?_
    have hjl:=rqS_len near m c2 j
    have hjc:=rqS_ok (near:=near) (m:=m) hc2 j
    have hjv:=rqS_val (near:=near) hc2 hm1 j
    have hjn:rqS near m c2 (j+1)=rqN near m j (rqS near m c2 j):=rfl
    generalize hsj:rqS near m c2 j=s at hjl hjc hjv hjn ⊢
    obtain ⟨cj,o⟩:=s
    unfold rqN at hjn
    dsimp only at hjl hjc hjv hjn ⊢
    simp only [xr,simprocAttr]
    refine amGo ?_
    refine awp_cond amQ (fun t0 => ?_) (fun t0 => ?_)
    · have t0:j<N:=by have:=of_decide_eq_true t0;omega
      refine amGo ?_
      refine awp_cond amQ (fun t1 => ?_) (fun t1 => ?_)
      · have t1:near=0∧0<j:=by
          simp only [Bool.cond_eq_ite,decide_eq_true_eq] at t1
          split at t1
          · exact ⟨by assumption,by have:=of_decide_eq_true t1;omega⟩
          · cases t1
        rw [if_pos t1] at hjn
        have ej:((o.length:Int)-1).toNat=j-1:=by omega
        have hlast:0≤o.getD ((o.length:Int)-1).toNat 0∧o.getD ((o.length:Int)-1).toNat 0<m:=hjv _ (by
          rw [ej,show o.getD (j-1) 0=o[j-1]'(by omega) from by simp [show j-1<o.length by omega]]
          exact List.getElem_mem _)
        have hpv:=pkV_rng 2 hjc
        refine awp_mvQ 1 2 ?_
        (refine amB ?_;refine awp_anyG 1 [(8,[0]),(13,[2,1])] [2,1,0] [(3,[0]),(5,[0]),(6,[0]),(8,[2,1]),(13,[0]),(14,[0])] ?_;refine amNG ?_)
        ((first | refine .inr (.inr ⟨0,_,_,callG_h (pick_h (n:=2) (c:=cj) (hjc.mono (by omega))) rfl rfl rfl rfl rfl rfl rfl,?_⟩) | refine .inr ⟨0,_,_,callG_h (pick_h (n:=2) (c:=cj) (hjc.mono (by omega))) rfl rfl rfl rfl rfl rfl rfl,?_⟩ | refine ⟨0,_,_,callG_h (pick_h (n:=2) (c:=cj) (hjc.mono (by omega))) rfl rfl rfl rfl rfl rfl rfl,?_⟩);refine amTG ?_)
        simp only [xm,simprocAttr]
        refine ⟨j+1,by omega,by omega,.inr ⟨2,Nat.le_of_ble_eq_true rfl,leT_of ?_ rfl rfl rfl⟩⟩
        ((try simp only [xk]);(repeat (refine leK_cons ?_ ?_;first | (exact amE) | rotate_left));(refine leK_nil ?_;exact (by rw [hjn,ej]<;>rfl));(all_goals (try (simp only [xr,simprocAttr];try refine int_eq1 ?_))))
      · have t1:¬ (near=0∧0<j):=fun h=>by
          simp only [Bool.cond_eq_ite,h.1,decide_true,if_true] at t1
          have:=of_decide_eq_false t1
          omega
        rw [if_neg t1] at hjn
        refine amGo ?_
        refine awp_cond amQ (fun t2 => ?_) (fun t2 => ?_)
        · have t2:near=1∧2<j:=by
            simp only [Bool.cond_eq_ite,decide_eq_true_eq] at t2
            split at t2
            · exact ⟨by assumption,by have:=of_decide_eq_true t2;omega⟩
            · cases t2
          rw [if_pos t2] at hjn
          have hpv:=pkV_rng 3 hjc
          refine amGo ?_
          (refine .inr (.inl (callW_a [0] (pick_h (n:=3) (c:=cj) (hjc.mono (by omega))) rfl rfl rfl rfl ⟨rfl,trivial⟩ rfl rfl rfl rfl ?_));refine amC ?_)
          have hj1:=pkC_ok (n:=3) hjc
          have hj2:=pkC_ok (n:=3) hj1
          generalize pkV 3 cj=v at hpv hjn ⊢
          generalize pkC 3 cj=cj1 at hj1 hj2 hjn ⊢
          have ev:((o.length:Int)-1-v).toNat=j-1-v.toNat:=by omega
          refine amGo ?_
          (refine .inr (.inl (callW_a [0] (one_h (n:=3) (c:=cj1) (hj1.mono (by omega))) rfl rfl rfl rfl ⟨rfl,trivial⟩ rfl rfl rfl rfl ?_));refine amC ?_)
          generalize pkV 3 cj1=u at hjn ⊢
          generalize pkC 3 cj1=cj2 at hj2 hjn ⊢
          refine amGo ?_
          refine awp_cond amQ (fun t3 => ?_) (fun t3 => ?_)
          · rw [if_pos (of_decide_eq_true t3)] at hjn
            have eo:(((o++[o.getD ((o.length:Int)-1-v).toNat 0]).length:Int)-1).toNat=o.length:=by simp
            have eo2:(o++[o.getD ((o.length:Int)-1-v).toNat 0]).length=o.length+1:=by simp
            refine amGo ?_
            (refine .inr (.inl (callW_a [0] (pick_h (n:=m) (c:=cj2) (hj2.mono (by omega))) rfl rfl rfl rfl ⟨rfl,trivial⟩ rfl rfl rfl rfl ?_));refine amC ?_)
            refine amGo ?_
            refine ⟨j+1,by omega,by omega,.inr ⟨2,Nat.le_of_ble_eq_true rfl,leT_of ?_ rfl rfl rfl⟩⟩
            ((try simp only [xk]);(repeat (refine leK_cons ?_ ?_;first | (exact amE) | rotate_left));(refine leK_nil ?_;exact (by rw [hjn]<;>simp<;>rfl));(all_goals (try (simp only [xr,simprocAttr];try refine int_eq1 ?_))))
          · rw [if_neg (of_decide_eq_false t3)] at hjn
            refine amGo ?_
            refine ⟨j+1,by omega,by omega,.inr ⟨2,Nat.le_of_ble_eq_true rfl,leT_of ?_ rfl rfl rfl⟩⟩
            ((try simp only [xk]);(repeat (refine leK_cons ?_ ?_;first | (exact amE) | rotate_left));(refine leK_nil ?_;exact (by rw [hjn,ev]<;>rfl));(all_goals (try (simp only [xr,simprocAttr];try refine int_eq1 ?_))))
        · have t2:¬ (near=1∧2<j):=fun h=>by
            simp only [Bool.cond_eq_ite,h.1,decide_true,if_true] at t2
            have:=of_decide_eq_false t2
            omega
          rw [if_neg t2] at hjn
          refine amGo ?_
          (refine .inr (.inl (callW_a [0] (pick_h (n:=m) (c:=cj) (hjc.mono (by omega))) rfl rfl rfl rfl ⟨rfl,trivial⟩ rfl rfl rfl rfl ?_));refine amC ?_)
          refine amGo ?_
          refine ⟨j+1,by omega,by omega,.inr ⟨2,Nat.le_of_ble_eq_true rfl,leT_of ?_ rfl rfl rfl⟩⟩
          ((try simp only [xk]);(repeat (refine leK_cons ?_ ?_;first | (exact amE) | rotate_left));(refine leK_nil ?_;exact (by rw [hjn]<;>rfl));(all_goals (try (simp only [xr,simprocAttr];try refine int_eq1 ?_))))
    have t0:j=N:=by have:=of_decide_eq_false t0;omega
    subst t0
    obtain ⟨rfl,rfl⟩:=Prod.mk.inj (hsj.symm.trans hz)
    refine amGo ?_
    (refine .inr (.inl (callW_a [0] (d3) rfl rfl rfl rfl ⟨rfl,trivial⟩ rfl rfl rfl rfl ?_));refine amC ?_)
    refine amGo ?_
    refine awp_cond amQ (fun e0 => ?_) (fun e0 => ?_)
    · exact absurd (of_decide_eq_true e0) t8
    refine amGo ?_
    refine awp_cond amQ (fun e1 => ?_) (fun e1 => ?_)
    · exact absurd (of_decide_eq_true e1) t9
    (refine awp_frz 1 rfl ?_;simp only [xz,simprocAttr])
    refine amGo ?_
    (simp only [ends_normal,ends_ret];refine retH_1 [0] rfl ⟨rfl,trivial⟩ rfl rfl rfl rfl rfl ?_;try rfl)
end Go.Proofs.YtjblpcgkffhgfaaGreat
/- The reference's draws for requests in phases, on the machine. Conditions: bytes are bytes. -/
set_option linter.all false
set_option linter.unusedSimpArgs false
set_option linter.unusedVariables false
namespace Go.Proofs.YtjblpcgkffhgfaaGreat
open Go Go.RowKit Am

abbrev itL:List Int:=[3,4,5,2,6,8,1,0,9,-1]
abbrev s4L:List Int:=[2,3,1,2,3,4,5,6]
abbrev s4Z:List Int:=[0,7,-1]
set_option maxHeartbeats 2000000 in
theorem items_h {c:Cu} (hc:CuOK 999999990000 c):∃ n c',(-1≤n∧n≤9)∧(∀ m0,CuOK m0 c→CuOK (m0+10) c')∧DoesH Tryz.prog 115 [.lf (.ptr 0 0)] [true] [curO c] (.int n) [curO c']:=by
  obtain ⟨q1,q2⟩:=pkV_rng 24 hc
  have q2:=q2 (by omega)
  have hc1:=pkC_ok (n:=24) hc
  obtain ⟨nl,hnl,hl0,hl1⟩:∃ nl:Nat,(7+pkV 24 c / 8:Int)=nl∧7≤nl∧nl≤9:=⟨(7+pkV 24 c / 8).toNat,by omega,by omega,by omega⟩
  have hlen:0<(itL.take nl).length:=by simp;omega
  have hm:=List.mem_of_mem_take (amV_mem hc1 hlen)
  simp only [List.mem_cons,List.not_mem_nil,or_false] at hm
  refine ⟨amV (itL.take nl) (pkC 24 c),aqC (itL.take nl) (pkC 24 c),by omega,fun m0 h=>(amC_ok (pkC_ok h)).mono (by omega),?_⟩
  have da:=among_h (xs:=(itL.take nl).drop 0) (c:=pkC 24 c) (hc1.mono (by omega)) hlen
  rw [show amV ((itL.take nl).drop 0) (pkC 24 c)=amV (itL.take nl) (pkC 24 c) from rfl,show aqC ((itL.take nl).drop 0) (pkC 24 c)=aqC (itL.take nl) (pkC 24 c) from rfl] at da
  refine spec_hB Tryz.func115 rfl Tryz.ntmps115 cfOK (fun _ _=>by kernel_rfl) rfl rfl rfl ?_
  intro M0 w0 S φ0
  rw [Tryz.results115]
  refine amGo ?_
  (refine .inr (.inl (callW_a [0] (pick_h (n:=24) (hc.mono (by omega))) rfl rfl rfl rfl ⟨rfl,trivial⟩ rfl rfl rfl rfl ?_));refine amC ?_)
  rw [show (7+pkV 24 c / 8).toNat=nl by omega]
  (refine .inr (.inl (callW_a [0] (da) rfl rfl rfl rfl ⟨rfl,trivial⟩ rfl rfl rfl rfl ?_));refine amC ?_)
  refine amGo ?_
  (simp only [ends_normal,ends_ret];refine retH_1 [0] rfl ⟨rfl,trivial⟩ rfl rfl rfl rfl rfl ?_;try rfl)
set_option maxHeartbeats 2000000 in
theorem size4_h {c:Cu} (hc:CuOK 999999990000 c):∃ n c',(-1≤n∧n≤7)∧(∀ m0,CuOK m0 c→CuOK (m0+10) c')∧DoesH Tryz.prog 116 [.lf (.ptr 0 0)] [true] [curO c] (.int n) [curO c']:=by
  have hc1:=pkC_ok (n:=24) hc
  by_cases h:pkV 24 c=0
  · have hm:=amV_mem (xs:=s4Z) hc1 (by simp)
    simp only [List.mem_cons,List.not_mem_nil,or_false] at hm
    refine ⟨amV s4Z (pkC 24 c),aqC s4Z (pkC 24 c),by omega,fun m0 h=>(amC_ok (pkC_ok h)).mono (by omega),?_⟩
    refine spec_hB Tryz.func116 rfl Tryz.ntmps116 cfOK (fun _ _=>by kernel_rfl) rfl rfl rfl ?_
    intro M0 w0 S φ0
    rw [Tryz.results116]
    refine amGo ?_
    (refine .inr (.inl (callW_a [0] (one_h (n:=24) (hc.mono (by omega))) rfl rfl rfl rfl ⟨rfl,trivial⟩ rfl rfl rfl rfl ?_));refine amC ?_)
    refine amGo ?_
    refine awp_cond amQ (fun e1 => ?_) (fun e1 => ?_)
    · refine amGo ?_
      (refine .inr (.inl (callW_a [0] (among_h (xs:=s4Z) (hc1.mono (by omega)) (by simp)) rfl rfl rfl rfl ⟨rfl,trivial⟩ rfl rfl rfl rfl ?_));refine amC ?_)
      refine amGo ?_
      (simp only [ends_normal,ends_ret];refine retH_1 [0] rfl ⟨rfl,trivial⟩ rfl rfl rfl rfl rfl ?_;try rfl)
    · exact absurd h (of_decide_eq_false e1)
  · have hm:=amV_mem (xs:=s4L) hc1 (by simp)
    simp only [List.mem_cons,List.not_mem_nil,or_false] at hm
    refine ⟨amV s4L (pkC 24 c),aqC s4L (pkC 24 c),by omega,fun m0 h=>(amC_ok (pkC_ok h)).mono (by omega),?_⟩
    refine spec_hB Tryz.func116 rfl Tryz.ntmps116 cfOK (fun _ _=>by kernel_rfl) rfl rfl rfl ?_
    intro M0 w0 S φ0
    rw [Tryz.results116]
    refine amGo ?_
    (refine .inr (.inl (callW_a [0] (one_h (n:=24) (hc.mono (by omega))) rfl rfl rfl rfl ⟨rfl,trivial⟩ rfl rfl rfl rfl ?_));refine amC ?_)
    refine amGo ?_
    refine awp_cond amQ (fun e1 => ?_) (fun e1 => ?_)
    · exact absurd (of_decide_eq_true e1) h
    · refine amGo ?_
      (refine .inr (.inl (callW_a [0] (among_h (xs:=s4L) (hc1.mono (by omega)) (by simp)) rfl rfl rfl rfl ⟨rfl,trivial⟩ rfl rfl rfl rfl ?_));refine amC ?_)
      refine amGo ?_
      (simp only [ends_normal,ends_ret];refine retH_1 [0] rfl ⟨rfl,trivial⟩ rfl rfl rfl rfl rfl ?_;try rfl)
abbrev dphR (n k:Int) (xs:List Int):AV := .tup [.one (.b (.val (.int .i64 n))),.one (.b (.val (.int .i64 k))),.one (.b (.sl (.ints xs)))]
theorem drawPhases_x {bs:List Int} (hb:∀ b∈bs,0≤b∧b<256):∃ n k xs,(-1≤k∧k≤7)∧xs.length≤61∧Does Tryz.prog 61 [.lf (.b (.raw bs))] (.imm (dphR n k xs)):=by
  have hc:CuOK 0 (bs,0,0):=⟨hb,Int.le_refl _,Int.le_refl _⟩
  obtain ⟨n,c1,a1,b1,d1⟩:=items_h (c:=(bs,0,0)) (hc.mono (by omega))
  have hc1:=b1 _ hc
  obtain ⟨k,c2,a2,b2,d2⟩:=size4_h (c:=c1) (hc1.mono (by omega))
  have hc2:=b2 _ hc1
  obtain ⟨xs,c3,a3,b3,d3⟩:=requests_h (n:=n) (c:=c2) (by omega) (hc2.mono (by omega))
  refine ⟨n,k,xs,a2,a3,?_⟩
  refine spec_imm Tryz.func61 rfl Tryz.ntmps61 cfOK (fun _ _=>by kernel_rfl) rfl (Nat.le_of_ble_eq_true rfl) ?_
  intro M0 w0
  rw [Tryz.results61]
  refine amGo ?_
  (refine .inr (.inl (callW_a [0] (d1) rfl rfl rfl rfl ⟨rfl,trivial⟩ rfl rfl rfl rfl ?_));refine amC ?_)
  refine amGo ?_
  (refine .inr (.inl (callW_a [0] (d2) rfl rfl rfl rfl ⟨rfl,trivial⟩ rfl rfl rfl rfl ?_));refine amC ?_)
  refine amGo ?_
  (refine .inr (.inl (callW_a [0] (d3) rfl rfl rfl rfl ⟨rfl,trivial⟩ rfl rfl rfl rfl ?_));refine amC ?_)
  refine amGo ?_
  (simp only [xec,simprocAttr];refine ⟨[_,_,_],⟨rfl,rfl,rfl,trivial⟩,rfl,Imp.eq ?_⟩)
  rfl
theorem drawMark_x {bs:List Int} (hb:∀ b∈bs,0≤b∧b<256):∃ n k xs,(-1≤k∧k≤7)∧xs.length≤61∧Does Tryz.prog 18 [.lf (.b (.raw bs))] (.imm (dphR n k xs)):=by
  obtain ⟨n,k,xs,a1,a2,h⟩:=drawPhases_x hb
  refine ⟨n,k,xs,a1,a2,?_⟩
  refine spec_imm Tryz.func18 rfl Tryz.ntmps18 cfOK (fun _ _=>by kernel_rfl) rfl (Nat.le_of_ble_eq_true rfl) ?_
  intro M0 w0
  rw [Tryz.results18]
  refine amGo ?_
  ((try refine Or.inl ?_);refine ⟨_,h,amF,?_⟩;refine amC ?_)
  refine amGo ?_
  (simp only [xec,simprocAttr];refine ⟨[_,_,_],⟨rfl,rfl,rfl,trivial⟩,rfl,Imp.eq ?_⟩)
  rfl
end Go.Proofs.YtjblpcgkffhgfaaGreat
