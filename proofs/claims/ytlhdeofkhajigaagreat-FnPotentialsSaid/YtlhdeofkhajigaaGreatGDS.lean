/- The reference's drawn sequences of requests, on the machine. Conditions: the place is small. -/
import Derived.Test.YtlhdeofkhajigaaGreatGDR
import Derived.Test.YtlhdeofkhajigaaGreatGAX
import Derived.Test.YtlhdeofkhajigaaGreatGAL
import Derived.Test.YtlhdeofkhajigaaGreatGQU
import Derived.Test.YtlhdeofkhajigaaGreatGEX
import Derived.Test.YtlhdeofkhajigaaGreatGFM
set_option linter.all false
set_option linter.unusedSimpArgs false
set_option linter.unusedVariables false
namespace Go.Proofs.YtlhdeofkhajigaaGreat
open Go Go.RowKit Am

/-- k numbers below n -/
def pkLC (n:Int):Nat→Cu→Cu
  | 0,c=>c
  | k+1,c=>pkC n (pkLC n k c)
def pkL (n:Int):Nat→Cu→List Int
  | 0,_=>[]
  | k+1,c=>pkL n k c++[pkV n (pkLC n k c)]
theorem pkL_len (n:Int) (c:Cu):∀ k,(pkL n k c).length=k
  | 0=>rfl
  | k+1=>by simp [pkL,pkL_len n c k]
theorem pkLC_ok {n m:Int} {c:Cu} (h:CuOK m c):∀ k:Nat,CuOK (m+2*k) (pkLC n k c)
  | 0=>h.mono (by omega)
  | k+1=>(pkC_ok (pkLC_ok h k)).mono (by omega)
abbrev rnL:List Int:=[0,1,2,3,4,5,7,9]
set_option maxHeartbeats 2000000 in
theorem reqs8_h {m s:List (List Int)} {c:Cu} (hs:s.length≤1000) (hc:CuOK 999999990000 c):∃ rs c',rs.length≤61∧(∀ m0,CuOK m0 c→CuOK (m0+30) c')∧DoesH Tryz.prog 44 [.lf (.ptr 0 0),.tv (.agg [.b (.sl (.ii m)),.b (.sl (.ii s))])] [true] [curO c] (.sl (.ints rs)) [curO c']:=by
  have hn:=amV_mem (xs:=rnL) hc (by simp)
  obtain ⟨N,hN,hN1⟩:∃ N:Nat,amV rnL c=N∧N≤9:=by
    simp only [List.mem_cons,List.not_mem_nil,or_false] at hn
    exact ⟨(amV rnL c).toNat,by omega,by omega⟩
  have d1:=among_h (xs:=rnL) (c:=c) (hc.mono (by omega)) (by simp)
  rw [hN] at d1
  have hc1:=amC_ok (xs:=rnL) hc
  have b1:∀ m0,CuOK m0 c→CuOK (m0+2) (aqC rnL c):=fun _ h=>amC_ok h
  generalize aqC rnL c=c1 at hc1 b1 d1
  obtain ⟨n,hnn⟩:∃ n:Int,max (s.length:Int) 1=n:=⟨_,rfl⟩
  have hc2:=pkLC_ok (n:=n) hc1 N
  have b2:∀ m0,CuOK m0 c→CuOK (m0+20) (pkLC n N c1):=fun m0 h=>(pkLC_ok (b1 m0 h) N).mono (by omega)
  have hl2:=pkL_len n c1 N
  have d2:=pick_h (n:=32) (c:=pkLC n N c1) (hc2.mono (by omega))
  have hc3:=pkC_ok (n:=32) hc2
  have b3:∀ m0,CuOK m0 c→CuOK (m0+22) (pkC 32 (pkLC n N c1)):=fun m0 h=>(pkC_ok (b2 m0 h)).mono (by omega)
  obtain ⟨c3,hc3e⟩:∃ c3,pkC 32 (pkLC n N c1)=c3:=⟨_,rfl⟩
  rw [hc3e] at d2 hc3 b3
  obtain ⟨tg,htg⟩:∃ tg,pkV 32 (pkLC n N c1)=tg:=⟨_,rfl⟩
  rw [htg] at d2
  by_cases t0:tg=0
  · refine ⟨pkL n N c1++[amV [-1,(s.length:Int)] c3],aqC [-1,(s.length:Int)] c3,by simp;omega,fun m0 h=>(amC_ok (b3 m0 h)).mono (by omega),?_⟩
    refine spec_hB Tryz.func44 rfl Tryz.ntmps44 cfOK (fun _ _=>by kernel_rfl) rfl rfl rfl ?_
    intro M0 w0 S φ0
    rw [Tryz.results44]
    refine amGo ?_
    (refine .inr (.inl (callW_a [0] (d1) rfl rfl rfl rfl ⟨rfl,trivial⟩ rfl rfl rfl rfl ?_));refine amC ?_)
    refine amGo ?_
    refine awp_rounds (α:=Nat) (fun k=>[(6,true,.int ((N:Int)-(k:Int)))]) [0,3,5] (fun k=>[curO (pkLC n k c1),.box [.b (.sl (.ii m)),.b (.sl (.ii s))],.row 3 (.ints (pkL n k c1))]) (fun k=>k≤N) (fun k=>N-k) 0 (by ((try simp only [xk]);(repeat (refine leK_cons ?_ ?_;first | (exact amE) | rotate_left));(try exact leK_nil rfl);(all_goals (try (simp only [xr,simprocAttr];try refine int_eq1 ?_))))) (Nat.zero_le _) fun k hk => ?_
    have hkl:=pkL_len n c1 k
    have hkc:=pkLC_ok (n:=n) hc1 k
    simp only [xr,simprocAttr]
    refine amGo ?_
    refine awp_cond amQ (fun hc7 => ?_) (fun hc7 => ?_)
    · have hc7:=of_decide_eq_true hc7
      refine amGo ?_
      ((try refine Or.inl ?_);refine ⟨_,(l1Most_e _ _),.inl rfl,?_⟩;refine amC ?_)
      rw [hnn]
      refine amGo ?_
      (refine .inr (.inl (callW_a [0] (pick_h (n:=n) (hkc.mono (by omega))) rfl rfl rfl rfl ⟨rfl,trivial⟩ rfl rfl rfl rfl ?_));refine amC ?_)
      refine amGo ?_
      refine ⟨k+1,by omega,by omega,.inr ⟨3,Nat.le_of_ble_eq_true rfl,leT_of ?_ rfl rfl rfl⟩⟩
      ((try simp only [xk]);(repeat (refine leK_cons ?_ ?_;first | (exact amE) | rotate_left));(refine leK_nil ?_;exact (rfl));(all_goals (try (simp only [xr,simprocAttr];try refine int_eq1 ?_))))
    have hc7:=of_decide_eq_false hc7
    obtain rfl:k=N:=by omega
    refine amGo ?_
    (refine .inr (.inl (callW_a [0] (d2) rfl rfl rfl rfl ⟨rfl,trivial⟩ rfl rfl rfl rfl ?_));refine amC ?_)
    refine amGo ?_
    refine awp_cond amQ (fun e0 => ?_) (fun e0 => ?_)
    · refine amGo ?_
      (refine .inr (.inl (callW_a [0] (among_h (xs:=[-1,(s.length:Int)]) (hc3.mono (by omega)) (by simp)) rfl rfl rfl rfl ⟨rfl,trivial⟩ rfl rfl rfl rfl ?_));refine amC ?_)
      (refine awp_frz 2 rfl ?_;simp only [xz,simprocAttr])
      refine amGo ?_
      (simp only [ends_normal,ends_ret];refine retH_1 [0] rfl ⟨rfl,trivial⟩ rfl rfl rfl rfl rfl ?_;try rfl)
    · simp [t0] at e0
  by_cases t1:tg=1
  · obtain ⟨q1,q2⟩:=pkV_rng 3 hc3
    have q2:=q2 (by omega)
    obtain ⟨L,hL⟩:∃ L:Nat,(59+pkV 3 c3:Int)=L:=⟨(59+pkV 3 c3).toNat,by omega⟩
    refine ⟨pkL n N c1++List.replicate (L-N) 0,pkC 3 c3,by simp;omega,fun m0 h=>(pkC_ok (b3 m0 h)).mono (by omega),?_⟩
    refine spec_hB Tryz.func44 rfl Tryz.ntmps44 cfOK (fun _ _=>by kernel_rfl) rfl rfl rfl ?_
    intro M0 w0 S φ0
    rw [Tryz.results44]
    refine amGo ?_
    (refine .inr (.inl (callW_a [0] (d1) rfl rfl rfl rfl ⟨rfl,trivial⟩ rfl rfl rfl rfl ?_));refine amC ?_)
    refine amGo ?_
    refine awp_rounds (α:=Nat) (fun k=>[(6,true,.int ((N:Int)-(k:Int)))]) [0,3,5] (fun k=>[curO (pkLC n k c1),.box [.b (.sl (.ii m)),.b (.sl (.ii s))],.row 3 (.ints (pkL n k c1))]) (fun k=>k≤N) (fun k=>N-k) 0 (by ((try simp only [xk]);(repeat (refine leK_cons ?_ ?_;first | (exact amE) | rotate_left));(try exact leK_nil rfl);(all_goals (try (simp only [xr,simprocAttr];try refine int_eq1 ?_))))) (Nat.zero_le _) fun k hk => ?_
    have hkl:=pkL_len n c1 k
    have hkc:=pkLC_ok (n:=n) hc1 k
    simp only [xr,simprocAttr]
    refine amGo ?_
    refine awp_cond amQ (fun hc7 => ?_) (fun hc7 => ?_)
    · have hc7:=of_decide_eq_true hc7
      refine amGo ?_
      ((try refine Or.inl ?_);refine ⟨_,(l1Most_e _ _),.inl rfl,?_⟩;refine amC ?_)
      rw [hnn]
      refine amGo ?_
      (refine .inr (.inl (callW_a [0] (pick_h (n:=n) (hkc.mono (by omega))) rfl rfl rfl rfl ⟨rfl,trivial⟩ rfl rfl rfl rfl ?_));refine amC ?_)
      refine amGo ?_
      refine ⟨k+1,by omega,by omega,.inr ⟨3,Nat.le_of_ble_eq_true rfl,leT_of ?_ rfl rfl rfl⟩⟩
      ((try simp only [xk]);(repeat (refine leK_cons ?_ ?_;first | (exact amE) | rotate_left));(refine leK_nil ?_;exact (rfl));(all_goals (try (simp only [xr,simprocAttr];try refine int_eq1 ?_))))
    have hc7:=of_decide_eq_false hc7
    obtain rfl:k=N:=by omega
    refine amGo ?_
    (refine .inr (.inl (callW_a [0] (d2) rfl rfl rfl rfl ⟨rfl,trivial⟩ rfl rfl rfl rfl ?_));refine amC ?_)
    refine amGo ?_
    refine awp_cond amQ (fun e0 => ?_) (fun e0 => ?_)
    · simp [t1] at e0
    refine amGo ?_
    refine awp_cond amQ (fun e1 => ?_) (fun e1 => ?_)
    · refine amGo ?_
      (refine .inr (.inl (callW_a [0] (pick_h (n:=3) (c:=c3) (hc3.mono (by omega))) rfl rfl rfl rfl ⟨rfl,trivial⟩ rfl rfl rfl rfl ?_));refine amC ?_)
      refine amGo ?_
      refine awp_rounds (α:=Nat) (fun _=>[(7,true,.int (L:Int))]) [5] (fun q=>[curO (pkC 3 c3),.box [.b (.sl (.ii m)),.b (.sl (.ii s))],.row 3 (.ints (pkL n k c1++List.replicate q 0))]) (fun q=>q≤L-k) (fun q=>L-k-q) 0 (by ((try simp only [xk]);(repeat (refine leK_cons ?_ ?_;first | (exact amE) | rotate_left));(refine leK_nil ?_;exact (by simp));(all_goals (try (simp only [xr,simprocAttr];try refine int_eq1 ?_))))) (Nat.zero_le _) fun q hq => ?_
      have hll:(pkL n k c1++List.replicate q (0:Int)).length=k+q:=by simp [hl2]
      simp only [xr,simprocAttr]
      refine amGo ?_
      refine awp_cond amQ (fun e2 => ?_) (fun e2 => ?_)
      · have e2:=of_decide_eq_true e2
        refine amGo ?_
        refine ⟨q+1,by omega,by omega,.inl ?_⟩
        ((try simp only [xk]);(repeat (refine leK_cons ?_ ?_;first | (exact amE) | rotate_left));(refine leK_nil ?_;exact (by rw [List.append_assoc,← List.replicate_succ']));(all_goals (try (simp only [xr,simprocAttr];try refine int_eq1 ?_))))
      · have e2:=of_decide_eq_false e2
        obtain rfl:q=L-k:=by omega
        (refine awp_frz 2 rfl ?_;simp only [xz,simprocAttr])
        refine amGo ?_
        (simp only [ends_normal,ends_ret];refine retH_1 [0] rfl ⟨rfl,trivial⟩ rfl rfl rfl rfl rfl ?_;try rfl)
    · simp [t1] at e1
  · refine ⟨pkL n N c1,c3,by omega,fun m0 h=>(b3 m0 h).mono (by omega),?_⟩
    refine spec_hB Tryz.func44 rfl Tryz.ntmps44 cfOK (fun _ _=>by kernel_rfl) rfl rfl rfl ?_
    intro M0 w0 S φ0
    rw [Tryz.results44]
    refine amGo ?_
    (refine .inr (.inl (callW_a [0] (d1) rfl rfl rfl rfl ⟨rfl,trivial⟩ rfl rfl rfl rfl ?_));refine amC ?_)
    refine amGo ?_
    refine awp_rounds (α:=Nat) (fun k=>[(6,true,.int ((N:Int)-(k:Int)))]) [0,3,5] (fun k=>[curO (pkLC n k c1),.box [.b (.sl (.ii m)),.b (.sl (.ii s))],.row 3 (.ints (pkL n k c1))]) (fun k=>k≤N) (fun k=>N-k) 0 (by ((try simp only [xk]);(repeat (refine leK_cons ?_ ?_;first | (exact amE) | rotate_left));(try exact leK_nil rfl);(all_goals (try (simp only [xr,simprocAttr];try refine int_eq1 ?_))))) (Nat.zero_le _) fun k hk => ?_
    have hkl:=pkL_len n c1 k
    have hkc:=pkLC_ok (n:=n) hc1 k
    simp only [xr,simprocAttr]
    refine amGo ?_
    refine awp_cond amQ (fun hc7 => ?_) (fun hc7 => ?_)
    · have hc7:=of_decide_eq_true hc7
      refine amGo ?_
      ((try refine Or.inl ?_);refine ⟨_,(l1Most_e _ _),.inl rfl,?_⟩;refine amC ?_)
      rw [hnn]
      refine amGo ?_
      (refine .inr (.inl (callW_a [0] (pick_h (n:=n) (hkc.mono (by omega))) rfl rfl rfl rfl ⟨rfl,trivial⟩ rfl rfl rfl rfl ?_));refine amC ?_)
      refine amGo ?_
      refine ⟨k+1,by omega,by omega,.inr ⟨3,Nat.le_of_ble_eq_true rfl,leT_of ?_ rfl rfl rfl⟩⟩
      ((try simp only [xk]);(repeat (refine leK_cons ?_ ?_;first | (exact amE) | rotate_left));(refine leK_nil ?_;exact (rfl));(all_goals (try (simp only [xr,simprocAttr];try refine int_eq1 ?_))))
    have hc7:=of_decide_eq_false hc7
    obtain rfl:k=N:=by omega
    refine amGo ?_
    (refine .inr (.inl (callW_a [0] (d2) rfl rfl rfl rfl ⟨rfl,trivial⟩ rfl rfl rfl rfl ?_));refine amC ?_)
    refine amGo ?_
    refine awp_cond amQ (fun e0 => ?_) (fun e0 => ?_)
    · simp [t0] at e0
    refine amGo ?_
    refine awp_cond amQ (fun e1 => ?_) (fun e1 => ?_)
    · simp [t1] at e1
    (refine awp_frz 2 rfl ?_;simp only [xz,simprocAttr])
    refine amGo ?_
    (simp only [ends_normal,ends_ret];refine retH_1 [0] rfl ⟨rfl,trivial⟩ rfl rfl rfl rfl rfl ?_;try rfl)
end Go.Proofs.YtlhdeofkhajigaaGreat
/- The reference's draws of requests to an algorithm, on the machine. Conditions: bytes are bytes. -/
set_option linter.all false
set_option linter.unusedSimpArgs false
set_option linter.unusedVariables false
namespace Go.Proofs.YtlhdeofkhajigaaGreat
open Go Go.RowKit Am

abbrev acR (m s a:List (List Int)) (x:Int) (rs:List Int):AV := .tup [.agg [.b (.sl (.ii m)),.b (.sl (.ii s))],.one (.b (.sl (.ii a))),.one (.b (.val (.int .i64 x))),.one (.b (.sl (.ints rs)))]
set_option maxHeartbeats 2000000 in
theorem drawAlg_x {bs:List Int} (hb:∀ b∈bs,0≤b∧b<256):∃ m s a x rs,Does Tryz.prog 8 [.lf (.b (.raw bs))] (.imm (acR m s a x rs)):=by
  have hc:CuOK 0 (bs,0,0):=⟨hb,Int.le_refl _,Int.le_refl _⟩
  obtain ⟨m,s,c1,a1,a2,a3,b1,d1⟩:=problem_h (c:=(bs,0,0)) (hc.mono (by omega))
  have hc1:=b1 _ hc
  obtain ⟨a,c2,a4,a5,b2,d2⟩:=algorithm_h (m:=m) (s:=s) (c:=c1) a1 a2 (hc1.mono (by omega))
  have hc2:=b2 _ hc1
  obtain ⟨x,c3,b3,d3⟩:=state8_h (m:=m) (s:=s) (c:=c2) (hc2.mono (by omega))
  have hc3:=b3 _ hc2
  obtain ⟨rs,c4,a7,b4,d4⟩:=reqs8_h (m:=m) (s:=s) (c:=c3) (by omega) (hc3.mono (by omega))
  refine ⟨m,s,a,x,rs,?_⟩
  refine spec_imm Tryz.func8 rfl Tryz.ntmps8 cfOK (fun _ _=>by kernel_rfl) rfl (Nat.le_of_ble_eq_true rfl) ?_
  intro M0 w0
  rw [Tryz.results8]
  refine amGo ?_
  (refine .inr (.inl (callW_a [1] (d1) rfl rfl rfl rfl ⟨rfl,trivial⟩ rfl rfl rfl rfl ?_));refine amC ?_)
  (refine amB ?_;refine awp_anyGH 0 [(3,[1]),(6,[1]),(9,[1]),(10,[0])] [1] [(3,[]),(6,[]),(9,[])] [(3,1,curO c2,.sl (.ii a)),(6,1,curO c3,.int x),(9,1,curO c4,.sl (.ints rs))] ?_;refine amNH ?_)
  (refine ⟨callG_h (d2) rfl rfl rfl rfl rfl rfl rfl,?_⟩;refine amSG ?_)
  (refine ⟨callG_h (d3) rfl rfl rfl rfl rfl rfl rfl,?_⟩;refine amSG ?_)
  (refine ⟨callG_h (d4) rfl rfl rfl rfl rfl rfl rfl,?_⟩;refine amSG ?_)
  refine amGo ?_
  (simp only [xec,simprocAttr];refine ⟨[_,_,_,_],⟨⟨amK,rfl⟩,rfl,rfl,rfl,trivial⟩,rfl,Imp.eq ?_⟩)
  rfl
end Go.Proofs.YtlhdeofkhajigaaGreat
/- The reference's drawn ratios, on the machine. Conditions: the place is small. -/
set_option linter.all false
set_option linter.unusedSimpArgs false
set_option linter.unusedVariables false
namespace Go.Proofs.YtlhdeofkhajigaaGreat
open Go Go.RowKit Am

abbrev r9N:List Int:=[0,1,2,3,4,5,7,9,12,40]
abbrev r9D:List Int:=[1,1,2,3,5]
set_option maxHeartbeats 2000000 in
theorem ratio9_h {c:Cu} (hc:CuOK 999999999000 c):∃ a c',(∀ m0,CuOK m0 c→CuOK (m0+20) c')∧DoesH Tryz.prog 87 [.lf (.ptr 0 0)] [true] [curO c] (frA a) [curO c']:=by
  have hn:=amV_mem (xs:=r9N) hc (by simp)
  have d1:=among_h (xs:=r9N) (c:=c) (hc.mono (by omega)) (by simp)
  have hc1:=amC_ok (xs:=r9N) hc
  have b1:∀ m0,CuOK m0 c→CuOK (m0+2) (aqC r9N c):=fun _ h=>amC_ok h
  generalize amV r9N c=n at hn d1
  generalize aqC r9N c=c1 at d1 hc1 b1
  have hd:=amV_mem (xs:=r9D) hc1 (by simp)
  have d2:=among_h (xs:=r9D) (c:=c1) (hc1.mono (by omega)) (by simp)
  have hc2:=amC_ok (xs:=r9D) hc1
  have b2:∀ m0,CuOK m0 c→CuOK (m0+4) (aqC r9D c1):=fun _ h=>(amC_ok (b1 _ h)).mono (by omega)
  generalize amV r9D c1=d at hd d2
  generalize aqC r9D c1=c2 at d2 hc2 b2
  simp only [List.mem_cons,List.not_mem_nil,or_false] at hn hd
  have hok:mkOk n d=true:=ok_small (by omega) (by omega) (by omega) (by omega)
  have d3:=l2Make_d n d (by omega) (by omega) (by omega) (by omega)
  rw [hok] at d3
  generalize mkFr n d=a at d3
  clear hok hn hd
  have d4:=one_h (n:=24) (c:=c2) (hc2.mono (by omega))
  have hc3:=pkC_ok (n:=24) hc2
  have b3:∀ m0,CuOK m0 c→CuOK (m0+6) (pkC 24 c2):=fun _ h=>(pkC_ok (b2 _ h)).mono (by omega)
  by_cases h1:pkV 24 c2=0
  · rw [decide_eq_true h1] at d4
    generalize pkC 24 c2=c3 at d4 hc3 b3
    have d5:=among_h (xs:=[-1,2,1]) (c:=c3) (hc3.mono (by omega)) (by simp)
    have hc4:=amC_ok (xs:=[-1,2,1]) hc3
    have b4:∀ m0,CuOK m0 c→CuOK (m0+8) (aqC [-1,2,1] c3):=fun _ h=>(amC_ok (b3 _ h)).mono (by omega)
    generalize amV [-1,2,1] c3=p at d5
    generalize aqC [-1,2,1] c3=c4 at d5 hc4 b4
    have d6:=among_h (xs:=[1,0,4]) (c:=c4) (hc4.mono (by omega)) (by simp)
    refine ⟨(p,amV [1,0,4] c4),aqC [1,0,4] c4,fun _ h=>(amC_ok (b4 _ h)).mono (by omega),?_⟩
    generalize amV [1,0,4] c4=q at d6
    refine spec_hB Tryz.func87 rfl Tryz.ntmps87 cfOK (fun _ _=>by kernel_rfl) rfl rfl rfl ?_
    intro M0 w0 S φ0
    rw [Tryz.results87]
    refine amGo ?_
    (refine .inr (.inl (callW_a [0] (d1) rfl rfl rfl rfl ⟨rfl,trivial⟩ rfl rfl rfl rfl ?_));refine amC ?_)
    (refine .inr (.inl (callW_a [0] (d2) rfl rfl rfl rfl ⟨rfl,trivial⟩ rfl rfl rfl rfl ?_));refine amC ?_)
    ((try refine Or.inl ?_);refine ⟨_,(d3),.inl rfl,?_⟩;refine amC ?_)
    refine amGo ?_
    (refine .inr (.inr (callW_gt [0] (d4) (by first | rfl | (simp only [xr,simprocAttr];done)) rfl rfl rfl ⟨rfl,trivial⟩ rfl rfl rfl rfl ?_));refine amC ?_)
    refine amGo ?_
    refine awp_cond amQ (fun h2 => ?_) (fun h2 => ?_)
    · refine amGo ?_
      (refine .inr (.inl (callW_a [0] (d5) rfl rfl rfl rfl ⟨rfl,trivial⟩ rfl rfl rfl rfl ?_));refine amC ?_)
      (refine .inr (.inl (callW_a [0] (d6) rfl rfl rfl rfl ⟨rfl,trivial⟩ rfl rfl rfl rfl ?_));refine amC ?_)
      refine amGo ?_
      (simp only [ends_normal,ends_ret];refine retH_1 [0] rfl ⟨rfl,trivial⟩ rfl rfl rfl rfl ⟨amK,rfl⟩ ?_;try rfl)
    · simp at h2
  · rw [decide_eq_false h1] at d4
    refine ⟨a,pkC 24 c2,fun _ h=>(b3 _ h).mono (by omega),?_⟩
    generalize pkC 24 c2=c3 at d4
    refine spec_hB Tryz.func87 rfl Tryz.ntmps87 cfOK (fun _ _=>by kernel_rfl) rfl rfl rfl ?_
    intro M0 w0 S φ0
    rw [Tryz.results87]
    refine amGo ?_
    (refine .inr (.inl (callW_a [0] (d1) rfl rfl rfl rfl ⟨rfl,trivial⟩ rfl rfl rfl rfl ?_));refine amC ?_)
    (refine .inr (.inl (callW_a [0] (d2) rfl rfl rfl rfl ⟨rfl,trivial⟩ rfl rfl rfl rfl ?_));refine amC ?_)
    ((try refine Or.inl ?_);refine ⟨_,(d3),.inl rfl,?_⟩;refine amC ?_)
    refine amGo ?_
    (refine .inr (.inr (callW_gt [0] (d4) (by first | rfl | (simp only [xr,simprocAttr];done)) rfl rfl rfl ⟨rfl,trivial⟩ rfl rfl rfl rfl ?_));refine amC ?_)
    refine amGo ?_
    refine awp_cond amQ (fun h2 => ?_) (fun h2 => ?_)
    · simp at h2
    · refine amGo ?_
      (simp only [ends_normal,ends_ret];refine retH_1 [0] rfl ⟨rfl,trivial⟩ rfl rfl rfl rfl ⟨amK,rfl⟩ ?_;try rfl)
/-- a ratio less a third -/
theorem third_fr {a:Int×Int} (hf:frB a.1 a.2=true):Does Tryz.prog 88 [frA a,frA (1,3)] (.imm (.tup [frT (mkFr (a.1*3-a.2) (a.2*3)),blT (mkOk (a.1*3-a.2) (a.2*3))])):=by
  have h1:=(frB_iff.1 hf).1
  exact l2Sub_f (a:=a) (b:=(1,3)) (A:=a.1*3) (B:=a.2) (D:=a.2*3) ⟨hf,by rw [Int.mul_right_comm,← Int.mul_assoc,Int.mul_right_comm],by omega⟩ ⟨by decide,by show 1*(a.2*3)=a.2*3;omega,by omega⟩
theorem ex_fr {m s nx:List (List Int)} {x:Int} (h:(exB m s nx x).2=true):frB (exB m s nx x).1.1 (exB m s nx x).1.2=true:=by
  unfold exB at h ⊢
  cases hq:(prQ m s nx x).2
  · rw [hq] at h
    have hF:=prQ_full hq
    simp only [cond_false] at h ⊢
    obtain ⟨h1,h2⟩:=exO_ok (eg_B hF)
    cases ho:exO (egs (prQ m s nx x).1.rows) with
    | none=>rw [ho] at h;cases h
    | some p =>
      obtain ⟨a,b⟩:=p
      have h3:=rat_ok (h2 a b ho)
      unfold ratioB at h3
      rw [Bool.and_eq_true] at h3
      exact h3.1
  · rw [hq] at h;cases h
set_option maxHeartbeats 2000000 in
theorem exact9_h (m s nx:List (List Int)) (x:Int) {c:Cu} (hc:CuOK 999999990000 c):∃ a c',(∀ m0,CuOK m0 c→CuOK (m0+40) c')∧DoesH Tryz.prog 40 [.lf (.ptr 0 0),prA m s,.sl (.ii nx),.int x] [true] [curO c] (frA a) [curO c']:=by
  have hE:=spec_ExactRatio_d m s nx x
  cases hb:(exB m s nx x).2
  · rw [hb] at hE
    obtain ⟨a,c',b1,d1⟩:=ratio9_h (c:=c) (hc.mono (by omega))
    refine ⟨a,c',fun _ h=>(b1 _ h).mono (by omega),?_⟩
    generalize (exB m s nx x).1=e at hE
    refine spec_hB Tryz.func40 rfl Tryz.ntmps40 cfOK (fun _ _=>by kernel_rfl) rfl rfl rfl ?_
    intro M0 w0 S φ0
    rw [Tryz.results40]
    refine amGo ?_
    ((try refine Or.inl ?_);refine ⟨_,(hE),.inl rfl,?_⟩;refine amC ?_)
    refine amGo ?_
    (refine .inr (.inr (callW_gf (.bool false) (by first | rfl | (simp only [xr,simprocAttr];done)) rfl ?_));refine amC ?_)
    refine amGo ?_
    refine awp_cond amQ (fun h2 => ?_) (fun h2 => ?_)
    · refine amGo ?_
      (refine .inr (.inl (callW_a [0] (d1) rfl rfl rfl rfl ⟨rfl,trivial⟩ rfl rfl rfl rfl ?_));refine amC ?_)
      refine amGo ?_
      (simp only [ends_normal,ends_ret];refine retH_1 [0] rfl ⟨rfl,trivial⟩ rfl rfl rfl rfl ⟨amK,rfl⟩ ?_;try rfl)
    · simp at h2
  have hf:=ex_fr hb
  rw [hb] at hE
  generalize (exB m s nx x).1=e at hE hf
  have d2:=one_h (n:=3) (c:=c) (hc.mono (by omega))
  have hc1:=pkC_ok (n:=3) hc
  by_cases h1:pkV 3 c=0
  · rw [decide_eq_true h1] at d2
    obtain ⟨a,c',b1,d1⟩:=ratio9_h (c:=pkC 3 c) (hc1.mono (by omega))
    refine ⟨a,c',fun _ h=>(b1 _ (pkC_ok h)).mono (by omega),?_⟩
    generalize pkC 3 c=c1 at d1 d2
    refine spec_hB Tryz.func40 rfl Tryz.ntmps40 cfOK (fun _ _=>by kernel_rfl) rfl rfl rfl ?_
    intro M0 w0 S φ0
    rw [Tryz.results40]
    refine amGo ?_
    ((try refine Or.inl ?_);refine ⟨_,(hE),.inl rfl,?_⟩;refine amC ?_)
    refine amGo ?_
    (refine .inr (.inr (callW_gt [0] (d2) (by first | rfl | (simp only [xr,simprocAttr];done)) rfl rfl rfl ⟨rfl,trivial⟩ rfl rfl rfl rfl ?_));refine amC ?_)
    refine amGo ?_
    refine awp_cond amQ (fun h2 => ?_) (fun h2 => ?_)
    · refine amGo ?_
      (refine .inr (.inl (callW_a [0] (d1) rfl rfl rfl rfl ⟨rfl,trivial⟩ rfl rfl rfl rfl ?_));refine amC ?_)
      refine amGo ?_
      (simp only [ends_normal,ends_ret];refine retH_1 [0] rfl ⟨rfl,trivial⟩ rfl rfl rfl rfl ⟨amK,rfl⟩ ?_;try rfl)
    · simp at h2
  rw [decide_eq_false h1] at d2
  have d3:=one_h (n:=3) (c:=pkC 3 c) (hc1.mono (by omega))
  have hc2:=pkC_ok (n:=3) hc1
  by_cases h2:pkV 3 (pkC 3 c)=0
  · rw [decide_eq_true h2] at d3
    have d4:=third_fr hf
    by_cases h3:mkOk (e.1*3-e.2) (e.2*3)=true∧0≤(mkFr (e.1*3-e.2) (e.2*3)).1
    · refine ⟨mkFr (e.1*3-e.2) (e.2*3),pkC 3 (pkC 3 c),fun _ h=>(pkC_ok (pkC_ok h)).mono (by omega),?_⟩
      rw [h3.1] at d4
      generalize pkC 3 (pkC 3 c)=c2 at d3
      generalize pkC 3 c=c1 at d2 d3
      obtain ⟨p,q,hpq⟩:∃ p q,mkFr (e.1*3-e.2) (e.2*3)=(p,q):=⟨_,_,rfl⟩
      rw [hpq] at h3 d4 ⊢
      refine spec_hB Tryz.func40 rfl Tryz.ntmps40 cfOK (fun _ _=>by kernel_rfl) rfl rfl rfl ?_
      intro M0 w0 S φ0
      rw [Tryz.results40]
      refine amGo ?_
      ((try refine Or.inl ?_);refine ⟨_,(hE),.inl rfl,?_⟩;refine amC ?_)
      refine amGo ?_
      (refine .inr (.inr (callW_gt [0] (d2) (by first | rfl | (simp only [xr,simprocAttr];done)) rfl rfl rfl ⟨rfl,trivial⟩ rfl rfl rfl rfl ?_));refine amC ?_)
      refine amGo ?_
      refine awp_cond amQ (fun h4 => ?_) (fun h4 => ?_)
      · simp at h4
      refine amGo ?_
      (refine .inr (.inl (callW_a [0] (d3) rfl rfl rfl rfl ⟨rfl,trivial⟩ rfl rfl rfl rfl ?_));refine amC ?_)
      refine amGo ?_
      refine awp_cond amQ (fun h5 => ?_) (fun h5 => ?_)
      · refine amGo ?_
        ((try refine Or.inl ?_);refine ⟨_,(d4),.inl rfl,?_⟩;refine amC ?_)
        refine amGo ?_
        refine awp_cond amQ (fun h6 => ?_) (fun h6 => ?_)
        · refine amGo ?_
          (simp only [ends_normal,ends_ret];refine retH_1 [0] rfl ⟨rfl,trivial⟩ rfl rfl rfl rfl ⟨amK,rfl⟩ ?_;try rfl)
        · simp at h6
          have:=h3.2
          omega
      · simp at h5
    · refine ⟨e,pkC 3 (pkC 3 c),fun _ h=>(pkC_ok (pkC_ok h)).mono (by omega),?_⟩
      generalize pkC 3 (pkC 3 c)=c2 at d3
      generalize pkC 3 c=c1 at d2 d3
      generalize mkFr (e.1*3-e.2) (e.2*3)=p at d4 h3
      generalize mkOk (e.1*3-e.2) (e.2*3)=q at d4 h3
      refine spec_hB Tryz.func40 rfl Tryz.ntmps40 cfOK (fun _ _=>by kernel_rfl) rfl rfl rfl ?_
      intro M0 w0 S φ0
      rw [Tryz.results40]
      refine amGo ?_
      ((try refine Or.inl ?_);refine ⟨_,(hE),.inl rfl,?_⟩;refine amC ?_)
      refine amGo ?_
      (refine .inr (.inr (callW_gt [0] (d2) (by first | rfl | (simp only [xr,simprocAttr];done)) rfl rfl rfl ⟨rfl,trivial⟩ rfl rfl rfl rfl ?_));refine amC ?_)
      refine amGo ?_
      refine awp_cond amQ (fun h4 => ?_) (fun h4 => ?_)
      · simp at h4
      refine amGo ?_
      (refine .inr (.inl (callW_a [0] (d3) rfl rfl rfl rfl ⟨rfl,trivial⟩ rfl rfl rfl rfl ?_));refine amC ?_)
      refine amGo ?_
      refine awp_cond amQ (fun h5 => ?_) (fun h5 => ?_)
      · refine amGo ?_
        ((try refine Or.inl ?_);refine ⟨_,(d4),.inl rfl,?_⟩;refine amC ?_)
        refine amGo ?_
        refine awp_cond amQ (fun h6 => ?_) (fun h6 => ?_)
        · refine (h3 ?_).elim
          cases q
          · simp at h6
          · simpa using h6
        · refine amGo ?_
          (simp only [ends_normal,ends_ret];refine retH_1 [0] rfl ⟨rfl,trivial⟩ rfl rfl rfl rfl ⟨amK,rfl⟩ ?_;try rfl)
      · simp at h5
  · rw [decide_eq_false h2] at d3
    refine ⟨e,pkC 3 (pkC 3 c),fun _ h=>(pkC_ok (pkC_ok h)).mono (by omega),?_⟩
    generalize pkC 3 (pkC 3 c)=c2 at d3
    generalize pkC 3 c=c1 at d2 d3
    refine spec_hB Tryz.func40 rfl Tryz.ntmps40 cfOK (fun _ _=>by kernel_rfl) rfl rfl rfl ?_
    intro M0 w0 S φ0
    rw [Tryz.results40]
    refine amGo ?_
    ((try refine Or.inl ?_);refine ⟨_,(hE),.inl rfl,?_⟩;refine amC ?_)
    refine amGo ?_
    (refine .inr (.inr (callW_gt [0] (d2) (by first | rfl | (simp only [xr,simprocAttr];done)) rfl rfl rfl ⟨rfl,trivial⟩ rfl rfl rfl rfl ?_));refine amC ?_)
    refine amGo ?_
    refine awp_cond amQ (fun h4 => ?_) (fun h4 => ?_)
    · simp at h4
    refine amGo ?_
    (refine .inr (.inl (callW_a [0] (d3) rfl rfl rfl rfl ⟨rfl,trivial⟩ rfl rfl rfl rfl ?_));refine amC ?_)
    refine amGo ?_
    refine awp_cond amQ (fun h5 => ?_) (fun h5 => ?_)
    · simp at h5
    refine amGo ?_
    (simp only [ends_normal,ends_ret];refine retH_1 [0] rfl ⟨rfl,trivial⟩ rfl rfl rfl rfl ⟨amK,rfl⟩ ?_;try rfl)
end Go.Proofs.YtlhdeofkhajigaaGreat
