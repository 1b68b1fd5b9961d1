/- The reference's draw for IsPotential, on the machine. Conditions: bytes are bytes. -/
import Derived.Test.YtlhdeofkhajigaaGreatGDS
import Derived.Test.YtlhdeofkhajigaaGreatGPA
import Derived.Test.YtlhdeofkhajigaaGreatGAX
import Derived.Test.YtlhdeofkhajigaaGreatPairSt
import Derived.Test.YtlhdeofkhajigaaGreatRsm
set_option linter.all false
set_option linter.unusedSimpArgs false
set_option linter.unusedVariables false
namespace Go.Proofs.YtlhdeofkhajigaaGreat
open Go Go.RowKit Am

theorem shareV {T G:Prop} (h:(Unit→T)→G) (t:T):G:=h fun _=>t
abbrev ipR (m s a:List (List Int)) (x:Int) (r:Int×Int) (w:List Int):AV := .tup [.agg [.b (.sl (.ii m)),.b (.sl (.ii s))],.one (.b (.sl (.ii a))),.one (.b (.val (.int .i64 x))),.agg [.b (.val (.int .i64 r.1)),.b (.val (.int .i64 r.2))],.one (.b (.sl (.ints w)))]
abbrev dvS (a:List (List Int)) (x:Int) (H:List Ob):St:=⟨tab [(12,true,.lf (.own 5)),(7,true,.lf (.ptr 2 0)),(8,true,.lf (.ptr 3 0)),(9,true,.sl (.ii a)),(10,true,.int x),(11,true,.lf (.ptr 4 0)),(2,true,.lf (.ptr 0 0)),(5,true,.lf (.ptr 1 0))],H⟩
theorem pkL_bd {n m0:Int} {c:Cu} (hn:0<n) (h:CuOK m0 c):∀ (k:Nat),m0+2*k≤999999999990→∀ v∈pkL n k c,0≤v∧v<n
  | 0,_=>by simp [pkL]
  | k+1,hb=>fun v hv=>by
    simp only [pkL,List.mem_append,List.mem_singleton] at hv
    rcases hv with hv | rfl
    · exact pkL_bd hn h k (by omega) v hv
    · obtain ⟨q1,q2⟩:=pkV_rng n (pkLC_ok h k)
      exact ⟨q1,q2 hn⟩
/-- the first i numbers are greater by 7 -/
def addS (V:List Int) (i:Nat):List Int:=(List.range V.length).map fun j=>if j<i then V.getD j 0+7 else V.getD j 0
theorem addS_len (V:List Int) (i:Nat):(addS V i).length=V.length:=by simp [addS]
theorem addS_0 (V:List Int):addS V 0=V:=by
  refine List.ext_getElem (by simp [addS]) fun j h1 h2 => ?_
  simp only [addS,List.getElem_map,List.getElem_range]
  rw [if_neg (by omega),getD_in h2]
theorem addS_at {V:List Int} {i:Nat} (h:i<V.length):(addS V i).getD i 0=V.getD i 0:=by
  unfold addS
  rw [rangeMap_getD _ _ h,if_neg (by omega)]
theorem addS_set {V:List Int} {i:Nat}:(addS V i).set i (V.getD i 0+7)=addS V (i+1):=by
  unfold addS
  rw [rangeMap_set]
  refine rangeMap_congr fun j _ => ?_
  by_cases e:j=i
  · subst e
    rw [if_pos rfl,if_pos (by omega)]
  · rw [if_neg e]
    by_cases h:j<i
    · rw [if_pos h,if_pos (by omega)]
    · rw [if_neg h,if_neg (by omega)]
abbrev v0L:List Int:=[1,-1,3]
abbrev v1L:List Int:=[-1,1000000000000000,1000000000000001,-9223372036854775808]
set_option maxRecDepth 8000 in
set_option maxHeartbeats 8000000 in
theorem drawIsPot_x {bs:List Int} (hb:∀ b∈bs,0≤b∧b<256):∃ m s a x r w,Does Tryz.prog 7 [.lf (.b (.raw bs))] (.imm (ipR m s a x r w)):=by
  have hc:CuOK 0 (bs,0,0):=⟨hb,Int.le_refl _,Int.le_refl _⟩
  obtain ⟨m,s,c1,a1,a2,a3,b1,d1⟩:=problem_h (c:=(bs,0,0)) (hc.mono (by omega))
  have hc1:=b1 _ hc
  obtain ⟨a,c2,a4,a5,b2,d2⟩:=algorithm_h (m:=m) (s:=s) (c:=c1) a1 a2 (hc1.mono (by omega))
  have hc2:=b2 _ hc1
  obtain ⟨x,c3,b3,d3⟩:=state8_h (m:=m) (s:=s) (c:=c2) (hc2.mono (by omega))
  have hc3:=b3 _ hc2
  obtain ⟨r,c4,b4,d4⟩:=exact9_h m s a x (c:=c3) (hc3.mono (by omega))
  have hc4:=b4 _ hc3
  obtain ⟨p,q⟩:=r
  clear b1 b2 b3 b4 hc hc1 hc2 hc3 hb
  have hP:=fpH m s a x (p,q)
  have hQ:=spec_PairsOf_d m s a x
  obtain ⟨V,c5,hcase,hVl,hVb,hc5⟩:∃ V c5,(((ptT m s a x (p,q)).2=true∧V=(ptT m s a x (p,q)).1∧c5=c4)∨((ptT m s a x (p,q))=([],false)∧(prQ m s a x).2=false∧V=pkL 10 (poL m s a x).length c4∧c5=pkLC 10 (poL m s a x).length c4∧(poL m s a x).length≤600)∨((ptT m s a x (p,q))=([],false)∧(prQ m s a x).2=true∧V=[]∧c5=c4))∧V.length≤600∧(∀ k,0≤V.getD k 0∧V.getD k 0≤100000000000000)∧CuOK 10000 c5:=by
    cases hpt:ptO m s a x (p,q) with
    | some w =>
      obtain ⟨k1,_,k3,_,k5,_⟩:=pt_facts hpt
      have hle:=(prQ_full k1).le
      unfold tbB at k3
      rw [Bool.and_eq_true,beq_iff_eq] at k3
      refine ⟨w,c4,.inl ⟨by unfold ptT;rw [hpt],by unfold ptT;rw [hpt],rfl⟩,by omega,k5,hc4.mono (by omega)⟩
    | none =>
      have e:ptT m s a x (p,q)=([],false):=by unfold ptT;rw [hpt]
      cases hq:(prQ m s a x).2
      · have hle:=(prQ_full hq).le
        have hpl:(poL m s a x).length≤600:=by unfold poL;rw [hq];exact hle
        refine ⟨_,_,.inr (.inl ⟨e,rfl,rfl,rfl,hpl⟩),by rw [pkL_len];exact hpl,fun k => ?_,(pkLC_ok hc4 _).mono (by omega)⟩
        by_cases hk:k<(pkL 10 (poL m s a x).length c4).length
        · have:=pkL_bd (n:=10) (by omega) hc4 (poL m s a x).length (by omega) ((pkL 10 (poL m s a x).length c4).getD k 0) (by rw [getD_in hk];exact List.getElem_mem hk)
          omega
        · rw [List.getD_eq_getElem?_getD,List.getElem?_eq_none (by omega)]
          simp
      · refine ⟨[],c4,.inr (.inr ⟨e,rfl,rfl,rfl⟩),by simp,fun k=>by simp,hc4.mono (by omega)⟩
  have d5:=pick_h (n:=(V.length:Int)) (c:=c5) (hc5.mono (by omega))
  obtain ⟨q1,q2⟩:=pkV_rng (V.length:Int) hc5
  have hc6:=pkC_ok (n:=(V.length:Int)) hc5
  obtain ⟨k,hk⟩:∃ k:Nat,pkV (V.length:Int) c5=k:=⟨(pkV (V.length:Int) c5).toNat,by omega⟩
  rw [hk] at d5 q2
  generalize pkC (V.length:Int) c5=c6 at d5 hc6
  have d6:=pick_h (n:=8) (c:=c6) (hc6.mono (by omega))
  have hc7:=pkC_ok (n:=8) hc6
  generalize pkV 8 c6=tg at d6
  generalize pkC 8 c6=c7 at d6 hc7
  have d7:=among_h (xs:=v0L) (c:=c7) (hc7.mono (by omega)) (by simp)
  have h7:=amV_mem (xs:=v0L) hc7 (by simp)
  have d8:=among_h (xs:=v1L) (c:=c7) (hc7.mono (by omega)) (by simp)
  generalize amV v0L c7=e0 at d7 h7
  generalize amV v1L c7=e1 at d8
  generalize aqC v0L c7=c8 at d7
  generalize aqC v1L c7=c9 at d8
  simp only [List.mem_cons,List.not_mem_nil,or_false] at h7
  refine ⟨m,s,a,x,(p,q),if V=[] then [] else if tg=0 then V.set k (V.getD k 0+e0) else if tg=1 then V.set k e1 else if tg=2 then (V.take V.length).drop 1 else if tg=3 then addS V V.length else V,?_⟩
  refine spec_imm Tryz.func7 rfl Tryz.ntmps7 cfOK (fun _ _=>by kernel_rfl) rfl (Nat.le_of_ble_eq_true rfl) ?_
  intro M0 w0
  rw [Tryz.results7]
  refine amGo ?_
  (refine .inr (.inl (callW_a [2] (d1) rfl rfl rfl rfl ⟨rfl,trivial⟩ rfl rfl rfl rfl ?_));refine amC ?_)
  (refine amB ?_;refine awp_anyGH 0 [(2,[2]),(5,[2])] [2] [(2,[]),(5,[])] [(2,2,curO c2,.sl (.ii a)),(5,2,curO c3,.int x)] ?_;refine amNH ?_)
  (refine ⟨callG_h (d2) rfl rfl rfl rfl rfl rfl rfl,?_⟩;refine amSG ?_)
  (refine ⟨callG_h (d3) rfl rfl rfl rfl rfl rfl rfl,?_⟩;refine amSG ?_)
  refine amGo ?_
  (refine .inr (.inl (callW_a [2] (d4) rfl rfl rfl rfl ⟨rfl,trivial⟩ rfl rfl rfl rfl ?_));refine amC ?_)
  refine amGo ?_
  (refine .inr (.inl (callW_b (hP) rfl rfl rfl rfl rfl rfl rfl ?_));refine amC ?_)
  refine amGo ?_
  apply shareV
  · intro H
    refine awp_meet (dvS a x [.box [.b (.val (.slice none 0 0)),.b (.val (.slice none 0 0))],.box [.b (.val (.int .i64 0)),.b (.val (.int .i64 0))],curO c5,.box [.b (.sl (.ii m)),.b (.sl (.ii s))],.box [.b (.val (.int .i64 p)),.b (.val (.int .i64 q))],.row 3 (.ints V)]) ?_ (H ())
    rcases hcase with ⟨k1,k2,k3⟩ | ⟨k1,k2,k3,k4,k5⟩ | ⟨k1,k2,k3,k4⟩
    · rw [k1,k2,k3]
      refine awp_cond amQ (fun e2 => ?_) (fun e2 => ?_)
      · simp at e2
      refine amGo ?_
      refine lead_T 6 (Nat.le_of_ble_eq_true rfl) (leT_of ?_ rfl rfl rfl)
      ((try simp only [xk]);(repeat (refine leK_cons ?_ ?_;first | (exact amE) | rotate_left));(refine leK_nil ?_;exact (by rfl));(all_goals (try (simp only [xr,simprocAttr];try refine int_eq1 ?_))))
    · have hc4':=hc4
      rw [k1,k3,k4]
      rw [k2] at hQ
      have hpl:=pkL_len 10 c4
      generalize poL m s a x=po at hQ k5
      refine awp_cond amQ (fun e2 => ?_) (fun e2 => ?_)
      · refine amGo ?_
        ((try refine Or.inl ?_);refine ⟨_,(hQ),amF,?_⟩;refine amC ?_)
        refine amGo ?_
        refine awp_cond amQ (fun e3 => ?_) (fun e3 => ?_)
        · refine amGo ?_
          refine awp_rounds (α:=Nat) (fun i=>[(16,true,.int i),(12,true,.lf (.own 5))]) [2,5,7,8,9,10,11,14] (fun i=>[.box [.b (.val (.slice none 0 0)),.b (.val (.slice none 0 0))],.box [.b (.val (.int .i64 0)),.b (.val (.int .i64 0))],curO (pkLC 10 i c4),.box [.b (.sl (.ii m)),.b (.sl (.ii s))],.box [.b (.val (.int .i64 p)),.b (.val (.int .i64 q))],.row 3 (.ints (pkL 10 i c4))]) (fun i=>i≤po.length) (fun i=>po.length-i) 0 (by ((try simp only [xk]);(repeat (refine leK_cons ?_ ?_;first | (exact amE) | rotate_left));(refine leK_nil ?_;exact (by rfl));(all_goals (try (simp only [xr,simprocAttr];try refine int_eq1 ?_))))) (by omega) fun i hi => ?_
          have hci:=pkLC_ok (n:=10) hc4 i
          have hli:=hpl i
          simp only [xr,simprocAttr]
          refine amGo ?_
          refine awp_cond amQ (fun e4 => ?_) (fun e4 => ?_)
          · have e4:=of_decide_eq_true e4
            refine amGo ?_
            (refine .inr (.inl (callW_a [2] (pick_h (n:=10) (c:=pkLC 10 i c4) (hci.mono (by omega))) rfl rfl rfl rfl ⟨rfl,trivial⟩ rfl rfl rfl rfl ?_));refine amC ?_)
            refine amGo ?_
            refine ⟨i+1,by omega,by omega,.inl ?_⟩
            ((try simp only [xk]);(repeat (refine leK_cons ?_ ?_;first | (exact amE) | rotate_left));(refine leK_nil ?_;exact (by rfl));(all_goals (try (simp only [xr,simprocAttr];try refine int_eq1 ?_))))
          · have e4:=of_decide_eq_false e4
            obtain rfl:i=po.length:=by omega
            refine amGo ?_
            refine lead_T 6 (Nat.le_of_ble_eq_true rfl) (leT_of ?_ rfl rfl rfl)
            ((try simp only [xk]);(repeat (refine leK_cons ?_ ?_;first | (exact amE) | rotate_left));(refine leK_nil ?_;exact (by rfl));(all_goals (try (simp only [xr,simprocAttr];try refine int_eq1 ?_))))
        · simp at e3
      · simp at e2
    · rw [k1,k3,k4]
      rw [k2] at hQ
      refine awp_cond amQ (fun e2 => ?_) (fun e2 => ?_)
      · refine amGo ?_
        ((try refine Or.inl ?_);refine ⟨_,(hQ),amF,?_⟩;refine amC ?_)
        refine amGo ?_
        refine awp_cond amQ (fun e3 => ?_) (fun e3 => ?_)
        · simp at e3
        refine amGo ?_
        refine lead_T 6 (Nat.le_of_ble_eq_true rfl) (leT_of ?_ rfl rfl rfl)
        ((try simp only [xk]);(repeat (refine leK_cons ?_ ?_;first | (exact amE) | rotate_left));(refine leK_nil ?_;exact (by rfl));(all_goals (try (simp only [xr,simprocAttr];try refine int_eq1 ?_))))
      · simp at e2
  clear hP hQ hcase
  refine amGo ?_
  by_cases hV:V=[]
  · rw [if_pos hV]
    refine awp_cond amQ (fun e2 => ?_) (fun e2 => ?_)
    · rw [hV] at e2
      simp at e2
    refine amGo ?_
    (refine awp_frz 5 rfl ?_;simp only [xz,simprocAttr])
    rw [hV]
    (refine amB ?_;refine awp_anyG 0 [(5,[0]),(8,[1])] [0,1] [(5,[1]),(8,[0])] ?_;refine amNG ?_)
    refine amGo ?_
    (simp only [xec,simprocAttr];refine ⟨[_,_,_,_,_],⟨⟨amK,rfl⟩,rfl,rfl,⟨amK,rfl⟩,rfl,trivial⟩,rfl,Imp.eq ?_⟩)
    rfl
  rw [if_neg hV]
  have hVp:0<V.length:=List.length_pos_iff.2 hV
  have q2:=q2 (by omega)
  have hkl:k<V.length:=by omega
  have hbk:=hVb k
  refine awp_cond amQ (fun e2 => ?_) (fun e2 => ?_)
  · refine amGo ?_
    (refine .inr (.inl (callW_a [2] (d5) rfl rfl rfl rfl ⟨rfl,trivial⟩ rfl rfl rfl rfl ?_));refine amC ?_)
    refine amGo ?_
    (refine .inr (.inl (callW_a [2] (d6) rfl rfl rfl rfl ⟨rfl,trivial⟩ rfl rfl rfl rfl ?_));refine amC ?_)
    refine amGo ?_
    by_cases t0:tg=0
    · rw [if_pos t0]
      refine awp_cond amQ (fun e3 => ?_) (fun e3 => ?_)
      · (refine amB ?_;refine awp_anyGH 0 [(8,[2]),(11,[5])] [2,5] [(4,[2]),(5,[2]),(8,[5]),(10,[2]),(11,[2])] [(8,2,curO c8,.int e0)] ?_;refine amNH ?_)
        (refine ⟨callG_h (d7) rfl rfl rfl rfl rfl rfl rfl,?_⟩;refine amSG ?_)
        refine amGo ?_
        (refine awp_frz 5 rfl ?_;simp only [xz,simprocAttr])
        (refine amB ?_;refine awp_anyG 0 [(5,[0]),(8,[1])] [0,1] [(5,[1]),(8,[0])] ?_;refine amNG ?_)
        refine amGo ?_
        (simp only [xec,simprocAttr];refine ⟨[_,_,_,_,_],⟨⟨amK,rfl⟩,rfl,rfl,⟨amK,rfl⟩,rfl,trivial⟩,rfl,Imp.eq ?_⟩)
        rfl
      · simp [t0] at e3
    rw [if_neg t0]
    refine awp_cond amQ (fun e3 => ?_) (fun e3 => ?_)
    · exact (t0 (of_decide_eq_true e3)).elim
    refine amGo ?_
    by_cases t1:tg=1
    · rw [if_pos t1]
      refine awp_cond amQ (fun e4 => ?_) (fun e4 => ?_)
      · refine amGo ?_
        (refine .inr (.inl (callW_a [2] (d8) rfl rfl rfl rfl ⟨rfl,trivial⟩ rfl rfl rfl rfl ?_));refine amC ?_)
        refine amGo ?_
        (refine awp_frz 5 rfl ?_;simp only [xz,simprocAttr])
        (refine amB ?_;refine awp_anyG 0 [(5,[0]),(8,[1])] [0,1] [(5,[1]),(8,[0])] ?_;refine amNG ?_)
        refine amGo ?_
        (simp only [xec,simprocAttr];refine ⟨[_,_,_,_,_],⟨⟨amK,rfl⟩,rfl,rfl,⟨amK,rfl⟩,rfl,trivial⟩,rfl,Imp.eq ?_⟩)
        rfl
      · simp [t1] at e4
    rw [if_neg t1]
    refine awp_cond amQ (fun e4 => ?_) (fun e4 => ?_)
    · exact (t1 (of_decide_eq_true e4)).elim
    refine amGo ?_
    by_cases t2:tg=2
    · rw [if_pos t2]
      refine awp_cond amQ (fun e5 => ?_) (fun e5 => ?_)
      · (refine awp_frz 5 rfl ?_;simp only [xz,simprocAttr])
        refine amGo ?_
        (refine amB ?_;refine awp_anyG 0 [(5,[0]),(8,[1])] [0,1] [(5,[1]),(8,[0])] ?_;refine amNG ?_)
        refine amGo ?_
        (simp only [xec,simprocAttr];refine ⟨[_,_,_,_,_],⟨⟨amK,rfl⟩,rfl,rfl,⟨amK,rfl⟩,rfl,trivial⟩,rfl,Imp.eq ?_⟩)
        rfl
      · simp [t2] at e5
    rw [if_neg t2]
    refine awp_cond amQ (fun e5 => ?_) (fun e5 => ?_)
    · exact (t2 (of_decide_eq_true e5)).elim
    refine amGo ?_
    by_cases t3:tg=3
    · rw [if_pos t3]
      refine awp_cond amQ (fun e6 => ?_) (fun e6 => ?_)
      · refine amGo ?_
        refine awp_rounds (α:=Nat) (fun i=>[(18,true,.int i)]) [2,5,7,8,9,10,11,12] (fun i=>[.box [.b (.val (.slice none 0 0)),.b (.val (.slice none 0 0))],.box [.b (.val (.int .i64 0)),.b (.val (.int .i64 0))],curO c7,.box [.b (.sl (.ii m)),.b (.sl (.ii s))],.box [.b (.val (.int .i64 p)),.b (.val (.int .i64 q))],.row 3 (.ints (addS V i))]) (fun i=>i≤V.length) (fun i=>V.length-i) 0 (by ((try simp only [xk]);(repeat (refine leK_cons ?_ ?_;first | (exact amE) | rotate_left));(refine leK_nil ?_;exact (by rw [addS_0]<;>rfl));(all_goals (try (simp only [xr,simprocAttr];try refine int_eq1 ?_))))) (by omega) fun i hi => ?_
        have hai:=addS_len V i
        have hbi:=hVb i
        simp only [xr,simprocAttr]
        refine amGo ?_
        refine awp_cond amQ (fun e7 => ?_) (fun e7 => ?_)
        · have e7:=of_decide_eq_true e7
          have hat:=addS_at (V:=V) (i:=i) (by omega)
          have hst:=addS_set (V:=V) (i:=i)
          rw [← hat] at hbi hst
          refine amGo ?_
          refine ⟨i+1,by omega,by omega,.inl ?_⟩
          ((try simp only [xk]);(repeat (refine leK_cons ?_ ?_;first | (exact amE) | rotate_left));(refine leK_nil ?_;exact (by rw [← hst]<;>rfl));(all_goals (try (simp only [xr,simprocAttr];try refine int_eq1 ?_))))
        · have e7:=of_decide_eq_false e7
          obtain rfl:i=V.length:=by omega
          refine amGo ?_
          (refine awp_frz 5 rfl ?_;simp only [xz,simprocAttr])
          (refine amB ?_;refine awp_anyG 0 [(5,[0]),(8,[1])] [0,1] [(5,[1]),(8,[0])] ?_;refine amNG ?_)
          refine amGo ?_
          (simp only [xec,simprocAttr];refine ⟨[_,_,_,_,_],⟨⟨amK,rfl⟩,rfl,rfl,⟨amK,rfl⟩,rfl,trivial⟩,rfl,Imp.eq ?_⟩)
          rfl
      · simp [t3] at e6
    rw [if_neg t3]
    refine awp_cond amQ (fun e6 => ?_) (fun e6 => ?_)
    · exact (t3 (of_decide_eq_true e6)).elim
    refine amGo ?_
    (refine awp_frz 5 rfl ?_;simp only [xz,simprocAttr])
    (refine amB ?_;refine awp_anyG 0 [(5,[0]),(8,[1])] [0,1] [(5,[1]),(8,[0])] ?_;refine amNG ?_)
    refine amGo ?_
    (simp only [xec,simprocAttr];refine ⟨[_,_,_,_,_],⟨⟨amK,rfl⟩,rfl,rfl,⟨amK,rfl⟩,rfl,trivial⟩,rfl,Imp.eq ?_⟩)
    rfl
  · have e2:=of_decide_eq_false e2
    omega
end Go.Proofs.YtlhdeofkhajigaaGreat
/- The law on potentials, on the machine. Conditions: bytes are bytes. -/
set_option linter.all false
set_option linter.unusedSimpArgs false
set_option linter.unusedVariables false
namespace Go.Proofs.YtlhdeofkhajigaaGreat
open Go Go.RowKit Am

theorem walkP_big {bs:List Int} (h:65536<(bs.length:Int)):Does Tryz.prog 3 [.lf (.b (.raw bs))] (.imm (.bool true)):=by
  refine spec_imm Tryz.func3 rfl Tryz.ntmps3 cfOK (fun _ _=>by kernel_rfl) rfl (Nat.le_of_ble_eq_true rfl) ?_
  intro M0 w0
  rw [Tryz.results3]
  refine amGo ?_
  ((try refine Or.inl ?_);refine ⟨_,(rBig_d bs),.inl rfl,?_⟩;refine amC ?_)
  refine amGo ?_
  refine awp_cond amQ (fun h0 => ?_) (fun h0 => ?_)
  · refine amGo ?_
    (simp only [xe,simprocAttr];refine ⟨_,rfl,rfl,Imp.eq ?_⟩)
    rfl
  · simp at h0;omega
/-- an edge at which numbers are no potential: what the law asks of it -/
theorem brk_facts {m s:List (List Int)} {g:PrT} (hF:PrFull m s g) {a:Int×Int} (ha:ratioB a=true) {tab:List Int} (ht:tbB g.list.length tab=true) {k:Nat} (hk:idxOf (brk a tab) (egs g.rows)=k):∃ i r v:Nat,∃ x y:Int,k=i*s.length+r∧i<g.list.length∧r<s.length∧v<g.list.length∧((eg3 g.rows).getD i []).getD r []=[(v:Int),x,y]∧0≤x∧x≤119∧0≤y∧y≤119∧a.1*y+tab.getD i 0<a.2*x+tab.getD v 0:=by
  have hps:=prob_len hF.prob
  obtain ⟨n,hn,e,hb⟩:=idxOf_lt (p:=brk a tab) (l:=egs g.rows) (by omega)
  have hkn:k=n:=by omega
  subst hkn
  have hlenE:(egs g.rows).length=g.list.length*s.length:=by rw [egs_len hF.row,hF.rlen]
  have e1:k=k / s.length*s.length+k % s.length:=by rw [Nat.mul_comm];exact (Nat.div_add_mod _ _).symm
  have hi:k / s.length<g.list.length:=by
    rw [hlenE] at hn
    exact Nat.div_lt_of_lt_mul (by rw [Nat.mul_comm];exact hn)
  have hr:k % s.length<s.length:=Nat.mod_lt _ (by omega)
  obtain ⟨v,x,y,h5,h6,h7⟩:=eg_in hF hi hr
  rw [← e1] at h5
  refine ⟨k / s.length,k % s.length,v,x,y,e1,hi,hr,h6,?_,h7.1,h7.2.1,h7.2.2.1,h7.2.2.2,?_⟩
  · rw [eg3_e hF hi hr,← e1,h5]
    rfl
  · rw [← getD_in (d:=[]) hn,h5] at hb
    have h8:=of_decide_eq_true hb
    have h9:tab.getD ((k / s.length:Nat):Int).toNat 0<(a.2*x-a.1*y)+tab.getD (v:Int).toNat 0:=h8
    rw [Int.toNat_natCast,Int.toNat_natCast] at h9
    omega
theorem pot_of {E:List (List Int)} {a:Int×Int} {tab:List Int} (h:E.any (brk a tab)=false):PotE E (wtR a.1 a.2) fun v=>tab.getD v 0:=fun e he=>by
  have h1:brk a tab e=false:=by
    rw [Bool.eq_false_iff]
    intro hx
    have:=List.any_eq_true.2 ⟨e,he,hx⟩
    rw [h] at this
    cases this
  have h2:=of_decide_eq_false h1
  have h3:¬ tab.getD (efr e) 0<wtR a.1 a.2 e+tab.getD (eto e) 0:=h2
  show wtR a.1 a.2 e+tab.getD (eto e) 0≤tab.getD (efr e) 0
  omega
set_option maxRecDepth 20000 in
set_option maxHeartbeats 4000000 in
theorem walkP_bad {bs:List Int} {m s nx:List (List Int)} {x:Int} {r:Int×Int} {w:List Int} {m2 s2 n2:List (List Int)} {y:Int} {rs:List Int} (hsm:¬ 65536<(bs.length:Int)) (hD:Does Tryz.prog 7 [.lf (.b (.raw bs))] (.imm (ipR m s nx x r w))) (hD2:Does Tryz.prog 8 [.lf (.b (.raw bs))] (.imm (acR m2 s2 n2 y rs))) (hq:(prQ m s nx x).2=true):Does Tryz.prog 3 [.lf (.b (.raw bs))] (.imm (.bool true)):=by
  have e:ipO m s nx x r=false:=by unfold ipO;rw [hq];rfl
  have e2:psB m s nx x=false:=by unfold psB;rw [hq];rfl
  have hI:=impl_IsPotential_d m s nx x r w
  have hJ:=spec_IsPotential_d m s nx x r w
  have hB:=impl_FirstBroken_d m s nx x r w
  have hC:=spec_FirstBroken_d m s nx x r w
  have hS:=impl_PairSteps_0 m s nx x e2
  have hT:=spec_PairSteps_d m s nx x
  unfold fbV at hB hC
  rw [e] at hI hJ hB hC
  rw [e2] at hT
  have hT:Does _ _ _ (.imm (.tup [.one (.b (.sl (.ki 3 []))),.one (.b (.val (.bool false)))])):=hT
  have hI:Does _ _ _ (.imm (b2V false false)):=hI
  have hJ:Does _ _ _ (.imm (b2V false false)):=hJ
  have hB:Does _ _ _ (.imm (.tup [frT (0,0),blT false])):=hB
  have hC:Does _ _ _ (.imm (.tup [frT (0,0),blT false])):=hC
  obtain ⟨a,b⟩:=r
  refine spec_imm Tryz.func3 rfl Tryz.ntmps3 cfOK (fun _ _=>by kernel_rfl) rfl (Nat.le_of_ble_eq_true rfl) ?_
  intro M0 w0
  rw [Tryz.results3]
  refine amGo ?_
  ((try refine Or.inl ?_);refine ⟨_,(rBig_d bs),.inl rfl,?_⟩;refine amC ?_)
  refine amGo ?_
  refine awp_cond amQ (fun e0 => ?_) (fun e0 => ?_)
  · simp at e0;omega
  refine amGo ?_
  ((try refine Or.inl ?_);refine ⟨_,(hD),amF,?_⟩;refine amC ?_)
  refine amGo ?_
  ((try refine Or.inl ?_);refine ⟨_,(hD2),amF,?_⟩;refine amC ?_)
  refine amGo ?_
  ((try refine Or.inl ?_);refine ⟨_,(hI),.inl rfl,?_⟩;refine amC ?_)
  refine amGo ?_
  ((try refine Or.inl ?_);refine ⟨_,(hJ),.inl rfl,?_⟩;refine amC ?_)
  refine amGo ?_
  refine awp_cond amQ (fun e1 => ?_) (fun e1 => ?_)
  · simp at e1
  refine amGo ?_
  ((try refine Or.inl ?_);refine ⟨_,(hB),.inl rfl,?_⟩;refine amC ?_)
  refine amGo ?_
  ((try refine Or.inl ?_);refine ⟨_,(hC),.inl rfl,?_⟩;refine amC ?_)
  refine amGo ?_
  refine awp_cond amQ (fun e2 => ?_) (fun e2 => ?_)
  · simp at e2
  refine amGo ?_
  ((try refine Or.inl ?_);refine ⟨_,(hS),amF,?_⟩;refine amC ?_)
  refine amGo ?_
  ((try refine Or.inl ?_);refine ⟨_,(hT),amF,?_⟩;refine amC ?_)
  refine amGo ?_
  refine awp_cond amQ (fun e3 => ?_) (fun e3 => ?_)
  · simp at e3
  refine amGo ?_
  refine awp_cond amQ (fun e4 => ?_) (fun e4 => ?_)
  · simp at e4
  refine amGo ?_
  refine awp_cond amQ (fun e5 => ?_) (fun e5 => ?_)
  · refine amGo ?_
    (simp only [xe,simprocAttr];refine ⟨_,rfl,rfl,Imp.eq ?_⟩)
    rfl
  · simp at e5
set_option maxRecDepth 20000 in
set_option maxHeartbeats 4000000 in
theorem walkP_one {bs:List Int} {m s nx:List (List Int)} {x:Int} {r:Int×Int} {w:List Int} {m2 s2 n2:List (List Int)} {y:Int} {rs:List Int} (hsm:¬ 65536<(bs.length:Int)) (hD:Does Tryz.prog 7 [.lf (.b (.raw bs))] (.imm (ipR m s nx x r w))) (hD2:Does Tryz.prog 8 [.lf (.b (.raw bs))] (.imm (acR m2 s2 n2 y rs))) (hq:(prQ m s nx x).2=false) (hr:ratioB r=true) (hw:tbB (prQ m s nx x).1.list.length w=true) (hx:(egs (prQ m s nx x).1.rows).any (brk r w)=true):Does Tryz.prog 3 [.lf (.b (.raw bs))] (.imm (.bool true)):=by
  have hF:=prQ_full hq
  have e:ipO m s nx x r=true:=by unfold ipO;rw [hq,hr];rfl
  have e2:psB m s nx x=true:=by unfold psB;rw [hq];rfl
  have hI:=impl_IsPotential_d m s nx x r w
  have hJ:=spec_IsPotential_d m s nx x r w
  have hB:=impl_FirstBroken_d m s nx x r w
  have hC:=spec_FirstBroken_d m s nx x r w
  have hS:=impl_PairSteps_i m s nx x e2
  have hT:=spec_PairSteps_d m s nx x
  unfold fbV at hB hC
  unfold ipB at hI hJ
  rw [e,hw] at hI hJ hB hC
  rw [hx] at hI hJ
  rw [e2] at hT
  unfold psV at hS hT
  have hT:Does _ _ _ (.imm (.tup [.one (.b (.sl (.ki 3 (eg3 (prQ m s nx x).1.rows)))),.one (.b (.val (.bool true)))])):=hT
  have hI:Does _ _ _ (.imm (b2V false true)):=hI
  have hJ:Does _ _ _ (.imm (b2V false true)):=hJ
  have hrl:=hF.rlen
  have hel:(eg3 (prQ m s nx x).1.rows).length=(prQ m s nx x).1.list.length:=by rw [← hrl];simp [eg3]
  have hpos:=idxOf_any (brk r w) (egs (prQ m s nx x).1.rows)
  rw [hx] at hpos
  have hpos:=of_decide_eq_true hpos
  obtain ⟨k,hk⟩:∃ k:Nat,idxOf (brk r w) (egs (prQ m s nx x).1.rows)=k:=⟨(idxOf (brk r w) (egs (prQ m s nx x).1.rows)).toNat,by omega⟩
  obtain ⟨i,q,v,c,d,k1,k2,k3,k4,k5,k6,k7,k8,k9,k10⟩:=brk_facts hF hr hw hk
  have hrow:((eg3 (prQ m s nx x).1.rows).getD i []).length=s.length:=eg3_rl.trans (hF.row i (by omega))
  have ti:=tab_at hw k2
  have tv:=tab_at hw k4
  rw [hk,k1] at hB hC
  simp only [cond_true,Bool.true_and] at hB hC
  rw [bk_at k3] at hB hC
  have hps:=prob_len hF.prob
  have hle:=hF.le
  obtain ⟨r1,r2,r3,r4⟩:=ratio_ok hr
  clear hx hpos hk hF
  generalize eg3 (prQ m s nx x).1.rows=S3 at *
  generalize (prQ m s nx x).1.list.length=n at *
  have m1:=mul_bd (x:=r.2) (y:=c) (X:=100000000) (Y:=119) ⟨by omega,by omega⟩ ⟨by omega,by omega⟩
  have m2:=mul_bd (x:=r.1) (y:=d) (X:=100000000) (Y:=119) ⟨by omega,by omega⟩ ⟨by omega,by omega⟩
  obtain ⟨a,b⟩:=r
  dsimp only at m1 m2 k10
  refine spec_imm Tryz.func3 rfl Tryz.ntmps3 cfOK (fun _ _=>by kernel_rfl) rfl (Nat.le_of_ble_eq_true rfl) ?_
  intro M0 w0
  rw [Tryz.results3]
  refine amGo ?_
  ((try refine Or.inl ?_);refine ⟨_,(rBig_d bs),.inl rfl,?_⟩;refine amC ?_)
  refine amGo ?_
  refine awp_cond amQ (fun e0 => ?_) (fun e0 => ?_)
  · simp at e0;omega
  refine amGo ?_
  ((try refine Or.inl ?_);refine ⟨_,(hD),amF,?_⟩;refine amC ?_)
  refine amGo ?_
  ((try refine Or.inl ?_);refine ⟨_,(hD2),amF,?_⟩;refine amC ?_)
  refine amGo ?_
  ((try refine Or.inl ?_);refine ⟨_,(hI),.inl rfl,?_⟩;refine amC ?_)
  refine amGo ?_
  ((try refine Or.inl ?_);refine ⟨_,(hJ),.inl rfl,?_⟩;refine amC ?_)
  refine amGo ?_
  refine awp_cond amQ (fun e1 => ?_) (fun e1 => ?_)
  · simp at e1
  refine amGo ?_
  ((try refine Or.inl ?_);refine ⟨_,(hB),.inl rfl,?_⟩;refine amC ?_)
  refine amGo ?_
  ((try refine Or.inl ?_);refine ⟨_,(hC),.inl rfl,?_⟩;refine amC ?_)
  refine amGo ?_
  refine awp_cond amQ (fun e2 => ?_) (fun e2 => ?_)
  · simp at e2
  refine amGo ?_
  ((try refine Or.inl ?_);refine ⟨_,(hS),amF,?_⟩;refine amC ?_)
  refine amGo ?_
  ((try refine Or.inl ?_);refine ⟨_,(hT),amF,?_⟩;refine amC ?_)
  refine amGo ?_
  refine awp_cond amQ (fun e3 => ?_) (fun e3 => ?_)
  · simp at e3
  refine amGo ?_
  refine awp_cond amQ (fun e4 => ?_) (fun e4 => ?_)
  · refine amGo ?_
    refine awp_cond amQ (fun e5 => ?_) (fun e5 => ?_)
    · exfalso
      have hrow2:=hrow
      rw [List.getD_eq_getElem?_getD] at hrow2
      simp at e5
      omega
    have y1:((S3.getD i []).getD q []).getD 0 0=(v:Int):=by rw [k5];rfl
    have y2:((S3.getD i []).getD q []).getD 1 0=c:=by rw [k5];rfl
    have y3:((S3.getD i []).getD q []).getD 2 0=d:=by rw [k5];rfl
    have y4:w.getD (((S3.getD i []).getD q []).getD 0 0).toNat 0=w.getD v 0:=by rw [y1];rfl
    clear k5
    subst y2
    subst y3
    (refine amB ?_;refine awp_anyM [] 0 [] (by kernel_rfl) (by kernel_rfl) (by kernel_rfl) (by kernel_rfl) (by kernel_rfl) ?_;refine amM ?_)
    refine amGo ?_
    refine awp_cond amQ (fun e6 => ?_) (fun e6 => ?_)
    · exfalso
      rw [decide_eq_false (show ¬ ((S3.getD i []).getD q []).getD 0 0<0 by omega),decide_eq_false (show ¬ (w.length:Int)≤((S3.getD i []).getD q []).getD 0 0 by omega),y4,decide_eq_false (show ¬ b*((S3.getD i []).getD q []).getD 1 0+w.getD v 0≤a*((S3.getD i []).getD q []).getD 2 0+w.getD i 0 by omega)] at e6
      cases e6
    refine amGo ?_
    refine awp_cond amQ (fun e7 => ?_) (fun e7 => ?_)
    · refine amGo ?_
      (simp only [xe,simprocAttr];refine ⟨_,rfl,rfl,Imp.eq ?_⟩)
      rfl
    · simp at e7
  · simp at e4
set_option maxRecDepth 20000 in
set_option maxHeartbeats 4000000 in
theorem walkP_no {bs:List Int} {m s nx:List (List Int)} {x:Int} {r:Int×Int} {w:List Int} {m2 s2 n2:List (List Int)} {y:Int} {rs:List Int} (hsm:¬ 65536<(bs.length:Int)) (hD:Does Tryz.prog 7 [.lf (.b (.raw bs))] (.imm (ipR m s nx x r w))) (hD2:Does Tryz.prog 8 [.lf (.b (.raw bs))] (.imm (acR m2 s2 n2 y rs))) (hq:(prQ m s nx x).2=false) (hx:(ipO m s nx x r && ipB m s nx x r w)=false) (hfb:fbV m s nx x r w=((0,0),false)):Does Tryz.prog 3 [.lf (.b (.raw bs))] (.imm (.bool true)):=by
  have e2:psB m s nx x=true:=by unfold psB;rw [hq];rfl
  have hI:=impl_IsPotential_d m s nx x r w
  have hJ:=spec_IsPotential_d m s nx x r w
  have hB:=impl_FirstBroken_d m s nx x r w
  have hC:=spec_FirstBroken_d m s nx x r w
  have hS:=impl_PairSteps_i m s nx x e2
  have hT:=spec_PairSteps_d m s nx x
  rw [hfb] at hB hC
  rw [hx] at hI hJ
  rw [e2] at hT
  generalize ipO m s nx x r=o at *
  have hT:Does _ _ _ (.imm (.tup [.one (.b (.sl (.ki 3 (psV m s nx x)))),.one (.b (.val (.bool true)))])):=hT
  generalize psV m s nx x=S3 at hS hT
  obtain ⟨a,b⟩:=r
  refine spec_imm Tryz.func3 rfl Tryz.ntmps3 cfOK (fun _ _=>by kernel_rfl) rfl (Nat.le_of_ble_eq_true rfl) ?_
  intro M0 w0
  rw [Tryz.results3]
  refine amGo ?_
  ((try refine Or.inl ?_);refine ⟨_,(rBig_d bs),.inl rfl,?_⟩;refine amC ?_)
  refine amGo ?_
  refine awp_cond amQ (fun e0 => ?_) (fun e0 => ?_)
  · simp at e0;omega
  refine amGo ?_
  ((try refine Or.inl ?_);refine ⟨_,(hD),amF,?_⟩;refine amC ?_)
  refine amGo ?_
  ((try refine Or.inl ?_);refine ⟨_,(hD2),amF,?_⟩;refine amC ?_)
  refine amGo ?_
  ((try refine Or.inl ?_);refine ⟨_,(hI),.inl rfl,?_⟩;refine amC ?_)
  refine amGo ?_
  ((try refine Or.inl ?_);refine ⟨_,(hJ),.inl rfl,?_⟩;refine amC ?_)
  refine amGo ?_
  refine awp_cond amQ (fun e1 => ?_) (fun e1 => ?_)
  · simp at e1
  refine amGo ?_
  ((try refine Or.inl ?_);refine ⟨_,(hB),.inl rfl,?_⟩;refine amC ?_)
  refine amGo ?_
  ((try refine Or.inl ?_);refine ⟨_,(hC),.inl rfl,?_⟩;refine amC ?_)
  refine amGo ?_
  refine awp_cond amQ (fun e2 => ?_) (fun e2 => ?_)
  · simp at e2
  refine amGo ?_
  ((try refine Or.inl ?_);refine ⟨_,(hS),amF,?_⟩;refine amC ?_)
  refine amGo ?_
  ((try refine Or.inl ?_);refine ⟨_,(hT),amF,?_⟩;refine amC ?_)
  refine amGo ?_
  refine awp_cond amQ (fun e3 => ?_) (fun e3 => ?_)
  · simp at e3
  refine amGo ?_
  refine awp_cond amQ (fun e4 => ?_) (fun e4 => ?_)
  · simp at e4
  refine amGo ?_
  refine awp_cond amQ (fun e5 => ?_) (fun e5 => ?_)
  · refine amGo ?_
    (simp only [xe,simprocAttr];refine ⟨_,rfl,rfl,Imp.eq ?_⟩)
    rfl
  · simp at e5
set_option maxRecDepth 20000 in
set_option maxHeartbeats 4000000 in
theorem walkP_is {bs:List Int} {m s nx:List (List Int)} {x:Int} {r:Int×Int} {w:List Int} {m2 s2 n2:List (List Int)} {y:Int} {rs:List Int} (hsm:¬ 65536<(bs.length:Int)) (hD:Does Tryz.prog 7 [.lf (.b (.raw bs))] (.imm (ipR m s nx x r w))) (hD2:Does Tryz.prog 8 [.lf (.b (.raw bs))] (.imm (acR m2 s2 n2 y rs))) (hq:(prQ m s nx x).2=false) (hr:ratioB r=true) (hw:tbB (prQ m s nx x).1.list.length w=true) (hx:(egs (prQ m s nx x).1.rows).any (brk r w)=false):Does Tryz.prog 3 [.lf (.b (.raw bs))] (.imm (.bool true)):=by
  have hF:=prQ_full hq
  have hL:=pot_of hx
  have e:ipO m s nx x r=true:=by unfold ipO;rw [hq,hr];rfl
  have e2:psB m s nx x=true:=by unfold psB;rw [hq];rfl
  have hI:=impl_IsPotential_d m s nx x r w
  have hJ:=spec_IsPotential_d m s nx x r w
  have hB:=impl_FirstBroken_d m s nx x r w
  have hC:=spec_FirstBroken_d m s nx x r w
  have hS:=impl_PairSteps_i m s nx x e2
  have hT:=spec_PairSteps_d m s nx x
  have hno:=idxOf_any (brk r w) (egs (prQ m s nx x).1.rows)
  rw [hx] at hno
  have hno:=of_decide_eq_false hno
  unfold fbV at hB hC
  unfold ipB at hI hJ
  rw [e,hw] at hI hJ hB hC
  rw [hx] at hI hJ
  simp only [cond_true,Bool.true_and] at hB hC
  rw [show bkV s.length (idxOf (brk r w) (egs (prQ m s nx x).1.rows))=((0,0),false) from if_pos (by omega)] at hB hC
  rw [e2] at hT
  have hT:Does _ _ _ (.imm (.tup [.one (.b (.sl (.ki 3 (psV m s nx x)))),.one (.b (.val (.bool true)))])):=hT
  have hI:Does _ _ _ (.imm (b2V true true)):=hI
  have hJ:Does _ _ _ (.imm (b2V true true)):=hJ
  generalize psV m s nx x=S3 at hS hT
  have hA:=impl_PairAfter_d m s nx x rs
  have hA2:=spec_PairAfter_d m s nx x rs
  have hK:=impl_AlgorithmCost_v m s nx x rs
  have hO:=impl_LeastCost_v m s x rs
  have bK:=ac_bd m s nx x rs
  have bO:=lc_bd m s x rs
  have hps:=prob_len hF.prob
  have hle:=hF.le
  obtain ⟨r1,r2,r3,r4⟩:=ratio_ok hr
  have t0:=tab_at hw hF.pos
  cases hs:seqB s.length rs
  · have ep:paV m s nx x rs=(0,false):=by unfold paV;rw [hs,Bool.and_false];rfl
    rw [ep] at hA hA2
    obtain ⟨a,b⟩:=r
    refine spec_imm Tryz.func3 rfl Tryz.ntmps3 cfOK (fun _ _=>by kernel_rfl) rfl (Nat.le_of_ble_eq_true rfl) ?_
    intro M0 w0
    rw [Tryz.results3]
    refine amGo ?_
    ((try refine Or.inl ?_);refine ⟨_,(rBig_d bs),.inl rfl,?_⟩;refine amC ?_)
    refine amGo ?_
    refine awp_cond amQ (fun e0 => ?_) (fun e0 => ?_)
    · simp at e0;omega
    refine amGo ?_
    ((try refine Or.inl ?_);refine ⟨_,(hD),amF,?_⟩;refine amC ?_)
    refine amGo ?_
    ((try refine Or.inl ?_);refine ⟨_,(hD2),amF,?_⟩;refine amC ?_)
    refine amGo ?_
    ((try refine Or.inl ?_);refine ⟨_,(hI),.inl rfl,?_⟩;refine amC ?_)
    refine amGo ?_
    ((try refine Or.inl ?_);refine ⟨_,(hJ),.inl rfl,?_⟩;refine amC ?_)
    refine amGo ?_
    refine awp_cond amQ (fun e1 => ?_) (fun e1 => ?_)
    · simp at e1
    refine amGo ?_
    ((try refine Or.inl ?_);refine ⟨_,(hB),.inl rfl,?_⟩;refine amC ?_)
    refine amGo ?_
    ((try refine Or.inl ?_);refine ⟨_,(hC),.inl rfl,?_⟩;refine amC ?_)
    refine amGo ?_
    refine awp_cond amQ (fun e2 => ?_) (fun e2 => ?_)
    · simp at e2
    refine amGo ?_
    ((try refine Or.inl ?_);refine ⟨_,(hS),amF,?_⟩;refine amC ?_)
    refine amGo ?_
    ((try refine Or.inl ?_);refine ⟨_,(hT),amF,?_⟩;refine amC ?_)
    refine amGo ?_
    refine awp_cond amQ (fun e3 => ?_) (fun e3 => ?_)
    · simp at e3
    refine amGo ?_
    refine awp_cond amQ (fun e4 => ?_) (fun e4 => ?_)
    · simp at e4
    refine amGo ?_
    refine awp_cond amQ (fun e5 => ?_) (fun e5 => ?_)
    · simp at e5
    refine amGo ?_
    ((try refine Or.inl ?_);refine ⟨_,(hA),.inl rfl,?_⟩;refine amC ?_)
    refine amGo ?_
    ((try refine Or.inl ?_);refine ⟨_,(hA2),.inl rfl,?_⟩;refine amC ?_)
    refine amGo ?_
    refine awp_cond amQ (fun e6 => ?_) (fun e6 => ?_)
    · simp at e6
    refine amGo ?_
    refine awp_cond amQ (fun e7 => ?_) (fun e7 => ?_)
    · refine amGo ?_
      (simp only [xe,simprocAttr];refine ⟨_,rfl,rfl,Imp.eq ?_⟩)
      rfl
    · simp at e7
  · obtain ⟨q1,q2⟩:=seq_reqs hs
    have ep:paV m s nx x rs=((afterE (egs (prQ m s nx x).1.rows) s.length 0 rs:Int),true):=by unfold paV;rw [hs,hq];rfl
    obtain ⟨k1,k2⟩:=ac_ok hq q1 q2
    have hlt:=(walk_wk hF rs 0 hF.pos q1).2
    have ta:=tab_at hw hlt
    have hfin:r.2*acV m s nx x rs+w.getD (afterE (egs (prQ m s nx x).1.rows) s.length 0 rs) 0≤r.1*lcV m s x rs+w.getD 0 0:=by
      obtain ⟨k,rfl,hk,hp,hal,hw,hW⟩:=prQ_w hq
      have:=pot_bound hp hal hF hw hW hk q1 (by omega) hL
      unfold acV lcV
      rw [k1,k2,Int.toNat_natCast]
      exact this
    rw [ep] at hA hA2
    rw [k1] at hK
    rw [k2] at hO
    clear hF hL hx hno
    generalize afterE (egs (prQ m s nx x).1.rows) s.length 0 rs=at0 at *
    generalize acV m s nx x rs=co at *
    generalize lcV m s x rs=lo at *
    have p3:=mul_bd (x:=r.2) (y:=co) (X:=100000000) (Y:=100000) ⟨by omega,by omega⟩ ⟨by omega,by omega⟩
    have p4:=mul_bd (x:=r.1) (y:=lo) (X:=100000000) (Y:=100000) ⟨by omega,by omega⟩ ⟨by omega,by omega⟩
    obtain ⟨a,b⟩:=r
    dsimp only at p3 p4 hfin
    refine spec_imm Tryz.func3 rfl Tryz.ntmps3 cfOK (fun _ _=>by kernel_rfl) rfl (Nat.le_of_ble_eq_true rfl) ?_
    intro M0 w0
    rw [Tryz.results3]
    refine amGo ?_
    ((try refine Or.inl ?_);refine ⟨_,(rBig_d bs),.inl rfl,?_⟩;refine amC ?_)
    refine amGo ?_
    refine awp_cond amQ (fun e0 => ?_) (fun e0 => ?_)
    · simp at e0;omega
    refine amGo ?_
    ((try refine Or.inl ?_);refine ⟨_,(hD),amF,?_⟩;refine amC ?_)
    refine amGo ?_
    ((try refine Or.inl ?_);refine ⟨_,(hD2),amF,?_⟩;refine amC ?_)
    refine amGo ?_
    ((try refine Or.inl ?_);refine ⟨_,(hI),.inl rfl,?_⟩;refine amC ?_)
    refine amGo ?_
    ((try refine Or.inl ?_);refine ⟨_,(hJ),.inl rfl,?_⟩;refine amC ?_)
    refine amGo ?_
    refine awp_cond amQ (fun e1 => ?_) (fun e1 => ?_)
    · simp at e1
    refine amGo ?_
    ((try refine Or.inl ?_);refine ⟨_,(hB),.inl rfl,?_⟩;refine amC ?_)
    refine amGo ?_
    ((try refine Or.inl ?_);refine ⟨_,(hC),.inl rfl,?_⟩;refine amC ?_)
    refine amGo ?_
    refine awp_cond amQ (fun e2 => ?_) (fun e2 => ?_)
    · simp at e2
    refine amGo ?_
    ((try refine Or.inl ?_);refine ⟨_,(hS),amF,?_⟩;refine amC ?_)
    refine amGo ?_
    ((try refine Or.inl ?_);refine ⟨_,(hT),amF,?_⟩;refine amC ?_)
    refine amGo ?_
    refine awp_cond amQ (fun e3 => ?_) (fun e3 => ?_)
    · simp at e3
    refine amGo ?_
    refine awp_cond amQ (fun e4 => ?_) (fun e4 => ?_)
    · simp at e4
    refine amGo ?_
    refine awp_cond amQ (fun e5 => ?_) (fun e5 => ?_)
    · simp at e5
    refine amGo ?_
    ((try refine Or.inl ?_);refine ⟨_,(hA),.inl rfl,?_⟩;refine amC ?_)
    refine amGo ?_
    ((try refine Or.inl ?_);refine ⟨_,(hA2),.inl rfl,?_⟩;refine amC ?_)
    refine amGo ?_
    refine awp_cond amQ (fun e6 => ?_) (fun e6 => ?_)
    · simp at e6
    refine amGo ?_
    refine awp_cond amQ (fun e7 => ?_) (fun e7 => ?_)
    · simp at e7
    refine amGo ?_
    ((try refine Or.inl ?_);refine ⟨_,(hK),.inl rfl,?_⟩;refine amC ?_)
    refine amGo ?_
    ((try refine Or.inl ?_);refine ⟨_,(hO),.inl rfl,?_⟩;refine amC ?_)
    refine amGo ?_
    (simp only [xe,simprocAttr];refine ⟨_,rfl,rfl,Imp.eq ?_⟩)
    rw [decide_eq_true hfin]
end Go.Proofs.YtlhdeofkhajigaaGreat
