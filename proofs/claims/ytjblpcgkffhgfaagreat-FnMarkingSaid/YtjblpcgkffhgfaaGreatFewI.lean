/- The fewest faults, on the machine: the program's (a plan that leaves out the page of the farthest next request). Conditions: a cache and a sequence that are right. -/
import Derived.Test.YtjblpcgkffhgfaaGreatGPP
import Derived.Test.YtjblpcgkffhgfaaGreatGRQ
import Derived.Test.YtjblpcgkffhgfaaGreatPlay
set_option linter.all false
set_option linter.unusedSimpArgs false
set_option linter.unusedVariables false
namespace Go.Proofs.YtjblpcgkffhgfaaGreat
open Go Go.RowKit Am

theorem farthest_d (i:Nat) (xs c:List Int) (hi:i<xs.length) (hn:xs.length≤60) (hc:c.length≤60):Does Tryz.prog 133 [.int i,.sl (.ints xs),.sl (.ints c)] (.imm (.int (farF (xs.drop (i+1)) c (-1) (-1)))):=by
  have hdl:(xs.drop (i+1)).length≤60:=by rw [List.length_drop];omega
  obtain ⟨G,hG⟩:∃ G,farF (xs.drop (i+1)) c (-1) (-1)=G:=⟨_,rfl⟩
  rw [hG]
  refine spec_imm Tryz.func133 rfl Tryz.ntmps133 cfOK (fun _ _=>by kernel_rfl) rfl (Nat.le_of_ble_eq_true rfl) ?_
  intro M0 w0
  rw [Tryz.results133]
  refine amGo ?_
  refine awp_rounds (α:=Nat×Int×Int) (fun a=>[(14,true,.int a.1),(7,true,.int a.2.1),(8,true,.int a.2.2)]) [0,1,2,12,13] (fun _=>[]) (fun a=>a.1≤c.length ∧ -1≤a.2.2∧a.2.2≤60∧farF (xs.drop (i+1)) (c.drop a.1) a.2.1 a.2.2=G) (fun a=>c.length-a.1) (0,-1,-1) (by ((try simp only [xk]);(repeat (refine leK_cons ?_ ?_;first | (exact amE) | rotate_left));(try exact leK_nil rfl);(all_goals (try (simp only [xr,simprocAttr];try refine int_eq1 ?_))))) ⟨Nat.zero_le _,by decide,by decide,hG⟩ fun ⟨j,best,far⟩ hj => ?_
  obtain ⟨hj,hf1,hf2,hq⟩:=hj
  dsimp only at hj hf1 hf2 hq ⊢
  simp only [xr,simprocAttr]
  refine amGo ?_
  refine awp_cond amQ (fun hd => ?_) (fun hd => ?_)
  · have hd:=of_decide_eq_true hd
    have hj':j<c.length:=by omega
    rw [List.drop_eq_getElem_cons hj',← getD_inL (d:=0) hj'] at hq
    unfold farF at hq
    generalize hp:c.getD j 0=p at hq
    refine amGo ?_
    rw [show ((i:Int)+1).toNat=i+1 by omega,List.take_length,hp]
    generalize xs.drop (i+1)=r at hq hdl ⊢
    ((try refine Or.inl ?_);refine ⟨_,(index_d r p),.inl rfl,?_⟩;refine amC ?_)
    refine amGo ?_
    cases hw:r.contains p
    · rw [hw,if_neg (by decide)] at hq
      rw [idx_no hw]
      refine awp_cond amQ (fun he => ?_) (fun he => ?_)
      · refine amGo ?_
        (simp only [xe,simprocAttr];refine ⟨_,rfl,rfl,Imp.eq ?_⟩)
        rw [hq]
      · exact absurd he (by decide)
    · obtain ⟨hx1,hx2⟩:=idx_yes hw
      rw [hw,if_pos rfl] at hq
      rw [hx1]
      generalize r.idxOf p=m at hq hx1 hx2 ⊢
      refine awp_cond amQ (fun he => ?_) (fun he => ?_)
      · exact absurd (of_decide_eq_true he) (by omega)
      refine amGo ?_
      refine awp_cond amQ (fun hg => ?_) (fun hg => ?_)
      · have hg:=of_decide_eq_true hg
        rw [if_pos (by omega)] at hq
        refine amGo ?_
        refine ⟨(j+1,p,(m:Int)),?_⟩
        dsimp only
        refine ⟨by omega,by omega,by omega,hq,by omega,.inl ?_⟩
        ((try simp only [xk]);(repeat (refine leK_cons ?_ ?_;first | (exact amE) | rotate_left));(try exact leK_nil rfl);(all_goals (try (simp only [xr,simprocAttr];try refine int_eq1 ?_))))
      · have hg:=of_decide_eq_false hg
        rw [if_neg (by omega)] at hq
        refine amGo ?_
        refine ⟨(j+1,best,far),?_⟩
        dsimp only
        refine ⟨by omega,by omega,by omega,hq,by omega,.inl ?_⟩
        ((try simp only [xk]);(repeat (refine leK_cons ?_ ?_;first | (exact amE) | rotate_left));(try exact leK_nil rfl);(all_goals (try (simp only [xr,simprocAttr];try refine int_eq1 ?_))))
  · have hd:=of_decide_eq_false hd
    obtain rfl:j=c.length:=by omega
    rw [List.drop_length] at hq
    refine amGo ?_
    (simp only [xe,simprocAttr];refine ⟨_,rfl,rfl,Imp.eq ?_⟩)
    rw [← hq]
    rfl
theorem far1_d (i:Nat) (xs c:List Int) (hi:i<xs.length) (hn:xs.length≤60) (hc:c.length≤60):Does Tryz.prog 132 [.int i,.sl (.ints c),.lf (.ip [.sl (.ints xs)] 0)] (.imm (.int (farF (xs.drop (i+1)) c (-1) (-1)))):=by
  refine spec_imm Tryz.func132 rfl Tryz.ntmps132 cfOK (fun _ _=>by kernel_rfl) rfl (Nat.le_of_ble_eq_true rfl) ?_
  intro M0 w0
  rw [Tryz.results132]
  refine amGo ?_
  ((try refine Or.inl ?_);refine ⟨_,(farthest_d i xs c hi hn hc),.inl rfl,?_⟩;refine amC ?_)
  refine amGo ?_
  (simp only [xe,simprocAttr];refine ⟨_,rfl,rfl,Imp.eq ?_⟩)
  rfl
theorem del1_d (x l:Int):Does Tryz.prog 165 [.int x,.lf (.ip [.val (.int .i64 l)] 0)] (.imm (.bool (decide (x=l)))):=by
  refine spec_imm Tryz.func165 rfl Tryz.ntmps165 cfOK (fun _ _=>by kernel_rfl) rfl (Nat.le_of_ble_eq_true rfl) ?_
  intro M0 w0
  rw [Tryz.results165]
  refine amGo ?_
  (simp only [xe,simprocAttr];refine ⟨_,rfl,rfl,Imp.eq ?_⟩)
  rfl
theorem farC_rng {r c:List Int} (hc:c≠[]) (hx:∀ x∈c,0≤x∧x<9):0≤farC r c∧farC r c<9:=hx _ (far_ok r c hc).1
theorem nwS_mem {k:Nat} {xs:List Int}:∀ i,i≤xs.length→∀ x∈nwS k xs i,x∈xs
  | 0,_,x,h=>by simp [nwS] at h
  | i+1,hi,x,h=>by
    have ih:=nwS_mem (k:=k) (xs:=xs) i (by omega)
    unfold nwS at h
    have hx:xs.getD i 0∈xs:=by
      rw [getD_inL (show i<xs.length by omega)]
      exact List.getElem_mem _
    split at h
    · exact ih x h
    · rcases List.mem_append.1 h with h | h
      · split at h
        · exact ih x (List.mem_filter.1 h).1
        · exact ih x h
      · rw [List.mem_singleton.1 h]
        exact hx
set_option maxHeartbeats 4000000 in
theorem planBy_h (k:Nat) (xs:List Int) (hk1:1≤k) (hk6:k≤6) (hn:xs.length≤60) (hx:∀ x∈xs,0≤x∧x<9):DoesH Tryz.prog 131 [.int k,.sl (.ints xs),.clo 132 [.ip [.sl (.ints xs)] 0]] [] [] (.lf (.own 0)) [.row 3 (.ints (fpS k xs xs.length))]:=by
  refine spec_hB Tryz.func131 rfl Tryz.ntmps131 cfOK (fun _ _=>by kernel_rfl) rfl rfl rfl ?_
  intro M0 w0 S φ0
  rw [Tryz.results131]
  refine amGo ?_
  refine awp_rounds (α:=Nat) (fun i=>[(16,true,.int i)]) [0,1,2,7,8,14,15] (fun i=>[.row 3 (.ints (nwS k xs i)),.row 3 (.ints (fpS k xs i))]) (fun i=>i≤xs.length) (fun i=>xs.length-i) 0 (by ((try simp only [xk]);(repeat (refine leK_cons ?_ ?_;first | (exact amE) | rotate_left));(refine leK_nil ?_;exact (by rfl));(all_goals (try (simp only [xr,simprocAttr];try refine int_eq1 ?_))))) (Nat.zero_le _) fun i hi => ?_
  have hfl:=fpS_len k xs i
  have hfs:=fpS_succ k xs i
  have hnl:=(far_run hk1 (fun x h=>(hx x h).1) i hi).1
  have hpos:∀ x∈nwS k xs i,0≤x∧x<9:=fun x h=>hx x (nwS_mem i hi x h)
  have hns:nwS k xs (i+1)=if (nwS k xs i).contains (xs.getD i 0)=true then nwS k xs i else (if (nwS k xs i).length=k then (nwS k xs i).filter (fun y => !decide (y=farC (xs.drop (i+1)) (nwS k xs i))) else nwS k xs i)++[xs.getD i 0]:=rfl
  unfold lvS at hfs
  generalize nwS k xs i=c at hns hfs hnl hpos ⊢
  generalize hps:fpS k xs i=ps at hfs hfl ⊢
  simp only [xr,simprocAttr]
  refine amGo ?_
  refine awp_cond amQ (fun hc => ?_) (fun hc => ?_)
  · have hi':i<xs.length:=by have:=of_decide_eq_true hc;omega
    refine amGo ?_
    ((try refine Or.inl ?_);refine ⟨_,(contains_d c (xs.getD i 0)),.inl rfl,?_⟩;refine amC ?_)
    refine amGo ?_
    refine awp_cond amQ (fun hq => ?_) (fun hq => ?_)
    · have hq:c.contains (xs.getD i 0)=false:=by simpa using hq
      simp only [hq,Bool.false_eq_true,if_false] at hns hfs
      refine amGo ?_
      refine awp_cond amQ (fun hf => ?_) (fun hf => ?_)
      · have hf:c.length=k:=by have:=of_decide_eq_true hf;omega
        rw [if_pos hf] at hns hfs
        have hrl:=rs_len c
        have hfc:=far1_d i xs (rs c) hi' hn (by omega)
        rw [show farF (xs.drop (i+1)) (rs c) (-1) (-1)=farC (xs.drop (i+1)) c from rfl] at hfc
        have hfi:=farC_rng (r:=xs.drop (i+1)) (c:=c) (by intro e;rw [e] at hf;simp at hf;omega) hpos
        generalize farC (xs.drop (i+1)) c=L at hfc hns hfs hfi
        have hdl2:(c.filter fun y => !decide (y=L)).length≤60:=by
          have:=List.length_filter_le (fun y => !decide (y=L)) c
          omega
        refine amGo ?_
        (refine .inr (.inl (callW_b (rising_h c (by omega)) rfl rfl rfl rfl rfl rfl rfl ?_));refine amC ?_)
        refine amGo ?_
        ((try refine Or.inl ?_);refine ⟨_,(hfc),.inl rfl,?_⟩;refine amC ?_)
        refine amB ?_
        (refine awp_frzB 2 rfl rfl ?_;simp only [xzb,simprocAttr])
        simp only [List.reverse_singleton]
        refine amGo ?_
        (refine .inr (.inl (callW_a [0] (deleteFunc_h c _ [.ip [.val (.int .i64 L)] 0] (fun y=>decide (y=L)) (by omega) rfl (fun j hj=>del1_d _ L) (fun _ _=>by kernel_rfl)) rfl rfl rfl rfl ⟨rfl,trivial⟩ rfl rfl rfl rfl ?_));refine amC ?_)
        refine amGo ?_
        refine ⟨i+1,by omega,by omega,.inr ⟨2,Nat.le_of_ble_eq_true rfl,leT_of ?_ rfl rfl rfl⟩⟩
        ((try simp only [xk]);(repeat (refine leK_cons ?_ ?_;first | (exact amE) | rotate_left));(refine leK_nil ?_;exact (by rw [hns,hfs]<;>rfl));(all_goals (try (simp only [xr,simprocAttr];try refine int_eq1 ?_))))
      · have hf:¬ c.length=k:=by have:=of_decide_eq_false hf;omega
        rw [if_neg hf] at hns hfs
        refine amGo ?_
        refine ⟨i+1,by omega,by omega,.inr ⟨2,Nat.le_of_ble_eq_true rfl,leT_of ?_ rfl rfl rfl⟩⟩
        ((try simp only [xk]);(repeat (refine leK_cons ?_ ?_;first | (exact amE) | rotate_left));(refine leK_nil ?_;exact (by rw [hns,hfs]<;>rfl));(all_goals (try (simp only [xr,simprocAttr];try refine int_eq1 ?_))))
    · have hq:c.contains (xs.getD i 0)=true:=by simpa using hq
      simp only [hq,if_true] at hns hfs
      refine amGo ?_
      refine ⟨i+1,by omega,by omega,.inr ⟨2,Nat.le_of_ble_eq_true rfl,leT_of ?_ rfl rfl rfl⟩⟩
      ((try simp only [xk]);(repeat (refine leK_cons ?_ ?_;first | (exact amE) | rotate_left));(refine leK_nil ?_;exact (by rw [hns,hfs]<;>rfl));(all_goals (try (simp only [xr,simprocAttr];try refine int_eq1 ?_))))
  · have hi':i=xs.length:=by have:=of_decide_eq_false hc;omega
    refine amGo ?_
    rw [← hps,hi']
    (simp only [ends_normal,ends_ret];refine retH_1 [1] rfl ⟨rfl,trivial⟩ rfl rfl rfl rfl rfl ?_;try rfl)
theorem farthestPlan_d (k:Nat) (xs:List Int) (hk1:1≤k) (hk6:k≤6) (hn:xs.length≤60) (hx:∀ x∈xs,0≤x∧x<9):Does Tryz.prog 78 [.int k,.sl (.ints xs)] (.imm (.sl (.ints (fpS k xs xs.length)))):=by
  refine spec_imm Tryz.func78 rfl Tryz.ntmps78 cfOK (fun _ _=>by kernel_rfl) rfl (Nat.le_of_ble_eq_true rfl) ?_
  intro M0 w0
  rw [Tryz.results78]
  refine amGo ?_
  (refine .inr (.inl (callW_b (planBy_h k xs hk1 hk6 hn hx) rfl rfl rfl rfl rfl rfl rfl ?_));refine amC ?_)
  (refine awp_frz 1 rfl ?_;simp only [xz,simprocAttr])
  refine amGo ?_
  (simp only [xe,simprocAttr];refine ⟨_,rfl,rfl,Imp.eq ?_⟩)
  rfl
theorem fewestFaults_d (k:Nat) (xs:List Int) (hk1:1≤k) (hk6:k≤6) (hn:xs.length≤60) (hx:∀ x∈xs,0≤x∧x<9):Does Tryz.prog 76 [.int k,.sl (.ints xs)] (.imm (.int (fewN k xs))):=by
  obtain ⟨s,hs1,hs2⟩:=far_faults hk1 fun x h=>(hx x h).1
  have hd:=played_d k xs (fpS k xs xs.length) (by omega) hn (fpS_len _ _ _)
  rw [hs1] at hd
  refine spec_imm Tryz.func76 rfl Tryz.ntmps76 cfOK (fun _ _=>by kernel_rfl) rfl (Nat.le_of_ble_eq_true rfl) ?_
  intro M0 w0
  rw [Tryz.results76]
  refine amGo ?_
  ((try refine Or.inl ?_);refine ⟨_,(farthestPlan_d k xs hk1 hk6 hn hx),amF,?_⟩;refine amC ?_)
  ((try refine Or.inl ?_);refine ⟨_,hd,amF,?_⟩;refine amC ?_)
  refine amGo ?_
  (simp only [xe,simprocAttr];refine ⟨_,rfl,rfl,Imp.eq ?_⟩)
  rw [hs2]
/-- the fewest faults, and whether the arguments are right -/
def ffV (k n:Int) (xs:List Int):AV:=if pgB k n xs=true then .tup [inT (fewN k.toNat xs),boT true] else .tup [inT 0,boT false]
theorem impl_FewestFaults_d (k n:Int) (xs:List Int):Does Tryz.prog 33 [.int k,.int n,.sl (.ints xs)] (.imm (ffV k n xs)):=by
  refine spec_imm Tryz.func33 rfl Tryz.ntmps33 cfOK (fun _ _=>by kernel_rfl) rfl (Nat.le_of_ble_eq_true rfl) ?_
  intro M0 w0
  rw [Tryz.results33]
  refine amGo ?_
  ((try refine Or.inl ?_);refine ⟨_,(isPaging_d k n xs),.inl rfl,?_⟩;refine amC ?_)
  refine amGo ?_
  unfold ffV
  cases hb:pgB k n xs
  · refine awp_cond amQ (fun hd => ?_) (fun hd => ?_)
    · refine amGo ?_
      (simp only [xe,simprocAttr];refine ⟨[_,_],⟨rfl,rfl,trivial⟩,rfl,Imp.eq ?_⟩)
      rfl
    · cases hd
  · have hok:=pg_ok hb
    obtain ⟨m,rfl⟩:∃ m:Nat,k=(m:Int):=⟨k.toNat,by have:=hok.s1;omega⟩
    refine awp_cond amQ (fun hd => ?_) (fun hd => ?_)
    · cases hd
    refine amGo ?_
    ((try refine Or.inl ?_);refine ⟨_,(fewestFaults_d m xs (by have:=hok.s1;omega) (by have:=hok.s2;omega) hok.len fun x hx=>⟨(hok.all x hx).1,by have:=(hok.all x hx).2;have:=hok.n2;omega⟩),.inl rfl,?_⟩;refine amC ?_)
    refine amGo ?_
    (simp only [xe,simprocAttr];refine ⟨[_,_],⟨rfl,rfl,trivial⟩,rfl,Imp.eq ?_⟩)
    rfl
end Go.Proofs.YtjblpcgkffhgfaaGreat
