/- Plans played: the program's and the reference's, on the machine. Conditions: those that each names. -/
import Derived.Test.YtjblpcgkffhgfaaGreatGDL
import Derived.Test.YtjblpcgkffhgfaaGreatGPP
import Derived.Test.YtjblpcgkffhgfaaGreatPhase
set_option linter.all false
set_option linter.unusedSimpArgs false
set_option linter.unusedVariables false
namespace Go.Proofs.YtjblpcgkffhgfaaGreat
open Go Go.RowKit Am

/-! ### whether a plan is one -/
def pgB (k n:Int) (xs:List Int):Bool:=rng k 1 6 && rqB n xs
def plnB (n:Int) (xs ps:List Int):Bool:=decide (ps.length=xs.length) && allIn (-1) (n-1) ps
theorem pg_ok {k n:Int} {xs:List Int} (h:pgB k n xs=true):SzOK n k xs:=sz_ok h
theorem isPaging_d (k n:Int) (xs:List Int):Does Tryz.prog 55 [.int k,.int n,.sl (.ints xs)] (.imm (.bool (pgB k n xs))):=by
  refine spec_imm Tryz.func55 rfl Tryz.ntmps55 cfOK (fun _ _=>by kernel_rfl) rfl (Nat.le_of_ble_eq_true rfl) ?_
  intro M0 w0
  rw [Tryz.results55]
  refine amGo ?_
  ((try refine Or.inl ?_);refine ⟨_,(isSize_d k),.inl rfl,?_⟩;refine amC ?_)
  refine amGo ?_
  ((try refine Or.inl ?_);refine ⟨_,(fun _=>isRequests_d n xs),.inl rfl,?_⟩;refine amC ?_)
  refine amGo ?_
  (simp only [xe,simprocAttr];refine ⟨_,rfl,rfl,Imp.eq ?_⟩)
  unfold pgB
  cases rng k 1 6<;>rfl
theorem l5Takes_d (k n:Int) (xs:List Int):Does Tryz.prog 47 [.int k,.int n,.sl (.ints xs)] (.imm (.bool (pgB k n xs))):=by
  refine spec_imm Tryz.func47 rfl Tryz.ntmps47 cfOK (fun _ _=>by kernel_rfl) rfl (Nat.le_of_ble_eq_true rfl) ?_
  intro M0 w0
  rw [Tryz.results47]
  refine amGo ?_
  ((try refine Or.inl ?_);refine ⟨_,(l1In_e _ _ _),.inl rfl,?_⟩;refine amC ?_)
  refine amGo ?_
  ((try refine Or.inl ?_);refine ⟨_,(fun _=>l3Good_d n xs),.inl rfl,?_⟩;refine amC ?_)
  refine amGo ?_
  (simp only [xe,simprocAttr];refine ⟨_,rfl,rfl,Imp.eq ?_⟩)
  unfold pgB
  cases rng k 1 6<;>rfl
theorem isPlanList1_d (x n:Int) (hn : -9223372036854775807≤n∧n≤9223372036854775807):Does Tryz.prog 101 [.int x,.lf (.ip [.val (.int .i64 n)] 0)] (.imm (.bool (!rng x (-1) (n-1)))):=by
  refine spec_imm Tryz.func101 rfl Tryz.ntmps101 cfOK (fun _ _=>by kernel_rfl) rfl (Nat.le_of_ble_eq_true rfl) ?_
  intro M0 w0
  rw [Tryz.results101]
  refine amGo ?_
  ((try refine Or.inl ?_);refine ⟨_,(within_e _ _ _),.inl rfl,?_⟩;refine amC ?_)
  refine amGo ?_
  (simp only [xe,simprocAttr];refine ⟨_,rfl,rfl,Imp.eq ?_⟩)
  rfl
theorem isPlanList_d (k n:Int) (xs ps:List Int):Does Tryz.prog 51 [.int k,.int n,.sl (.ints xs),.sl (.ints ps)] (.imm (.bool (pgB k n xs && plnB n xs ps))):=by
  refine spec_imm Tryz.func51 rfl Tryz.ntmps51 cfOK (fun _ _=>by kernel_rfl) rfl (Nat.le_of_ble_eq_true rfl) ?_
  intro M0 w0
  rw [Tryz.results51]
  (refine awp_fits 2 rfl fun hf => ?_;simp only [xp,simprocAttr] at hf;simp only [xf,simprocAttr] at hf)
  (refine awp_fits 3 rfl fun hf2 => ?_;simp only [xp,simprocAttr] at hf2;simp only [xf,simprocAttr] at hf2)
  refine amGo ?_
  ((try refine Or.inl ?_);refine ⟨_,(isPaging_d k n xs),.inl rfl,?_⟩;refine amC ?_)
  refine amGo ?_
  ((try refine Or.inl ?_);refine ⟨_,(fun h=>containsFuncI_d ps _ [.ip [.val (.int .i64 n)] 0] (fun x => !rng x (-1) (n-1)) rfl fun j hj=>isPlanList1_d _ n (by
    have h1:=(pg_ok (bif_l h)).n1
    have h2:=(pg_ok (bif_l h)).n2
    omega)),.inl rfl,?_⟩;refine amC ?_)
  refine amGo ?_
  (simp only [xe,simprocAttr];refine ⟨_,rfl,rfl,Imp.eq ?_⟩)
  show AV.bool _=AV.bool _
  congr 1
  unfold plnB
  rw [List.not_any_eq_all_not]
  have e:decide ((ps.length:Int)=xs.length)=decide (ps.length=xs.length):=by rw [decide_eq_decide];omega
  cases pgB k n xs<;>simp [allIn,e]
theorem l5Plan_d (n:Int) (xs ps:List Int) (hn : -9223372036854775807≤n∧n≤9223372036854775807):Does Tryz.prog 53 [.int n,.sl (.ints xs),.sl (.ints ps)] (.imm (.bool (plnB n xs ps))):=by
  refine spec_imm Tryz.func53 rfl Tryz.ntmps53 cfOK (fun _ _=>by kernel_rfl) rfl (Nat.le_of_ble_eq_true rfl) ?_
  intro M0 w0
  rw [Tryz.results53]
  (refine awp_fits 1 rfl fun hf => ?_;simp only [xp,simprocAttr] at hf;simp only [xf,simprocAttr] at hf)
  (refine awp_fits 2 rfl fun hf2 => ?_;simp only [xp,simprocAttr] at hf2;simp only [xf,simprocAttr] at hf2)
  refine amGo ?_
  refine awp_cond amQ (fun hc => ?_) (fun hc => ?_)
  · have hl:ps.length≠xs.length:=fun e=>by simp [e] at hc
    refine amGo ?_
    (simp only [xe,simprocAttr];refine ⟨_,rfl,rfl,Imp.eq ?_⟩)
    unfold plnB
    rw [decide_eq_false hl]
    rfl
  have hl:ps.length=xs.length:=by
    by_cases h:ps.length=xs.length
    · exact h
    · exfalso
      have:¬ ((ps.length:Int)=xs.length):=by omega
      simp [this] at hc
  have hv:plnB n xs ps=allIn (-1) (n-1) ps:=by
    unfold plnB
    rw [decide_eq_true hl]
    rfl
  rw [hv]
  refine amGo ?_
  refine awp_rounds (α:=Nat) (fun k=>[(7,true,.int k)]) [0,2] (fun _=>[]) (fun k=>k≤ps.length∧∀ x∈ps.take k,rng x (-1) (n-1)=true) (fun k=>ps.length-k) 0 (by ((try simp only [xk]);(repeat (refine leK_cons ?_ ?_;first | (exact amE) | rotate_left));(try exact leK_nil rfl);(all_goals (try (simp only [xr,simprocAttr];try refine int_eq1 ?_))))) ⟨Nat.zero_le _,by simp⟩ fun k hk => ?_
  obtain ⟨hk,hp⟩:=hk
  simp only [xr,simprocAttr]
  refine amGo ?_
  refine awp_cond amQ (fun hc => ?_) (fun hc => ?_)
  · have hk':k<ps.length:=by have:=of_decide_eq_true hc;omega
    refine amGo ?_
    ((try refine Or.inl ?_);refine ⟨_,(l1In_e _ _ _),.inl rfl,?_⟩;refine amC ?_)
    refine amGo ?_
    refine awp_cond amQ (fun hd => ?_) (fun hd => ?_)
    · have hd:rng (ps.getD k 0) (-1) (n-1)=false:=by simpa using hd
      refine amGo ?_
      (simp only [xe,simprocAttr];refine ⟨_,rfl,rfl,Imp.eq ?_⟩)
      rw [allIn_no (x:=ps.getD k 0) (by rw [getD_inL hk'];exact List.getElem_mem hk') hd]
    · have hd:rng (ps.getD k 0) (-1) (n-1)=true:=by simpa using hd
      refine amGo ?_
      refine ⟨k+1,by omega,fun x hx => ?_,by omega,.inl ?_⟩
      · rw [List.take_succ_eq_append_getElem hk',List.mem_append,List.mem_singleton] at hx
        rcases hx with hx | rfl
        · exact hp x hx
        · rw [← getD_inL (d:=0) hk'];exact hd
      · ((try simp only [xk]);(repeat (refine leK_cons ?_ ?_;first | (exact amE) | rotate_left));(try exact leK_nil rfl);(all_goals (try (simp only [xr,simprocAttr];try refine int_eq1 ?_))))
  · have hk':k=ps.length:=by have:=of_decide_eq_false hc;omega
    subst hk'
    rw [List.take_length] at hp
    refine amGo ?_
    (simp only [xe,simprocAttr];refine ⟨_,rfl,rfl,Imp.eq ?_⟩)
    rw [show allIn (-1) (n-1) ps=true from List.all_eq_true.2 hp]
/-! ### lists without a number, and lists in new memory -/
theorem l5Out_d (l:List Int) (x:Int) (hn:l.length≤1000):Does Tryz.prog 93 [.sl (.ints l),.int x] (.imm (.sl (.ints (l.filter fun y => !decide (y=x))))):=by
  refine spec_imm Tryz.func93 rfl Tryz.ntmps93 cfOK (fun _ _=>by kernel_rfl) rfl (Nat.le_of_ble_eq_true rfl) ?_
  intro M0 w0
  rw [Tryz.results93]
  (refine awp_fits 0 rfl fun hf => ?_;simp only [xp,simprocAttr] at hf;simp only [xf,simprocAttr] at hf)
  refine amGo ?_
  refine awp_rounds (α:=Nat) (fun k=>[(6,true,.int k)]) [0,1,5] (fun k=>[.row 3 (.ints ((l.take k).filter fun y => !decide (y=x)))]) (fun k=>k≤l.length) (fun k=>l.length-k) 0 (by ((try simp only [xk]);(repeat (refine leK_cons ?_ ?_;first | (exact amE) | rotate_left));(refine leK_nil ?_;exact (by rfl));(all_goals (try (simp only [xr,simprocAttr];try refine int_eq1 ?_))))) (Nat.zero_le _) fun k hk => ?_
  have hl:((l.take k).filter fun y => !decide (y=x)).length≤(l.take k).length:=List.length_filter_le _ _
  rw [List.length_take] at hl
  simp only [xr,simprocAttr]
  refine amGo ?_
  refine awp_cond amQ (fun hc => ?_) (fun hc => ?_)
  · have hk':k<l.length:=by have:=of_decide_eq_true hc;omega
    have e:((l.take (k+1)).filter fun y => !decide (y=x))=((l.take k).filter fun y => !decide (y=x))++(if l.getD k 0=x then [] else [l.getD k 0]):=by
      rw [take_getD hk' 0,List.filter_append]
      congr 1
      generalize l.getD k 0=y
      by_cases h:y=x
      · rw [if_pos h];simp [h]
      · rw [if_neg h];simp [h]
    refine amGo ?_
    refine awp_cond amQ (fun hd => ?_) (fun hd => ?_)
    · have hd2:¬ l.getD k 0=x:=by simpa using hd
      rw [if_neg hd2] at e
      refine amGo ?_
      refine ⟨k+1,by omega,by omega,.inl ?_⟩
      ((try simp only [xk]);(repeat (refine leK_cons ?_ ?_;first | (exact amE) | rotate_left));(refine leK_nil ?_;exact (by rw [e]));(all_goals (try (simp only [xr,simprocAttr];try refine int_eq1 ?_))))
    · have hd2:l.getD k 0=x:=by simpa using hd
      rw [if_pos hd2,List.append_nil] at e
      refine amGo ?_
      refine ⟨k+1,by omega,by omega,.inl ?_⟩
      ((try simp only [xk]);(repeat (refine leK_cons ?_ ?_;first | (exact amE) | rotate_left));(refine leK_nil ?_;exact (by rw [e]));(all_goals (try (simp only [xr,simprocAttr];try refine int_eq1 ?_))))
  · have hk':k=l.length:=by have:=of_decide_eq_false hc;omega
    subst hk'
    rw [List.take_length]
    refine amGoR ?_
    (refine awp_frz 0 rfl ?_;simp only [xz,simprocAttr])
    refine amGo ?_
    (simp only [xe,simprocAttr];refine ⟨_,rfl,rfl,Imp.eq ?_⟩)
    rfl
theorem l1Own_d (l:List Int) (hn:l.length≤1000):Does Tryz.prog 106 [.sl (.ints l)] (.imm (.sl (.ints l))):=by
  refine spec_imm Tryz.func106 rfl Tryz.ntmps106 cfOK (fun _ _=>by kernel_rfl) rfl (Nat.le_of_ble_eq_true rfl) ?_
  intro M0 w0
  rw [Tryz.results106]
  refine amGoR ?_
  (refine awp_frz 0 rfl ?_;simp only [xz,simprocAttr])
  refine amGo ?_
  (simp only [xe,simprocAttr];refine ⟨_,rfl,rfl,Imp.eq ?_⟩)
  rfl
/-! ### plans -/
abbrev inT (x:Int):TV := .one (.b (.val (.int .i64 x)))
abbrev boT (b:Bool):TV := .one (.b (.val (.bool b)))
/-- what a plan comes to: the pages behind each place, the faults, and whether it is possible -/
def plV (e:B):Option PlS→AV
  | none => .tup [.one (.b e),inT 0,boT false]
  | some s => .tup [.one (.b (.sl (.ii s.outs))),inT s.faults,boT true]
theorem idx_yes {c:List Int} {l:Int} (h:c.contains l=true):idxOf (fun y=>decide (l=y)) c=((c.idxOf l:Nat):Int)∧c.idxOf l<c.length:=by
  have hm:=List.contains_iff_mem.1 h
  have hl:=List.idxOf_lt_length_of_mem hm
  refine ⟨idxOf_some hl (by simp) fun x hx => ?_,hl⟩
  obtain ⟨i,hi,rfl⟩:=List.getElem_of_mem hx
  rw [List.getElem_take]
  have hi2:i<c.idxOf l:=by rw [List.length_take] at hi;omega
  have h3:=List.not_of_lt_findIdx (p:=(· == l)) (xs:=c) hi2
  have h4:¬ c[i]'(by omega)=l:=by simpa using h3
  exact decide_eq_false fun e=>h4 e.symm
theorem idx_no {c:List Int} {l:Int} (h:c.contains l=false):idxOf (fun y=>decide (l=y)) c = -1:=idxOf_none fun x hx=>decide_eq_false fun e=>by
  subst e
  rw [List.contains_iff_mem.2 hx] at h
  cases h
set_option maxHeartbeats 4000000 in
theorem played_d (k:Int) (xs ps:List Int) (hk0:0≤k) (hn:xs.length≤60) (hp:ps.length=xs.length):Does Tryz.prog 52 [.int k,.sl (.ints xs),.sl (.ints ps)] (.imm (plV (.val (.slice none 0 0)) (plRun k xs ps xs.length))):=by
  refine spec_imm Tryz.func52 rfl Tryz.ntmps52 cfOK (fun _ _=>by kernel_rfl) rfl (Nat.le_of_ble_eq_true rfl) ?_
  intro M0 w0
  rw [Tryz.results52]
  refine amGo ?_
  (refine awp_toT 1 3 [] rfl rfl rfl ?_;simp only [xu,simprocAttr])
  refine awp_rounds (α:=Nat×PlS) (fun a=>[(20,true,.int a.1),(11,true,.int a.2.faults)]) [0,1,2,9,10,18,19] (fun a=>[.row 3 (.ints a.2.now),.tree [24,3] (.ii a.2.outs)]) (fun a=>a.1≤xs.length∧plRun k xs ps a.1=some a.2) (fun a=>xs.length-a.1) (0,⟨[],[],0⟩) (by ((try simp only [xk]);(repeat (refine leK_cons ?_ ?_;first | (exact amE) | rotate_left));(refine leK_nil ?_;exact (by rfl));(all_goals (try (simp only [xr,simprocAttr];try refine int_eq1 ?_))))) ⟨Nat.zero_le _,rfl⟩ fun ⟨i,s⟩ hi => ?_
  obtain ⟨hi,hs⟩:=hi
  have hlen:=plRun_len hk0 i s hs
  have hnx:=plRun_next hs
  have hnd:=plRun_nodup i s hs
  obtain ⟨now,outs,faults⟩:=s
  dsimp only at hi hs hlen hnx hnd ⊢
  obtain ⟨hl1,hl2,hl3⟩:=hlen
  have hl4:now.length≤60:=by
    have:=plRun_short i _ hs
    dsimp only at this
    omega
  simp only [xr,simprocAttr]
  refine amGo ?_
  refine awp_cond amQ (fun hc => ?_) (fun hc => ?_)
  · have hi':i<xs.length:=by have:=of_decide_eq_true hc;omega
    have hdead:plStep k now (xs.getD i 0) (ps.getD i 0)=none→plRun k xs ps xs.length=none:=fun h=>plRun_dead (by rw [hnx,h]) _ hi'
    refine amGo ?_
    ((try refine Or.inl ?_);refine ⟨_,(contains_d now (xs.getD i 0)),.inl rfl,?_⟩;refine amC ?_)
    refine amGo ?_
    refine awp_cond amQ (fun hq => ?_) (fun hq => ?_)
    · rw [hq,if_pos rfl] at hnx
      refine amGo ?_
      refine awp_cond amQ (fun hd => ?_) (fun hd => ?_)
      · have hd2:0≤ps.getD i 0:=by simpa using hd
        refine amGo ?_
        (simp only [xe,simprocAttr];refine ⟨[_,_,_],⟨rfl,rfl,rfl,trivial⟩,rfl,Imp.eq ?_⟩)
        rw [hdead (plStep_hit0 hq hd2)]
        rfl
      · have hd2:¬ 0≤ps.getD i 0:=by simpa using hd
        rw [plStep_hit hq hd2] at hnx
        refine amGo ?_
        (refine .inr (.inl (callW_b (rising_h now (by omega)) rfl rfl rfl rfl rfl rfl rfl ?_));refine amC ?_)
        refine amGo ?_
        refine ⟨(i+1,⟨now,outs++[rs now],faults+0⟩),by omega,hnx,by omega,.inr ⟨2,Nat.le_of_ble_eq_true rfl,leT_of ?_ rfl rfl rfl⟩⟩
        ((try simp only [xk]);(repeat (refine leK_cons ?_ ?_;first | (exact amE) | rotate_left));(refine leK_nil ?_;exact (by rfl));(all_goals (try (simp only [xr,simprocAttr];try refine int_eq1 ?_))))
    · rw [hq,if_neg (by decide)] at hnx
      have hel:(now.eraseIdx (now.idxOf (ps.getD i 0))).length≤now.length:=List.length_eraseIdx_le _ _
      have htl:(now.eraseIdx (now.idxOf (ps.getD i 0))++[xs.getD i 0]).length=(now.eraseIdx (now.idxOf (ps.getD i 0))).length+1:=by simp
      refine amGo ?_
      ((try refine Or.inl ?_);refine ⟨_,(index_d now (ps.getD i 0)),.inl rfl,?_⟩;refine amC ?_)
      refine amGo ?_
      cases hw:now.contains (ps.getD i 0)
      · rw [idx_no hw]
        rw [idx_out hw] at hel htl
        refine awp_cond amQ (fun hd => ?_) (fun hd => ?_)
        · exact absurd hd (by decide)
        refine amGo ?_
        refine awp_cond amQ (fun he => ?_) (fun he => ?_)
        · have he2:0≤ps.getD i 0:=by simpa using he
          refine amGo ?_
          (simp only [xe,simprocAttr];refine ⟨[_,_,_],⟨rfl,rfl,rfl,trivial⟩,rfl,Imp.eq ?_⟩)
          rw [hdead (plStep_miss0 hq hw he2)]
          rfl
        · have he2:¬ 0≤ps.getD i 0:=by simpa using he
          refine amGo ?_
          refine awp_cond amQ (fun hg => ?_) (fun hg => ?_)
          · have hg2:k<((now++[xs.getD i 0]).length:Int):=by have:=of_decide_eq_true hg;omega
            refine amGo ?_
            (simp only [xe,simprocAttr];refine ⟨[_,_,_],⟨rfl,rfl,rfl,trivial⟩,rfl,Imp.eq ?_⟩)
            rw [hdead (plStep_miss1 hq (by rw [idx_out hw];exact hg2))]
            rfl
          · have hg2:¬ k<((now++[xs.getD i 0]).length:Int):=by have:=of_decide_eq_false hg;omega
            rw [plStep_miss hq (.inr he2) (by rw [idx_out hw];exact hg2),idx_out hw] at hnx
            refine amGo ?_
            (refine .inr (.inl (callW_b (rising_h (now++[xs.getD i 0]) (by omega)) rfl rfl rfl rfl rfl rfl rfl ?_));refine amC ?_)
            refine amGo ?_
            refine ⟨(i+1,⟨now++[xs.getD i 0],outs++[rs (now++[xs.getD i 0])],faults+1⟩),by omega,hnx,by omega,.inr ⟨2,Nat.le_of_ble_eq_true rfl,leT_of ?_ rfl rfl rfl⟩⟩
            ((try simp only [xk]);(repeat (refine leK_cons ?_ ?_;first | (exact amE) | rotate_left));(refine leK_nil ?_;exact (by rfl));(all_goals (try (simp only [xr,simprocAttr];try refine int_eq1 ?_))))
      · obtain ⟨hx1,hx2⟩:=idx_yes hw
        rw [hx1]
        refine awp_cond amQ (fun hd => ?_) (fun hd => ?_)
        · refine amGo ?_
          (refine .inr (.inl (callW_a [0] (delete_h now (now.idxOf (ps.getD i 0)) hx2) rfl rfl rfl rfl ⟨rfl,trivial⟩ rfl rfl rfl rfl ?_));refine amC ?_)
          refine amGo ?_
          refine awp_cond amQ (fun hg => ?_) (fun hg => ?_)
          · have hg2:k<((now.eraseIdx (now.idxOf (ps.getD i 0))++[xs.getD i 0]).length:Int):=by have:=of_decide_eq_true hg;omega
            refine amGo ?_
            (simp only [xe,simprocAttr];refine ⟨[_,_,_],⟨rfl,rfl,rfl,trivial⟩,rfl,Imp.eq ?_⟩)
            rw [hdead (plStep_miss1 hq hg2)]
            rfl
          · have hg2:¬ k<((now.eraseIdx (now.idxOf (ps.getD i 0))++[xs.getD i 0]).length:Int):=by have:=of_decide_eq_false hg;omega
            rw [plStep_miss hq (.inl hw) hg2] at hnx
            refine amGo ?_
            (refine .inr (.inl (callW_b (rising_h (now.eraseIdx (now.idxOf (ps.getD i 0))++[xs.getD i 0]) (by omega)) rfl rfl rfl rfl rfl rfl rfl ?_));refine amC ?_)
            refine amGo ?_
            refine ⟨(i+1,⟨now.eraseIdx (now.idxOf (ps.getD i 0))++[xs.getD i 0],outs++[rs (now.eraseIdx (now.idxOf (ps.getD i 0))++[xs.getD i 0])],faults+1⟩),by omega,hnx,by omega,.inr ⟨2,Nat.le_of_ble_eq_true rfl,leT_of ?_ rfl rfl rfl⟩⟩
            ((try simp only [xk]);(repeat (refine leK_cons ?_ ?_;first | (exact amE) | rotate_left));(refine leK_nil ?_;exact (by rfl));(all_goals (try (simp only [xr,simprocAttr];try refine int_eq1 ?_))))
        · exact absurd (of_decide_eq_false hd) (by omega)
  · have hi':i=xs.length:=by have:=of_decide_eq_false hc;omega
    subst hi'
    refine amGoR ?_
    (refine awp_frzT 1 rfl ?_;simp only [xz,simprocAttr])
    refine amGo ?_
    (simp only [xe,simprocAttr];refine ⟨[_,_,_],⟨rfl,rfl,rfl,trivial⟩,rfl,Imp.eq ?_⟩)
    rw [hs]
    rfl
set_option maxHeartbeats 4000000 in
theorem l5Run_d (k:Int) (xs ps:List Int) (hk0:0≤k) (hn:xs.length≤60) (hp:ps.length=xs.length) (hxs:∀ x∈xs,0≤x):Does Tryz.prog 54 [.int k,.sl (.ints xs),.sl (.ints ps)] (.imm (plV (.sl (.ii [])) (plRun k xs ps xs.length))):=by
  refine spec_imm Tryz.func54 rfl Tryz.ntmps54 cfOK (fun _ _=>by kernel_rfl) rfl (Nat.le_of_ble_eq_true rfl) ?_
  intro M0 w0
  rw [Tryz.results54]
  refine amG1 ?_
  refine amG1 ?_
  (refine awp_frz 1 rfl ?_;simp only [xz,simprocAttr])
  refine amGo ?_
  refine awp_rounds (α:=Nat×PlS) (fun a=>[(12,true,.int a.1),(10,true,.int a.2.faults),(11,true,.sl (.ints (rs a.2.now)))]) [0,1,2,9] (fun a=>[.row 24 (.ii a.2.outs),.gone]) (fun a=>a.1≤xs.length∧plRun k xs ps a.1=some a.2) (fun a=>xs.length-a.1) (0,⟨[],[],0⟩) (by ((try simp only [xk]);(repeat (refine leK_cons ?_ ?_;first | (exact amE) | rotate_left));(refine leK_nil ?_;exact (by rfl));(all_goals (try (simp only [xr,simprocAttr];try refine int_eq1 ?_))));all_goals (try simp [rs_nil])) ⟨Nat.zero_le _,rfl⟩ fun ⟨i,s⟩ hi => ?_
  obtain ⟨hi,hs⟩:=hi
  have hlen:=plRun_len hk0 i s hs
  have hnx:=plRun_next hs
  have hnd:=plRun_nodup i s hs
  have hps:=plRun_pos hxs i s hi hs
  have hl4:=plRun_short i s hs
  obtain ⟨now,outs,faults⟩:=s
  dsimp only at hi hs hlen hnx hnd hps hl4 ⊢
  obtain ⟨hl1,hl2,hl3⟩:=hlen
  have hrn:=rs_perm hnd
  simp only [xr,simprocAttr]
  refine amGo ?_
  refine awp_cond amQ (fun hc => ?_) (fun hc => ?_)
  · have hi':i<xs.length:=by have:=of_decide_eq_true hc;omega
    have hdead:plStep k now (xs.getD i 0) (ps.getD i 0)=none→plRun k xs ps xs.length=none:=fun h=>plRun_dead (by rw [hnx,h]) _ hi'
    have hel:(now.eraseIdx (now.idxOf (ps.getD i 0))).length≤now.length:=List.length_eraseIdx_le _ _
    have her:=rs_perm (erase_nodup hnd (now.idxOf (ps.getD i 0)))
    refine amGo ?_
    ((try refine Or.inl ?_);refine ⟨_,(l1Has_d (rs now) (xs.getD i 0)),.inl rfl,?_⟩;refine amC ?_)
    rw [rs_has]
    refine amGo ?_
    cases hq:now.contains (xs.getD i 0)
    · rw [hq,if_neg (by decide)] at hnx
      have htl:(rs (now.eraseIdx (now.idxOf (ps.getD i 0))++[xs.getD i 0])).length=(now.eraseIdx (now.idxOf (ps.getD i 0))++[xs.getD i 0]).length:=by
        refine rs_perm ?_
        rw [List.nodup_append]
        refine ⟨erase_nodup hnd _,by simp,fun x hx y hy => ?_⟩
        rw [List.mem_singleton] at hy
        subst hy
        intro e
        subst e
        have h1:=List.contains_iff_mem.2 ((erase_mem hnd).1 hx).1
        rw [hq] at h1
        cases h1
      have htm:(now.eraseIdx (now.idxOf (ps.getD i 0))++[xs.getD i 0]).length=(now.eraseIdx (now.idxOf (ps.getD i 0))).length+1:=by simp
      refine awp_cond amQ (fun hd => ?_) (fun hd => ?_)
      · have hd2:0≤ps.getD i 0:=by simpa using hd
        refine amGo ?_
        ((try refine Or.inl ?_);refine ⟨_,(l1Has_d (rs now) (ps.getD i 0)),.inl rfl,?_⟩;refine amC ?_)
        rw [rs_has]
        refine amGo ?_
        cases hw:now.contains (ps.getD i 0)
        · refine awp_cond amQ (fun he => ?_) (fun he => ?_)
          · refine amGoR ?_
            (refine awp_frz 2 rfl ?_;simp only [xz,simprocAttr])
            refine amGo ?_
            (simp only [xe,simprocAttr];refine ⟨[_,_,_],⟨rfl,rfl,rfl,trivial⟩,rfl,Imp.eq ?_⟩)
            rw [hdead (plStep_miss0 hq hw hd2)]
            rfl
          · cases he
        · refine awp_cond amQ (fun he => ?_) (fun he => ?_)
          · cases he
          refine amGo ?_
          ((try refine Or.inl ?_);refine ⟨_,(l5Out_d (rs now) (ps.getD i 0) (by omega)),amF,?_⟩;refine amC ?_)
          rw [rs_erase hnd]
          refine amGo ?_
          refine awp_cond amQ (fun hx => ?_) (fun hx => ?_)
          · refine amGo ?_
            ((try refine Or.inl ?_);refine ⟨_,(l1Put_d (rs (now.eraseIdx (now.idxOf (ps.getD i 0)))) (xs.getD i 0) (by omega)),amF,?_⟩;refine amC ?_)
            rw [rs_put]
            refine amGo ?_
            refine awp_cond amQ (fun hg => ?_) (fun hg => ?_)
            · have hg2:k<((now.eraseIdx (now.idxOf (ps.getD i 0))++[xs.getD i 0]).length:Int):=by have:=of_decide_eq_true hg;omega
              refine amGoR ?_
              (refine awp_frz 2 rfl ?_;simp only [xz,simprocAttr])
              refine amGo ?_
              (simp only [xe,simprocAttr];refine ⟨[_,_,_],⟨rfl,rfl,rfl,trivial⟩,rfl,Imp.eq ?_⟩)
              rw [hdead (plStep_miss1 hq hg2)]
              rfl
            · have hg2:¬ k<((now.eraseIdx (now.idxOf (ps.getD i 0))++[xs.getD i 0]).length:Int):=by have:=of_decide_eq_false hg;omega
              rw [plStep_miss hq (.inl hw) hg2] at hnx
              refine amGo ?_
              ((try refine Or.inl ?_);refine ⟨_,(l1Own_d (rs (now.eraseIdx (now.idxOf (ps.getD i 0))++[xs.getD i 0])) (by omega)),amF,?_⟩;refine amC ?_)
              refine amGo ?_
              refine ⟨(i+1,⟨now.eraseIdx (now.idxOf (ps.getD i 0))++[xs.getD i 0],outs++[rs (now.eraseIdx (now.idxOf (ps.getD i 0))++[xs.getD i 0])],faults+1⟩),by omega,hnx,by omega,.inl ?_⟩
              ((try simp only [xk]);(repeat (refine leK_cons ?_ ?_;first | (exact amE) | rotate_left));(refine leK_nil ?_;exact (by rfl));(all_goals (try (simp only [xr,simprocAttr];try refine int_eq1 ?_))))
          · cases hx
      · have hd2:¬ 0≤ps.getD i 0:=by simpa using hd
        have hw:=not_has hps hd2
        rw [idx_out hw] at hel her htl htm
        refine amGo ?_
        refine awp_cond amQ (fun hx => ?_) (fun hx => ?_)
        · refine amGo ?_
          ((try refine Or.inl ?_);refine ⟨_,(l1Put_d (rs now) (xs.getD i 0) (by omega)),amF,?_⟩;refine amC ?_)
          rw [rs_put]
          refine amGo ?_
          refine awp_cond amQ (fun hg => ?_) (fun hg => ?_)
          · have hg2:k<((now++[xs.getD i 0]).length:Int):=by have:=of_decide_eq_true hg;omega
            refine amGoR ?_
            (refine awp_frz 2 rfl ?_;simp only [xz,simprocAttr])
            refine amGo ?_
            (simp only [xe,simprocAttr];refine ⟨[_,_,_],⟨rfl,rfl,rfl,trivial⟩,rfl,Imp.eq ?_⟩)
            rw [hdead (plStep_miss1 hq (by rw [idx_out hw];exact hg2))]
            rfl
          · have hg2:¬ k<((now++[xs.getD i 0]).length:Int):=by have:=of_decide_eq_false hg;omega
            rw [plStep_miss hq (.inr hd2) (by rw [idx_out hw];exact hg2),idx_out hw] at hnx
            refine amGo ?_
            ((try refine Or.inl ?_);refine ⟨_,(l1Own_d (rs (now++[xs.getD i 0])) (by omega)),amF,?_⟩;refine amC ?_)
            refine amGo ?_
            refine ⟨(i+1,⟨now++[xs.getD i 0],outs++[rs (now++[xs.getD i 0])],faults+1⟩),by omega,hnx,by omega,.inl ?_⟩
            ((try simp only [xk]);(repeat (refine leK_cons ?_ ?_;first | (exact amE) | rotate_left));(refine leK_nil ?_;exact (by rfl));(all_goals (try (simp only [xr,simprocAttr];try refine int_eq1 ?_))))
        · cases hx
    · rw [hq,if_pos rfl] at hnx
      refine awp_cond amQ (fun hd => ?_) (fun hd => ?_)
      · have hd2:0≤ps.getD i 0:=by simpa using hd
        refine amGo ?_
        refine Or.inl ⟨.bool false,.inl rfl,?_⟩
        simp only [xr,simprocAttr]
        refine amS ?_
        refine amGo ?_
        refine awp_cond amQ (fun he => ?_) (fun he => ?_)
        · refine amGoR ?_
          (refine awp_frz 2 rfl ?_;simp only [xz,simprocAttr])
          refine amGo ?_
          (simp only [xe,simprocAttr];refine ⟨[_,_,_],⟨rfl,rfl,rfl,trivial⟩,rfl,Imp.eq ?_⟩)
          rw [hdead (plStep_hit0 hq hd2)]
          rfl
        · cases he
      · have hd2:¬ 0≤ps.getD i 0:=by simpa using hd
        rw [plStep_hit hq hd2] at hnx
        refine amGo ?_
        refine awp_cond amQ (fun hx => ?_) (fun hx => ?_)
        · cases hx
        refine amGo ?_
        refine awp_cond amQ (fun hg => ?_) (fun hg => ?_)
        · have:=of_decide_eq_true hg
          omega
        refine amGo ?_
        ((try refine Or.inl ?_);refine ⟨_,(l1Own_d (rs now) (by omega)),amF,?_⟩;refine amC ?_)
        refine amGo ?_
        refine ⟨(i+1,⟨now,outs++[rs now],faults+0⟩),by omega,hnx,by omega,.inl ?_⟩
        ((try simp only [xk]);(repeat (refine leK_cons ?_ ?_;first | (exact amE) | rotate_left));(refine leK_nil ?_;exact (by rfl));(all_goals (try (simp only [xr,simprocAttr];try refine int_eq1 ?_))))
  · have hi':i=xs.length:=by have:=of_decide_eq_false hc;omega
    subst hi'
    refine amGoR ?_
    (refine awp_frz 0 rfl ?_;simp only [xz,simprocAttr])
    refine amGo ?_
    (simp only [xe,simprocAttr];refine ⟨[_,_,_],⟨rfl,rfl,rfl,trivial⟩,rfl,Imp.eq ?_⟩)
    rw [hs]
    rfl
end Go.Proofs.YtjblpcgkffhgfaaGreat
