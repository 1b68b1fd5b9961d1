/- Uses of pages, intervals, marks and their bounds, on the machine: the program's and the reference's. Conditions: those that each names. -/
import Derived.Test.YtjblpcgkffhgfaaGreatGPP
import Derived.Test.YtjblpcgkffhgfaaGreatPlay
import Derived.Test.YtjblpcgkffhgfaaGreatMR
import Derived.Test.YtjblpcgkffhgfaaGreatKitG
set_option linter.all false
set_option linter.unusedSimpArgs false
set_option linter.unusedVariables false
namespace Go.Proofs.YtjblpcgkffhgfaaGreat
open Go Go.RowKit Am

theorem l5Use_d (xs:List Int) (a:Nat) (p:Int) (h:a<xs.length):Does Tryz.prog 142 [.sl (.ints xs),.int a,.int p] (.imm (.int (useP xs a p))):=by
  have hg:=use_gt xs a p
  have hle:=use_le p h
  refine spec_imm Tryz.func142 rfl Tryz.ntmps142 cfOK (fun _ _=>by kernel_rfl) rfl (Nat.le_of_ble_eq_true rfl) ?_
  intro M0 w0
  rw [Tryz.results142]
  (refine awp_fits 0 rfl fun hf => ?_;simp only [xp,simprocAttr] at hf;simp only [xf,simprocAttr] at hf)
  refine amGo ?_
  refine awp_rounds (α:=Nat) (fun k=>[(7,true,.int k)]) [0,2] (fun _=>[]) (fun k=>a+1≤k∧k≤useP xs a p) (fun k=>useP xs a p-k) (a+1) (by ((try simp only [xk]);(repeat (refine leK_cons ?_ ?_;first | (exact amE) | rotate_left));(try exact leK_nil rfl);(all_goals (try (simp only [xr,simprocAttr];try refine int_eq1 ?_))))) ⟨Nat.le_refl _,hg⟩ fun k hk => ?_
  obtain ⟨hk1,hk2⟩:=hk
  simp only [xr,simprocAttr]
  refine amGo ?_
  refine awp_cond amQ (fun hc => ?_) (fun hc => ?_)
  · have hk':k<useP xs a p:=by
      rcases Nat.lt_or_ge k (useP xs a p) with h1 | h1
      · exact h1
      · exfalso
        obtain rfl:k=useP xs a p:=by omega
        by_cases h2:useP xs a p<xs.length
        · have h3:=use_at h2
          rw [decide_eq_true (show ((useP xs a p:Nat):Int)<xs.length by omega),h3] at hc
          simp at hc
        · rw [decide_eq_false (show ¬ ((useP xs a p:Nat):Int)<xs.length by omega)] at hc
          cases hc
    refine amGo ?_
    refine ⟨k+1,by omega,by omega,by omega,.inl ?_⟩
    ((try simp only [xk]);(repeat (refine leK_cons ?_ ?_;first | (exact amE) | rotate_left));(try exact leK_nil rfl);(all_goals (try (simp only [xr,simprocAttr];try refine int_eq1 ?_))))
  · have hk':k=useP xs a p:=by
      rcases Nat.lt_or_ge k (useP xs a p) with h1 | h1
      · exfalso
        have h2:=use_ne (xs:=xs) (a:=a) (j:=k) (p:=p) (by omega) h1 (by omega)
        rw [decide_eq_true (show ((k:Nat):Int)<xs.length by omega)] at hc
        simp [h2] at hc
        exact h2 (by simpa using hc)
      · omega
    subst hk'
    refine amGo ?_
    (simp only [xe,simprocAttr];refine ⟨_,rfl,rfl,Imp.eq ?_⟩)
    rfl
theorem lastUses_h (xs:List Int) (hn:xs.length≤1000):DoesH Tryz.prog 168 [.sl (.ints xs)] [] [] (.lf (.own 0)) [.row 3 (.ints (lsL xs xs.length))]:=by
  refine spec_hB Tryz.func168 rfl Tryz.ntmps168 cfOK (fun _ _=>by kernel_rfl) rfl rfl rfl ?_
  intro M0 w0 S φ0
  rw [Tryz.results168]
  refine amGo ?_
  refine awp_rounds (α:=Nat) (fun k=>[(10,true,.int k)]) [0,3,8,9] (fun k=>[.row 3 (.ints (lsL xs k))]) (fun k=>k≤xs.length) (fun k=>xs.length-k) 0 (by ((try simp only [xk]);(repeat (refine leK_cons ?_ ?_;first | (exact amE) | rotate_left));(refine leK_nil ?_;exact (by rfl));(all_goals (try (simp only [xr,simprocAttr];try refine int_eq1 ?_))))) (Nat.zero_le _) fun k hk => ?_
  have hl:=lsL_len xs k
  simp only [xr,simprocAttr]
  refine amGo ?_
  refine awp_cond amQ (fun hc => ?_) (fun hc => ?_)
  · have hk':k<xs.length:=by have:=of_decide_eq_true hc;omega
    have hnx:=lsL_next xs k
    have hle:=lstN_le xs (xs.getD k 0) k
    refine amGo ?_
    refine awp_rounds (α:=Nat) (fun j=>[(6,true,.int ((j:Int)-1))]) [0,3,4,5,8,9,10] (fun _=>[.row 3 (.ints (lsL xs k))]) (fun j=>lstN xs (xs.getD k 0) k≤j∧j≤k) (fun j=>j-lstN xs (xs.getD k 0) k) k (by ((try simp only [xk]);(repeat (refine leK_cons ?_ ?_;first | (exact amE) | rotate_left));(refine leK_nil ?_;exact (by rfl));(all_goals (try (simp only [xr,simprocAttr];try refine int_eq1 ?_))))) ⟨hle,Nat.le_refl _⟩ fun j hj => ?_
    obtain ⟨hj1,hj2⟩:=hj
    simp only [xr,simprocAttr]
    rcases Nat.eq_zero_or_pos j with h0 | h0
    · subst h0
      have e0:lstN xs (xs.getD k 0) k=0:=by omega
      rw [e0] at hnx
      refine amGo ?_
      refine awp_cond amQ (fun hd => ?_) (fun hd => ?_)
      · cases hd
      refine amGo ?_
      refine ⟨k+1,by omega,by omega,.inl ?_⟩
      ((try simp only [xk]);(repeat (refine leK_cons ?_ ?_;first | (exact amE) | rotate_left));(refine leK_nil ?_;exact (by rw [hnx];rfl));(all_goals (try (simp only [xr,simprocAttr];try refine int_eq1 ?_))))
    · obtain ⟨i,rfl⟩:∃ i,j=i+1:=⟨j-1,by omega⟩
      have e1:(((i+1:Nat):Int)-1)=(i:Int):=by omega
      rw [e1]
      refine amGo ?_
      refine awp_cond amQ (fun hd => ?_) (fun hd => ?_)
      · have hd2:xs.getD i 0≠xs.getD k 0:=by simpa using hd
        have hlt:lstN xs (xs.getD k 0) k≠i+1:=fun e=>by
          have:=lstN_at (xs:=xs) (p:=xs.getD k 0) (i:=k) (by omega)
          rw [e] at this
          exact hd2 this
        refine amGo ?_
        refine ⟨i,by omega,by omega,by omega,.inl ?_⟩
        ((try simp only [xk]);(repeat (refine leK_cons ?_ ?_;first | (exact amE) | rotate_left));(refine leK_nil ?_;exact (by rfl));(all_goals (try (simp only [xr,simprocAttr];try refine int_eq1 ?_))))
      · have hd2:xs.getD i 0=xs.getD k 0:=by simpa using hd
        have heq:lstN xs (xs.getD k 0) k=i+1:=by
          rcases Nat.lt_or_ge i (lstN xs (xs.getD k 0) k) with h1 | h1
          · omega
          · exact absurd hd2 (lstN_ne h1 (by omega))
        rw [heq,e1] at hnx
        refine amGo ?_
        refine ⟨k+1,by omega,by omega,.inl ?_⟩
        ((try simp only [xk]);(repeat (refine leK_cons ?_ ?_;first | (exact amE) | rotate_left));(refine leK_nil ?_;exact (by rw [hnx]));(all_goals (try (simp only [xr,simprocAttr];try refine int_eq1 ?_))))
  · have hk':k=xs.length:=by have:=of_decide_eq_false hc;omega
    subst hk'
    refine amGo ?_
    (simp only [ends_normal,ends_ret];refine retH_1 [0] rfl ⟨rfl,trivial⟩ rfl rfl rfl rfl rfl ?_;try rfl)
theorem nextUses_h (xs:List Int) (hn:xs.length≤1000) (hn0:0<xs.length):DoesH Tryz.prog 137 [.sl (.ints xs)] [] [] (.lf (.own 0)) [.row 3 (.ints (nxL xs))]:=by
  have hll:=lsL_len xs xs.length
  refine spec_hB Tryz.func137 rfl Tryz.ntmps137 cfOK (fun _ _=>by kernel_rfl) rfl rfl rfl ?_
  intro M0 w0 S φ0
  rw [Tryz.results137]
  refine amGo ?_
  (refine .inr (.inl (callW_b (repH (-1) xs.length hn0 hn) rfl rfl rfl rfl rfl rfl rfl ?_));refine amC ?_)
  rw [← nxK_zero]
  refine amGo ?_
  (refine .inr (.inl (callW_b (lastUses_h xs hn) rfl rfl rfl rfl rfl rfl rfl ?_));refine amC ?_)
  refine amGo ?_
  refine awp_rounds (α:=Nat) (fun k=>[(13,true,.int k)]) [0,3,11,12] (fun k=>[.row 3 (.ints (nxK xs k)),.row 3 (.ints (lsL xs xs.length))]) (fun k=>k≤xs.length) (fun k=>xs.length-k) 0 (by ((try simp only [xk]);(repeat (refine leK_cons ?_ ?_;first | (exact amE) | rotate_left));(refine leK_nil ?_;exact (by rfl));(all_goals (try (simp only [xr,simprocAttr];try refine int_eq1 ?_))))) (Nat.zero_le _) fun k hk => ?_
  have hl:=nxK_len xs k
  simp only [xr,simprocAttr]
  refine amGo ?_
  refine awp_cond amQ (fun hc => ?_) (fun hc => ?_)
  · have hk':k<xs.length:=by have:=of_decide_eq_true hc;omega
    have hat:=lsL_at (xs:=xs) hk'
    have hle:=lstN_le xs (xs.getD k 0) k
    refine amGo ?_
    rw [hat]
    refine awp_cond amQ (fun hd => ?_) (fun hd => ?_)
    · have hd2:lstN xs (xs.getD k 0) k≠0:=by have:=of_decide_eq_true hd;omega
      obtain ⟨j,hj⟩:∃ j,lstN xs (xs.getD k 0) k=j+1:=⟨lstN xs (xs.getD k 0) k-1,by omega⟩
      have hset:=nxK_set hk' hd2
      rw [hj,show j+1-1=j by omega] at hset
      rw [hj,show (((j+1:Nat):Int)-1)=(j:Int) by omega]
      refine amGo ?_
      refine ⟨k+1,by omega,by omega,.inl ?_⟩
      ((try simp only [xk]);(repeat (refine leK_cons ?_ ?_;first | (exact amE) | rotate_left));(refine leK_nil ?_;exact (by rw [← hset]));(all_goals (try (simp only [xr,simprocAttr];try refine int_eq1 ?_))))
    · have hd2:lstN xs (xs.getD k 0) k=0:=by have:=of_decide_eq_false hd;omega
      have hset:=nxK_same hk' hd2
      refine amGo ?_
      refine ⟨k+1,by omega,by omega,.inl ?_⟩
      ((try simp only [xk]);(repeat (refine leK_cons ?_ ?_;first | (exact amE) | rotate_left));(refine leK_nil ?_;exact (by rw [hset]));(all_goals (try (simp only [xr,simprocAttr];try refine int_eq1 ?_))))
  · have hk':k=xs.length:=by have:=of_decide_eq_false hc;omega
    subst hk'
    rw [nxK_end]
    refine amGo ?_
    (simp only [ends_normal,ends_ret];refine retH_1 [0] rfl ⟨rfl,trivial⟩ rfl rfl rfl rfl rfl ?_;try rfl)
theorem nextUses_d (xs:List Int) (hn:xs.length≤1000) (hn0:0<xs.length):Does Tryz.prog 137 [.sl (.ints xs)] (.imm (.sl (.ints (nxL xs)))):=imm_of (nextUses_h xs hn hn0)
set_option maxHeartbeats 2000000 in
theorem gain_d (k:Int) (xs:List Int) (last:Int) (m:Nat) (hk0:0≤k) (hk6:k≤6) (hn:xs.length≤60) (hm:m<xs.length):Does Tryz.prog 88 [.int k,.sl (.ints xs),.int last,.int m] (.imm (.int (gnV k xs last m))):=by
  have hb:=gn0_bd hk0 hk6 hn m
  have hll:(nxL xs).length=xs.length:=by simp [nxL]
  have htl:(xs.take (m+1)).length≤60:=by rw [List.length_take];omega
  have hr:=rs_short (k:=m+1) hn
  have e1:((m:Int)+1).toNat=m+1:=by omega
  refine spec_imm Tryz.func88 rfl Tryz.ntmps88 cfOK (fun _ _=>by kernel_rfl) rfl (Nat.le_of_ble_eq_true rfl) ?_
  intro M0 w0
  rw [Tryz.results88]
  refine amGo ?_
  rw [e1]
  ((try refine Or.inl ?_);refine ⟨_,(rising_d (xs.take (m+1)) (by omega)),amF,?_⟩;refine amC ?_)
  refine amGo ?_
  rw [show (((rs (xs.take (m+1))).length:Int)-k)=gn0 k xs m from rfl]
  ((try refine Or.inl ?_);refine ⟨_,(nextUses_d xs (by omega) (by omega)),amF,?_⟩;refine amC ?_)
  refine amGo ?_
  refine awp_rounds (α:=Nat) (fun i=>[(23,true,.int i),(9,true,.int (gn0 k xs m-sumN (hitI xs last m) i))]) [2,3,21,22] (fun _=>[]) (fun i=>i≤xs.length) (fun i=>xs.length-i) 0 (by ((try simp only [xk]);(repeat (refine leK_cons ?_ ?_;first | (exact amE) | rotate_left));(try exact leK_nil rfl);(all_goals (try (simp only [xr,simprocAttr];try refine int_eq1 ?_))));all_goals (simp [sumN])) (Nat.zero_le _) fun i hi => ?_
  have hs:=hit_sum xs hn last m i hi
  simp only [xr,simprocAttr]
  refine amGo ?_
  refine awp_cond amQ (fun hc => ?_) (fun hc => ?_)
  · have hi':i<xs.length:=by have:=of_decide_eq_true hc;omega
    have hat:=nxL_at (xs:=xs) hi'
    have hnx:sumN (hitI xs last m) (i+1)=sumN (hitI xs last m) i+hitI xs last m i:=rfl
    refine amGo ?_
    rw [hat]
    refine awp_cond amQ (fun hd => ?_) (fun hd => ?_)
    · have hd2:(m:Int)≤i:=of_decide_eq_true hd
      have e:hitI xs last m i=0:=if_pos hd2
      rw [e,Int.add_zero] at hnx
      refine amGo ?_
      refine ⟨i+1,by omega,by omega,.inl ?_⟩
      ((try simp only [xk]);(repeat (refine leK_cons ?_ ?_;first | (exact amE) | rotate_left));(try exact leK_nil rfl);(all_goals (try (simp only [xr,simprocAttr];try refine int_eq1 ?_))))
      all_goals (rw [hnx])
    · have hd2:¬ (m:Int)≤i:=of_decide_eq_false hd
      refine amGo ?_
      refine awp_cond amQ (fun he => ?_) (fun he => ?_)
      · have he2:nxI xs i<0:=of_decide_eq_true he
        have e:hitI xs last m i=1:=by unfold hitI;rw [if_neg hd2,if_pos he2]
        rw [e] at hnx
        refine amGo ?_
        refine ⟨i+1,by omega,by omega,.inl ?_⟩
        ((try simp only [xk]);(repeat (refine leK_cons ?_ ?_;first | (exact amE) | rotate_left));(try exact leK_nil rfl);(all_goals (try (simp only [xr,simprocAttr];try refine int_eq1 ?_))))
        all_goals (rw [hnx];omega)
      · have he2:¬ nxI xs i<0:=of_decide_eq_false he
        have e:hitI xs last m i=if (m:Int)<nxI xs i∧(i:Int)<last then 1 else 0:=by unfold hitI;rw [if_neg hd2,if_neg he2]
        refine amGo ?_
        refine awp_cond amQ (fun hg => ?_) (fun hg => ?_)
        · have hg2:(m:Int)<nxI xs i∧(i:Int)<last:=by simpa using hg
          rw [if_pos hg2] at e
          rw [e] at hnx
          refine amGo ?_
          refine ⟨i+1,by omega,by omega,.inl ?_⟩
          ((try simp only [xk]);(repeat (refine leK_cons ?_ ?_;first | (exact amE) | rotate_left));(try exact leK_nil rfl);(all_goals (try (simp only [xr,simprocAttr];try refine int_eq1 ?_))))
          all_goals (rw [hnx];omega)
        · have hg2:¬ ((m:Int)<nxI xs i∧(i:Int)<last):=by simpa using hg
          rw [if_neg hg2] at e
          rw [e,Int.add_zero] at hnx
          refine amGo ?_
          refine ⟨i+1,by omega,by omega,.inl ?_⟩
          ((try simp only [xk]);(repeat (refine leK_cons ?_ ?_;first | (exact amE) | rotate_left));(try exact leK_nil rfl);(all_goals (try (simp only [xr,simprocAttr];try refine int_eq1 ?_))))
          all_goals (rw [hnx])
  · have hi':i=xs.length:=by have:=of_decide_eq_false hc;omega
    subst hi'
    refine amGo ?_
    (simp only [xe,simprocAttr];refine ⟨_,rfl,rfl,Imp.eq ?_⟩)
    rfl
end Go.Proofs.YtjblpcgkffhgfaaGreat
/- The bound of marks, and whether it proves that a plan has the fewest faults, on the machine: the program's and the reference's. Conditions: those that each names. -/
set_option linter.all false
set_option linter.unusedSimpArgs false
set_option linter.unusedVariables false
namespace Go.Proofs.YtjblpcgkffhgfaaGreat
open Go Go.RowKit Am

theorem slEq_d (xs ys:List Int):Does Tryz.prog 147 [.sl (.ints xs),.sl (.ints ys)] (.imm (.bool (decide (xs=ys)))):=by
  refine spec_imm Tryz.func147 rfl Tryz.ntmps147 cfOK (fun _ _=>by kernel_rfl) rfl (Nat.le_of_ble_eq_true rfl) ?_
  intro M0 w0
  rw [Tryz.results147]
  (refine awp_fits 0 rfl fun hf => ?_;simp only [xp,simprocAttr] at hf;simp only [xf,simprocAttr] at hf)
  refine amGo ?_
  refine awp_cond amQ (fun hc => ?_) (fun hc => ?_)
  · have hn:xs≠ys:=fun e=>by simp [e] at hc
    refine amGo ?_
    (simp only [xe,simprocAttr];refine ⟨_,rfl,rfl,Imp.eq ?_⟩)
    rw [decide_eq_false hn]
  have hl:xs.length=ys.length:=by simp at hc;omega
  refine amGo ?_
  refine awp_rounds (α:=Nat) (fun k=>[(13,true,.int k)]) [0,1,11,12] (fun _=>[]) (fun k=>k≤xs.length∧xs.take k=ys.take k) (fun k=>xs.length-k) 0 (by ((try simp only [xk]);(repeat (refine leK_cons ?_ ?_;first | (exact amE) | rotate_left));(try exact leK_nil rfl);(all_goals (try (simp only [xr,simprocAttr];try refine int_eq1 ?_))))) ⟨Nat.zero_le _,rfl⟩ fun k hk => ?_
  obtain ⟨hk,hp⟩:=hk
  simp only [xr,simprocAttr]
  refine amGo ?_
  refine awp_cond amQ (fun hd => ?_) (fun hd => ?_)
  · have hk':k<xs.length:=by simpa using hd
    have hky:k<ys.length:=by omega
    refine amGo ?_
    refine awp_cond amQ (fun he => ?_) (fun he => ?_)
    · have hn:xs≠ys:=fun e=>by simp [e] at he
      refine amGo ?_
      (simp only [xe,simprocAttr];refine ⟨_,rfl,rfl,Imp.eq ?_⟩)
      rw [decide_eq_false hn]
    · refine amGo ?_
      refine ⟨k+1,by omega,?_,by omega,.inl ?_⟩
      · have h2:xs.getD k 0=ys.getD k 0:=by simpa using he
        rw [List.take_succ_eq_append_getElem hk',List.take_succ_eq_append_getElem hky,hp,← getD_inL (d:=0) hk',← getD_inL (d:=0) hky,h2]
      · ((try simp only [xk]);(repeat (refine leK_cons ?_ ?_;first | (exact amE) | rotate_left));(try exact leK_nil rfl);(all_goals (try (simp only [xr,simprocAttr];try refine int_eq1 ?_))))
  · have hk':k=xs.length:=by simp at hd;omega
    subst hk'
    have he:xs=ys:=by rw [List.take_length,hl,List.take_length] at hp;exact hp
    refine amGo ?_
    (simp only [xe,simprocAttr];refine ⟨_,rfl,rfl,Imp.eq ?_⟩)
    rw [decide_eq_true he]
/-! ### whether marks are right -/
def mkB (xs ms:List Int):Bool:=allIn 0 ((xs.length:Int)-1) ms && decide (ms=rs ms)
theorem rs_fix {ms:List Int}:ms=rs ms↔ms.Pairwise (·<·):=⟨fun h=>by rw [h];exact rs_lt ms,fun h=>(rs_id h).symm⟩
theorem mk_ok {xs ms:List Int} (h:mkB xs ms=true):MkOK xs ms:=by
  unfold mkB at h
  simp only [Bool.and_eq_true,decide_eq_true_eq,allIn_iff] at h
  exact ⟨rs_fix.1 h.2,fun m hm=>(h.1 m hm).1,fun m hm=>by have:=(h.1 m hm).2;omega⟩
theorem isRising_d (ms:List Int) (hm:ms.length≤1048576):Does Tryz.prog 108 [.sl (.ints ms)] (.imm (.bool (decide (ms=rs ms)))):=by
  refine spec_imm Tryz.func108 rfl Tryz.ntmps108 cfOK (fun _ _=>by kernel_rfl) rfl (Nat.le_of_ble_eq_true rfl) ?_
  intro M0 w0
  rw [Tryz.results108]
  refine amGo ?_
  ((try refine Or.inl ?_);refine ⟨_,(rising_d ms hm),amF,?_⟩;refine amC ?_)
  refine amGo ?_
  ((try refine Or.inl ?_);refine ⟨_,(slEq_d ms (rs ms)),.inl rfl,?_⟩;refine amC ?_)
  refine amGo ?_
  (simp only [xe,simprocAttr];refine ⟨_,rfl,rfl,Imp.eq ?_⟩)
  rfl
theorem areMarksOf_d (xs ms:List Int) (hm:ms.length≤1048576) (hx:xs.length≤60):Does Tryz.prog 56 [.sl (.ints xs),.sl (.ints ms)] (.imm (.bool (mkB xs ms))):=by
  refine spec_imm Tryz.func56 rfl Tryz.ntmps56 cfOK (fun _ _=>by kernel_rfl) rfl (Nat.le_of_ble_eq_true rfl) ?_
  intro M0 w0
  rw [Tryz.results56]
  refine amGo ?_
  ((try refine Or.inl ?_);refine ⟨_,(areBelowB_d (xs.length:Int) ms (by omega)),.inl rfl,?_⟩;refine amC ?_)
  refine amGo ?_
  ((try refine Or.inl ?_);refine ⟨_,(fun _=>isRising_d ms hm),.inl rfl,?_⟩;refine amC ?_)
  refine amGo ?_
  (simp only [xe,simprocAttr];refine ⟨_,rfl,rfl,Imp.eq ?_⟩)
  unfold mkB
  cases allIn 0 ((xs.length:Int)-1) ms<;>rfl
theorem pw_snoc {xs:List Int} {j:Nat} (hj:j+1<xs.length) (h:(xs.take (j+1)).Pairwise (·<·)) (hlt:xs.getD j 0<xs.getD (j+1) 0):(xs.take (j+1+1)).Pairwise (·<·):=by
  rw [take_getD hj 0,List.pairwise_append]
  refine ⟨h,List.pairwise_singleton _ _,fun x hx y hy => ?_⟩
  rw [List.mem_singleton] at hy
  subst hy
  rw [take_getD (by omega) 0,List.pairwise_append] at h
  rw [take_getD (by omega) 0,List.mem_append,List.mem_singleton] at hx
  rcases hx with hx | rfl
  · have:=h.2.2 x hx _ (List.mem_singleton.2 rfl)
    omega
  · exact hlt
theorem l1Rising_d (xs:List Int) (lo hi:Int):Does Tryz.prog 109 [.sl (.ints xs),.int lo,.int hi] (.imm (.bool (allIn lo hi xs && decide (xs=rs xs)))):=by
  refine spec_imm Tryz.func109 rfl Tryz.ntmps109 cfOK (fun _ _=>by kernel_rfl) rfl (Nat.le_of_ble_eq_true rfl) ?_
  intro M0 w0
  rw [Tryz.results109]
  (refine awp_fits 0 rfl fun hf => ?_;simp only [xp,simprocAttr] at hf;simp only [xf,simprocAttr] at hf)
  refine amGo ?_
  refine awp_rounds (α:=Nat) (fun k=>[(7,true,.int k)]) [0,1,2] (fun _=>[]) (fun k=>k≤xs.length∧(∀ x∈xs.take k,rng x lo hi=true)∧(xs.take k).Pairwise (·<·)) (fun k=>xs.length-k) 0 (by ((try simp only [xk]);(repeat (refine leK_cons ?_ ?_;first | (exact amE) | rotate_left));(try exact leK_nil rfl);(all_goals (try (simp only [xr,simprocAttr];try refine int_eq1 ?_))))) ⟨Nat.zero_le _,by simp,by simp⟩ fun k hk => ?_
  obtain ⟨hk,hp,hw⟩:=hk
  simp only [xr,simprocAttr]
  refine amGo ?_
  refine awp_cond amQ (fun hc => ?_) (fun hc => ?_)
  · have hk':k<xs.length:=by have:=of_decide_eq_true hc;omega
    have hno:rng (xs.getD k 0) lo hi=false→allIn lo hi xs=false:=fun h=>allIn_no (x:=xs.getD k 0) (by rw [getD_inL hk'];exact List.getElem_mem hk') h
    have hyes:rng (xs.getD k 0) lo hi=true→∀ x∈xs.take (k+1),rng x lo hi=true:=fun h x hx=>by
      rw [take_getD hk' 0,List.mem_append,List.mem_singleton] at hx
      rcases hx with hx | rfl
      · exact hp x hx
      · exact h
    refine amGo ?_
    rcases Nat.eq_zero_or_pos k with h0 | h0
    · subst h0
      refine amGo ?_
      ((try refine Or.inl ?_);refine ⟨_,(l1In_e _ _ _),.inl rfl,?_⟩;refine amC ?_)
      refine amGo ?_
      refine awp_cond amQ (fun hd => ?_) (fun hd => ?_)
      · have hd2:rng (xs.getD 0 0) lo hi=false:=by simpa using hd
        refine amGo ?_
        (simp only [xe,simprocAttr];refine ⟨_,rfl,rfl,Imp.eq ?_⟩)
        rw [hno hd2]
        rfl
      · have hd2:rng (xs.getD 0 0) lo hi=true:=by simpa using hd
        refine amGo ?_
        refine ⟨1,by omega,hyes hd2,?_,by omega,.inl ?_⟩
        · rw [take_getD hk' 0]
          exact List.pairwise_singleton _ _
        · ((try simp only [xk]);(repeat (refine leK_cons ?_ ?_;first | (exact amE) | rotate_left));(try exact leK_nil rfl);(all_goals (try (simp only [xr,simprocAttr];try refine int_eq1 ?_))))
    · obtain ⟨j,rfl⟩:∃ j,k=j+1:=⟨k-1,by omega⟩
      have e1:(((j+1:Nat):Int)-1)=(j:Int):=by omega
      rw [e1]
      refine amGo ?_
      ((try refine Or.inl ?_);refine ⟨_,(l1In_e _ _ _),.inl rfl,?_⟩;refine amC ?_)
      refine amGo ?_
      refine awp_cond amQ (fun hd => ?_) (fun hd => ?_)
      · by_cases hr:rng (xs.getD (j+1) 0) lo hi=true
        · have hd2:xs.getD (j+1) 0≤xs.getD j 0:=by
            have h9:rng (xs.getD (j+1) 0) lo hi=false∨xs.getD (j+1) 0≤xs.getD j 0:=by simpa using hd
            rcases h9 with h9 | h9
            · rw [h9] at hr;cases hr
            · exact h9
          have hx:¬ xs=rs xs:=fun e=>by
            have h1:=List.pairwise_iff_getElem.1 (rs_fix.1 e) j (j+1) (by omega) hk' (by omega)
            rw [getD_inL hk',getD_inL (by omega)] at hd2
            omega
          refine amGo ?_
          (simp only [xe,simprocAttr];refine ⟨_,rfl,rfl,Imp.eq ?_⟩)
          rw [decide_eq_false hx,Bool.and_false]
        · have hr:rng (xs.getD (j+1) 0) lo hi=false:=by simpa using hr
          refine amGo ?_
          (simp only [xe,simprocAttr];refine ⟨_,rfl,rfl,Imp.eq ?_⟩)
          rw [hno hr]
          rfl
      · have hr:rng (xs.getD (j+1) 0) lo hi=true:=by
          cases h:rng (xs.getD (j+1) 0) lo hi
          · rw [h] at hd;simp at hd
          · rfl
        have hd2:xs.getD j 0<xs.getD (j+1) 0:=(show rng (xs.getD (j+1) 0) lo hi=true∧xs.getD j 0<xs.getD (j+1) 0 by simpa using hd).2
        refine amGo ?_
        refine ⟨j+1+1,by omega,hyes hr,pw_snoc hk' hw hd2,by omega,.inl ?_⟩
        ((try simp only [xk]);(repeat (refine leK_cons ?_ ?_;first | (exact amE) | rotate_left));(try exact leK_nil rfl);(all_goals (try (simp only [xr,simprocAttr];try refine int_eq1 ?_))))
  · have hk':k=xs.length:=by have:=of_decide_eq_false hc;omega
    subst hk'
    rw [List.take_length] at hp hw
    refine amGo ?_
    (simp only [xe,simprocAttr];refine ⟨_,rfl,rfl,Imp.eq ?_⟩)
    rw [show allIn lo hi xs=true from List.all_eq_true.2 hp,decide_eq_true (rs_fix.2 hw)]
    rfl
theorem l5Marks_d (xs ms:List Int):Does Tryz.prog 58 [.sl (.ints xs),.sl (.ints ms)] (.imm (.bool (mkB xs ms))):=by
  refine spec_imm Tryz.func58 rfl Tryz.ntmps58 cfOK (fun _ _=>by kernel_rfl) rfl (Nat.le_of_ble_eq_true rfl) ?_
  intro M0 w0
  rw [Tryz.results58]
  (refine awp_fits 0 rfl fun hf => ?_;simp only [xp,simprocAttr] at hf;simp only [xf,simprocAttr] at hf)
  refine amGo ?_
  ((try refine Or.inl ?_);refine ⟨_,(l1Rising_d ms 0 ((xs.length:Int)-1)),.inl rfl,?_⟩;refine amC ?_)
  refine amGo ?_
  (simp only [xe,simprocAttr];refine ⟨_,rfl,rfl,Imp.eq ?_⟩)
  rfl
/-! ### bounds -/
set_option maxHeartbeats 1000000 in
theorem marksBound_d (k:Int) (xs ms:List Int) (hk0:0≤k) (hk6:k≤6) (hn:xs.length≤60) (hm:MkOK xs ms):Does Tryz.prog 57 [.int k,.sl (.ints xs),.sl (.ints ms)] (.imm (.int (bdI k xs ms ms.length))):=by
  have hml:=mk_len hm
  have hrl:=rs_len xs
  refine spec_imm Tryz.func57 rfl Tryz.ntmps57 cfOK (fun _ _=>by kernel_rfl) rfl (Nat.le_of_ble_eq_true rfl) ?_
  intro M0 w0
  rw [Tryz.results57]
  refine amGo ?_
  ((try refine Or.inl ?_);refine ⟨_,(rising_d xs (by omega)),amF,?_⟩;refine amC ?_)
  refine amGo ?_
  refine awp_rounds (α:=Nat) (fun t=>[(16,true,.int t),(7,true,.int (bdI k xs ms t)),(8,true,.int (lastM ms t))]) [0,1,14,15] (fun _=>[]) (fun t=>t≤ms.length) (fun t=>ms.length-t) 0 (by ((try simp only [xk]);(repeat (refine leK_cons ?_ ?_;first | (exact amE) | rotate_left));(try exact leK_nil rfl);(all_goals (try (simp only [xr,simprocAttr];try refine int_eq1 ?_))));all_goals (simp [bdI,lastM,sumN])) (Nat.zero_le _) fun t ht => ?_
  have hb:=bdI_bd (ms:=ms) hk0 hk6 hn (t:=t) (by omega)
  simp only [xr,simprocAttr]
  refine amGo ?_
  refine awp_cond amQ (fun hc => ?_) (fun hc => ?_)
  · have ht':t<ms.length:=by have:=of_decide_eq_true hc;omega
    obtain ⟨m,hmm,hmx⟩:=mk_at hm ht'
    have hg:=gnV_bd hk0 hk6 hn (lastM ms t) m
    have hnx:bdI k xs ms (t+1)=bdI k xs ms t+gnV k xs (lastM ms t) m:=by
      unfold bdI
      show _+(_+gnV k xs (lastM ms t) (ms.getD t 0).toNat)=_
      rw [hmm,Int.toNat_natCast]
      omega
    have hla:lastM ms (t+1)=(m:Int):=by
      unfold lastM
      rw [if_neg (by omega)]
      exact hmm
    refine amGo ?_
    rw [hmm]
    ((try refine Or.inl ?_);refine ⟨_,(gain_d k xs (lastM ms t) m hk0 hk6 hn hmx),amF,?_⟩;refine amC ?_)
    refine amGo ?_
    refine ⟨t+1,by omega,by omega,.inl ?_⟩
    ((try simp only [xk]);(repeat (refine leK_cons ?_ ?_;first | (exact amE) | rotate_left));(try exact leK_nil rfl);(all_goals (try (simp only [xr,simprocAttr];try refine int_eq1 ?_))))
    all_goals (first | (rw [hnx];done) | (rw [hla];done) | rfl)
  · have ht':t=ms.length:=by have:=of_decide_eq_false hc;omega
    subst ht'
    refine amGo ?_
    (simp only [xe,simprocAttr];refine ⟨_,rfl,rfl,Imp.eq ?_⟩)
    rfl
/-- how many numbers of a list an interval holds -/
def hasP (a b:Int) (ms:List Int):Int:=((ms.filter fun m=>decide (a<m∧(b<0∨m<b))).length:Int)
theorem hasP_le (a b:Int) (ms:List Int):hasP a b ms≤(ms.length:Int):=by
  unfold hasP
  have:=List.length_filter_le (fun m=>decide (a<m∧(b<0∨m<b))) ms
  omega
theorem hasP_nn (a b:Int) (ms:List Int):0≤hasP a b ms:=Int.natCast_nonneg _
theorem hasP_next {a b:Int} {ms:List Int} {t:Nat} (h:t<ms.length):hasP a b (ms.take (t+1))=hasP a b (ms.take t)+if a<ms.getD t 0∧(b<0∨ms.getD t 0<b) then 1 else 0:=by
  unfold hasP
  rw [take_getD h 0,List.filter_append,List.length_append,Int.natCast_add]
  congr 1
  generalize ms.getD t 0=y
  by_cases h:a<y∧(b<0∨y<b)
  · rw [if_pos h];simp [h]
  · rw [if_neg h,List.filter_cons_of_neg (by simpa using h)]
    rfl
theorem l5Has_d (a b:Int) (ms:List Int) (hn:ms.length≤1000):Does Tryz.prog 112 [frA (a,b),.sl (.ints ms)] (.imm (.int (hasP a b ms))):=by
  refine spec_imm Tryz.func112 rfl Tryz.ntmps112 cfOK (fun _ _=>by kernel_rfl) rfl (Nat.le_of_ble_eq_true rfl) ?_
  intro M0 w0
  rw [Tryz.results112]
  refine amGo ?_
  refine awp_rounds (α:=Nat) (fun t=>[(6,true,.int t),(5,true,.int (hasP a b (ms.take t)))]) [1,2] (fun _=>[.box [.b (.val (.int .i64 a)),.b (.val (.int .i64 b))]]) (fun t=>t≤ms.length) (fun t=>ms.length-t) 0 (by ((try simp only [xk]);(repeat (refine leK_cons ?_ ?_;first | (exact amE) | rotate_left));(refine leK_nil ?_;exact (by rfl));(all_goals (try (simp only [xr,simprocAttr];try refine int_eq1 ?_))))) (Nat.zero_le _) fun t ht => ?_
  have h1:=hasP_le a b (ms.take t)
  have h2:=hasP_nn a b (ms.take t)
  rw [List.length_take] at h1
  simp only [xr,simprocAttr]
  refine amGo ?_
  refine awp_cond amQ (fun hc => ?_) (fun hc => ?_)
  · have ht':t<ms.length:=by have:=of_decide_eq_true hc;omega
    have hnx:=hasP_next (a:=a) (b:=b) ht'
    refine amGo ?_
    refine awp_cond amQ (fun hd => ?_) (fun hd => ?_)
    · have hd2:a<ms.getD t 0∧(b<0∨ms.getD t 0<b):=by simpa using hd
      rw [if_pos hd2] at hnx
      refine amGo ?_
      refine ⟨t+1,by omega,by omega,.inl ?_⟩
      ((try simp only [xk]);(repeat (refine leK_cons ?_ ?_;first | (exact amE) | rotate_left));(refine leK_nil ?_;exact (by first | rfl | rw [hnx]));(all_goals (try (simp only [xr,simprocAttr];try refine int_eq1 ?_))))
    · have hd2:¬ (a<ms.getD t 0∧(b<0∨ms.getD t 0<b)):=by simpa using hd
      rw [if_neg hd2,Int.add_zero] at hnx
      refine amGo ?_
      refine ⟨t+1,by omega,by omega,.inl ?_⟩
      ((try simp only [xk]);(repeat (refine leK_cons ?_ ?_;first | (exact amE) | rotate_left));(refine leK_nil ?_;exact (by first | rfl | rw [hnx]));(all_goals (try (simp only [xr,simprocAttr];try refine int_eq1 ?_))))
  · have ht':t=ms.length:=by have:=of_decide_eq_false hc;omega
    subst ht'
    rw [List.take_length]
    refine amGo ?_
    (simp only [xe,simprocAttr];refine ⟨_,rfl,rfl,Imp.eq ?_⟩)
    rfl
/-- the first k intervals -/
def ivK (xs:List Int) (k:Nat):List (List Int):=(List.range k).map fun (i:Nat)=>[(i:Int),nxI xs i]
theorem ivK_len (xs:List Int) (k:Nat):(ivK xs k).length=k:=by simp [ivK]
theorem ivK_next (xs:List Int) (k:Nat):ivK xs (k+1)=ivK xs k++[[(k:Int),nxI xs k]]:=by
  unfold ivK
  rw [List.range_succ,List.map_append]
  rfl
theorem ivK_at {xs:List Int} {k i:Nat} (h:i<k):(ivK xs k).getD i []=[(i:Int),nxI xs i]:=by
  unfold ivK
  rw [List.getD_eq_getElem?_getD,List.getElem?_map,List.getElem?_range h]
  rfl
theorem l5Intervals_d (xs:List Int) (hn:xs.length≤1000):Does Tryz.prog 111 [.sl (.ints xs)] (.imm (.sl (.k 2 (ivK xs xs.length)))):=by
  refine spec_imm Tryz.func111 rfl Tryz.ntmps111 cfOK (fun _ _=>by kernel_rfl) rfl (Nat.le_of_ble_eq_true rfl) ?_
  intro M0 w0
  rw [Tryz.results111]
  refine amGo ?_
  refine awp_rounds (α:=Nat) (fun k=>[(4,true,.int k)]) [0,3] (fun k=>[.row 106 (.k 2 (ivK xs k))]) (fun k=>k≤xs.length) (fun k=>xs.length-k) 0 (by ((try simp only [xk]);(repeat (refine leK_cons ?_ ?_;first | (exact amE) | rotate_left));(refine leK_nil ?_;exact (by rfl));(all_goals (try (simp only [xr,simprocAttr];try refine int_eq1 ?_))))) (Nat.zero_le _) fun k hk => ?_
  have hl:=ivK_len xs k
  simp only [xr,simprocAttr]
  refine amGo ?_
  refine awp_cond amQ (fun hc => ?_) (fun hc => ?_)
  · have hk':k<xs.length:=by have:=of_decide_eq_true hc;omega
    have hu:=use_le (xs:=xs) (xs.getD k 0) hk'
    have hnx:=ivK_next xs k
    refine amGo ?_
    ((try refine Or.inl ?_);refine ⟨_,(l5Use_d xs k (xs.getD k 0) hk'),.inl rfl,?_⟩;refine amC ?_)
    refine amGo ?_
    refine awp_cond amQ (fun hd => ?_) (fun hd => ?_)
    · have hd2:¬ useP xs k (xs.getD k 0)<xs.length:=by have:=of_decide_eq_true hd;omega
      have e:nxI xs k = -1:=if_neg hd2
      rw [e] at hnx
      refine amGo ?_
      refine ⟨k+1,by omega,by omega,.inl ?_⟩
      ((try simp only [xk]);(repeat (refine leK_cons ?_ ?_;first | (exact amE) | rotate_left));(refine leK_nil ?_;exact (by first | rfl | rw [hnx]));(all_goals (try (simp only [xr,simprocAttr];try refine int_eq1 ?_))))
    · have hd2:useP xs k (xs.getD k 0)<xs.length:=by have:=of_decide_eq_false hd;omega
      have e:nxI xs k=(useP xs k (xs.getD k 0):Int):=if_pos hd2
      rw [e] at hnx
      refine amGo ?_
      refine ⟨k+1,by omega,by omega,.inl ?_⟩
      ((try simp only [xk]);(repeat (refine leK_cons ?_ ?_;first | (exact amE) | rotate_left));(refine leK_nil ?_;exact (by first | rfl | rw [hnx]));(all_goals (try (simp only [xr,simprocAttr];try refine int_eq1 ?_))))
  · have hk':k=xs.length:=by have:=of_decide_eq_false hc;omega
    subst hk'
    refine amGoR ?_
    (refine awp_frz 0 rfl ?_;simp only [xz,simprocAttr])
    refine amGo ?_
    (simp only [xe,simprocAttr];refine ⟨_,rfl,rfl,Imp.eq ?_⟩)
    rfl
theorem l1Most_d (a b:Int):Does Tryz.prog 113 [.int a,.int b] (.imm (.int (max a b))):=by
  refine spec_imm Tryz.func113 rfl Tryz.ntmps113 cfOK (fun _ _=>by kernel_rfl) rfl (Nat.le_of_ble_eq_true rfl) ?_
  intro M0 w0
  rw [Tryz.results113]
  refine amGo ?_
  refine awp_cond amQ (fun hc => ?_) (fun hc => ?_)
  · have:=of_decide_eq_true hc
    refine amGo ?_
    (simp only [xe,simprocAttr];refine ⟨_,rfl,rfl,Imp.eq ?_⟩)
    rw [Int.max_eq_left (by omega)]
  · have:=of_decide_eq_false hc
    refine amGo ?_
    (simp only [xe,simprocAttr];refine ⟨_,rfl,rfl,Imp.eq ?_⟩)
    rw [Int.max_eq_right (by omega)]
end Go.Proofs.YtjblpcgkffhgfaaGreat
/- The marks with the greatest bound, on the machine: the program's. Conditions: a cache and a sequence that are right. -/
set_option linter.all false
set_option linter.unusedSimpArgs false
set_option linter.unusedVariables false
namespace Go.Proofs.YtjblpcgkffhgfaaGreat
open Go Go.RowKit Am

theorem getD_set_ne {α:Type} {xs:List α} {i j:Nat} {x d:α} (h:i≠j):(xs.set i x).getD j d=xs.getD j d:=by
  rw [List.getD_eq_getElem?_getD,List.getElem?_set_ne h,← List.getD_eq_getElem?_getD]
end Go.Proofs.YtjblpcgkffhgfaaGreat
