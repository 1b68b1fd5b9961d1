/- Whether marks prove that a plan has the fewest faults, on the machine: the program's and the reference's. Conditions: those that each names. -/
import Derived.Test.YtjblpcgkffhgfaaGreatGUF
set_option linter.all false
set_option linter.unusedSimpArgs false
set_option linter.unusedVariables false
namespace Go.Proofs.YtjblpcgkffhgfaaGreat
open Go Go.RowKit Am

set_option maxHeartbeats 2000000 in
theorem l5Bound_d (k:Int) (xs ms:List Int) (hk0:0≤k) (hk6:k≤6) (hn:xs.length≤60) (hm:MkOK xs ms):Does Tryz.prog 59 [.int k,.sl (.ints xs),.sl (.ints ms)] (.imm (.int (bdI k xs ms ms.length))):=by
  have hml:=mk_len hm
  have hrl:=rs_len xs
  have hbe:=bd_eq (k:=k) hm ms.length (Nat.le_refl _)
  rw [List.take_length] at hbe
  have hbl:=bdS_bd (ms:=ms) hk0 hk6 hn (t:=ms.length) (by omega)
  have hil:=ivK_len xs xs.length
  refine spec_imm Tryz.func59 rfl Tryz.ntmps59 cfOK (fun _ _=>by kernel_rfl) rfl (Nat.le_of_ble_eq_true rfl) ?_
  intro M0 w0
  rw [Tryz.results59]
  refine amGo ?_
  ((try refine Or.inl ?_);refine ⟨_,(l3Different_d xs (by omega)),amF,?_⟩;refine amC ?_)
  refine amGo ?_
  refine awp_rounds (α:=Nat) (fun t=>[(8,true,.int t),(7,true,.int (bdS k xs ms t))]) [0,1,2] (fun _=>[]) (fun t=>t≤ms.length) (fun t=>ms.length-t) 0 (by ((try simp only [xk]);(repeat (refine leK_cons ?_ ?_;first | (exact amE) | rotate_left));(try exact leK_nil rfl);(all_goals (try (simp only [xr,simprocAttr];try refine int_eq1 ?_))));all_goals (simp [bdS,sumN])) (Nat.zero_le _) fun t ht => ?_
  have hb:=bdS_bd (ms:=ms) hk0 hk6 hn (t:=t) (by omega)
  simp only [xr,simprocAttr]
  refine amGo ?_
  refine awp_cond amQ (fun hc => ?_) (fun hc => ?_)
  · have ht':t<ms.length:=by have:=of_decide_eq_true hc;omega
    obtain ⟨m,hmm,hmx⟩:=mk_at hm ht'
    have hg:=gn0_bd hk0 hk6 hn m
    have hr:=rs_short (k:=m+1) hn
    have hnx:bdS k xs ms (t+1)=bdS k xs ms t+(rs (xs.take (m+1))).length-k:=by
      unfold bdS
      show _+(_+gn0 k xs (ms.getD t 0).toNat)=_
      rw [hmm,Int.toNat_natCast]
      unfold gn0
      omega
    have e1:((m:Int)+1).toNat=m+1:=by omega
    have htl:(xs.take (m+1)).length≤60:=by rw [List.length_take];omega
    refine amGo ?_
    rw [hmm]
    refine amGo ?_
    rw [e1]
    ((try refine Or.inl ?_);refine ⟨_,(l3Different_d (xs.take (m+1)) (by omega)),amF,?_⟩;refine amC ?_)
    refine amGo ?_
    refine ⟨t+1,by omega,by omega,.inl ?_⟩
    ((try simp only [xk]);(repeat (refine leK_cons ?_ ?_;first | (exact amE) | rotate_left));(try exact leK_nil rfl);(all_goals (try (simp only [xr,simprocAttr];try refine int_eq1 ?_))))
    all_goals (first | (rw [hnx];done) | rfl)
  · have ht':t=ms.length:=by have:=of_decide_eq_false hc;omega
    subst ht'
    refine amGo ?_
    ((try refine Or.inl ?_);refine ⟨_,(l5Intervals_d xs (by omega)),amF,?_⟩;refine amC ?_)
    refine amGo ?_
    refine awp_rounds (α:=Nat) (fun i=>[(10,true,.int i),(7,true,.int (bdS k xs ms ms.length-sumN (fun i=>cutI xs i (cntI xs ms i)) i))]) [2,9] (fun _=>[]) (fun i=>i≤xs.length) (fun i=>xs.length-i) 0 (by ((try simp only [xk]);(repeat (refine leK_cons ?_ ?_;first | (exact amE) | rotate_left));(try exact leK_nil rfl);(all_goals (try (simp only [xr,simprocAttr];try refine int_eq1 ?_))));all_goals (simp [sumN])) (Nat.zero_le _) fun i hi => ?_
    have hs:=sumN_bd (f:=fun i=>cutI xs i (cntI xs ms i)) (lo:=0) (hi:=60) (n:=i) fun j _=>by have:=cutI_bd xs ms j;omega
    simp only [xr,simprocAttr]
    refine amGo ?_
    refine awp_cond amQ (fun hc2 => ?_) (fun hc2 => ?_)
    · have hi':i<xs.length:=by have:=of_decide_eq_true hc2;omega
      have hat:=ivK_at (xs:=xs) hi'
      have hcb:=cutI_bd xs ms i
      have hh1:=hasP_le (i:Int) (nxI xs i) ms
      have hh2:=hasP_nn (i:Int) (nxI xs i) ms
      have hnx:sumN (fun i=>cutI xs i (cntI xs ms i)) (i+1)=sumN (fun i=>cutI xs i (cntI xs ms i)) i+cutI xs i (hasP (i:Int) (nxI xs i) ms):=rfl
      have hcb2:0≤cutI xs i (hasP (i:Int) (nxI xs i) ms)∧cutI xs i (hasP (i:Int) (nxI xs i) ms)≤(ms.length:Int):=hcb
      refine amGo ?_
      rw [hat]
      simp only [xr,simprocAttr]
      refine amGo ?_
      ((try refine Or.inl ?_);refine ⟨_,(l5Has_d (i:Int) (nxI xs i) ms (by omega)),amF,?_⟩;refine amC ?_)
      refine amGo ?_
      rw [hat]
      simp only [xr,simprocAttr]
      refine awp_cond amQ (fun hd => ?_) (fun hd => ?_)
      · have hd2:0≤nxI xs i:=by simpa using hd
        have e:cutI xs i (hasP (i:Int) (nxI xs i) ms)=max (hasP (i:Int) (nxI xs i) ms-1) 0:=if_pos hd2
        rw [e] at hnx hcb2
        refine amGo ?_
        ((try refine Or.inl ?_);refine ⟨_,(l1Most_d (hasP (i:Int) (nxI xs i) ms-1) 0),.inl rfl,?_⟩;refine amC ?_)
        refine amGo ?_
        refine ⟨i+1,by omega,by omega,.inl ?_⟩
        ((try simp only [xk]);(repeat (refine leK_cons ?_ ?_;first | (exact amE) | rotate_left));(try exact leK_nil rfl);(all_goals (try (simp only [xr,simprocAttr];try refine int_eq1 ?_))))
        all_goals (rw [hnx];omega)
      · have hd2:¬ 0≤nxI xs i:=by simpa using hd
        have e:cutI xs i (hasP (i:Int) (nxI xs i) ms)=hasP (i:Int) (nxI xs i) ms:=if_neg hd2
        rw [e] at hnx hcb2
        refine amGo ?_
        refine ⟨i+1,by omega,by omega,.inl ?_⟩
        ((try simp only [xk]);(repeat (refine leK_cons ?_ ?_;first | (exact amE) | rotate_left));(try exact leK_nil rfl);(all_goals (try (simp only [xr,simprocAttr];try refine int_eq1 ?_))))
        all_goals (rw [hnx];omega)
    · have hi':i=xs.length:=by have:=of_decide_eq_false hc2;omega
      subst hi'
      refine amGo ?_
      (simp only [xe,simprocAttr];refine ⟨_,rfl,rfl,Imp.eq ?_⟩)
      rw [hbe]
/-! ### whether marks prove a plan -/
def pfV (k n:Int) (xs ps:List Int):AV:=if (pgB k n xs && plnB n xs ps)=true then (match plRun k xs ps xs.length with | none => .tup [inT 0,boT false] | some s => .tup [inT s.faults,boT true]) else .tup [inT 0,boT false]
theorem pg_n {k n:Int} {xs:List Int} (h:pgB k n xs=true) : -9223372036854775807≤n∧n≤9223372036854775807:=by
  have h1:=(pg_ok h).n1
  have h2:=(pg_ok h).n2
  omega
theorem pln_ok {n:Int} {xs ps:List Int} (h:plnB n xs ps=true):ps.length=xs.length:=by
  unfold plnB at h
  simp only [Bool.and_eq_true,decide_eq_true_eq] at h
  exact h.1
theorem planFaults_d (k n:Int) (xs ps:List Int):Does Tryz.prog 11 [.int k,.int n,.sl (.ints xs),.sl (.ints ps)] (.imm (pfV k n xs ps)):=by
  unfold pfV
  refine spec_imm Tryz.func11 rfl Tryz.ntmps11 cfOK (fun _ _=>by kernel_rfl) rfl (Nat.le_of_ble_eq_true rfl) ?_
  intro M0 w0
  rw [Tryz.results11]
  refine amGo ?_
  ((try refine Or.inl ?_);refine ⟨_,(isPlanList_d k n xs ps),.inl rfl,?_⟩;refine amC ?_)
  refine amGo ?_
  cases hb:pgB k n xs && plnB n xs ps
  · rw [if_neg (by decide)]
    refine awp_cond amQ (fun hc => ?_) (fun hc => ?_)
    · refine amGo ?_
      (simp only [xe,simprocAttr];refine ⟨[_,_],⟨rfl,rfl,trivial⟩,rfl,Imp.eq ?_⟩)
      rfl
    · cases hc
  · rw [if_pos rfl]
    have hb2:=Bool.and_eq_true_iff.1 hb
    have hok:=pg_ok hb2.1
    have hs1:=hok.s1
    have hpl:=played_d k xs ps (by omega) hok.len (pln_ok hb2.2)
    refine awp_cond amQ (fun hc => ?_) (fun hc => ?_)
    · cases hc
    cases hr:plRun k xs ps xs.length
    · rw [hr] at hpl
      refine amGo ?_
      ((try refine Or.inl ?_);refine ⟨_,hpl,amF,?_⟩;refine amC ?_)
      refine amGo ?_
      (simp only [xe,simprocAttr];refine ⟨[_,_],⟨rfl,rfl,trivial⟩,rfl,Imp.eq ?_⟩)
      rfl
    · rw [hr] at hpl
      refine amGo ?_
      ((try refine Or.inl ?_);refine ⟨_,hpl,amF,?_⟩;refine amC ?_)
      refine amGo ?_
      (simp only [xe,simprocAttr];refine ⟨[_,_],⟨rfl,rfl,trivial⟩,rfl,Imp.eq ?_⟩)
      rfl
def pvV (k n:Int) (xs ps ms:List Int):Bool×Bool:=if (pgB k n xs && plnB n xs ps)=true then (match plRun k xs ps xs.length with | none=>(false,false) | some s=>if mkB xs ms=true then (decide (bdI k xs ms ms.length=(s.faults:Int)),true) else (false,false)) else (false,false)
theorem impl_ProvesFewest_d (k n:Int) (xs ps ms:List Int) (hm:ms.length≤1048576):Does Tryz.prog 15 [.int k,.int n,.sl (.ints xs),.sl (.ints ps),.sl (.ints ms)] (.imm (.tup [boT (pvV k n xs ps ms).1,boT (pvV k n xs ps ms).2])):=by
  have hpf:=planFaults_d k n xs ps
  unfold pfV at hpf
  unfold pvV
  refine spec_imm Tryz.func15 rfl Tryz.ntmps15 cfOK (fun _ _=>by kernel_rfl) rfl (Nat.le_of_ble_eq_true rfl) ?_
  intro M0 w0
  rw [Tryz.results15]
  cases hb:pgB k n xs && plnB n xs ps
  · rw [if_neg (by rw [hb];decide)] at hpf
    rw [if_neg (by decide)]
    refine amGo ?_
    ((try refine Or.inl ?_);refine ⟨_,hpf,.inl rfl,?_⟩;refine amC ?_)
    refine amGo ?_
    refine Or.inl ⟨.bool false,.inl rfl,?_⟩
    simp only [xr,simprocAttr]
    refine amS ?_
    refine amGo ?_
    refine awp_cond amQ (fun hc => ?_) (fun hc => ?_)
    · refine amGo ?_
      (simp only [xe,simprocAttr];refine ⟨[_,_],⟨rfl,rfl,trivial⟩,rfl,Imp.eq ?_⟩)
      rfl
    · cases hc
  · rw [if_pos hb] at hpf
    rw [if_pos rfl]
    have hb2:=Bool.and_eq_true_iff.1 hb
    have hok:=pg_ok hb2.1
    have hs1:=hok.s1
    have hs2:=hok.s2
    have hlen:=hok.len
    cases hr:plRun k xs ps xs.length
    · rw [hr] at hpf
      refine amGo ?_
      ((try refine Or.inl ?_);refine ⟨_,hpf,.inl rfl,?_⟩;refine amC ?_)
      refine amGo ?_
      refine Or.inl ⟨.bool false,.inl rfl,?_⟩
      simp only [xr,simprocAttr]
      refine amS ?_
      refine amGo ?_
      refine awp_cond amQ (fun hc => ?_) (fun hc => ?_)
      · refine amGo ?_
        (simp only [xe,simprocAttr];refine ⟨[_,_],⟨rfl,rfl,trivial⟩,rfl,Imp.eq ?_⟩)
        rfl
      · cases hc
    · rw [hr] at hpf
      refine amGo ?_
      ((try refine Or.inl ?_);refine ⟨_,hpf,.inl rfl,?_⟩;refine amC ?_)
      refine amGo ?_
      ((try refine Or.inl ?_);refine ⟨_,(areMarksOf_d xs ms hm hlen),.inl rfl,?_⟩;refine amC ?_)
      refine amGo ?_
      cases hk:mkB xs ms
      · refine awp_cond amQ (fun hc => ?_) (fun hc => ?_)
        · refine amGo ?_
          (simp only [xe,simprocAttr];refine ⟨[_,_],⟨rfl,rfl,trivial⟩,rfl,Imp.eq ?_⟩)
          rfl
        · cases hc
      · refine awp_cond amQ (fun hc => ?_) (fun hc => ?_)
        · cases hc
        refine amGo ?_
        ((try refine Or.inl ?_);refine ⟨_,(marksBound_d k xs ms (by omega) hs2 hlen (mk_ok hk)),.inl rfl,?_⟩;refine amC ?_)
        refine amGo ?_
        (simp only [xe,simprocAttr];refine ⟨[_,_],⟨rfl,rfl,trivial⟩,rfl,Imp.eq ?_⟩)
        rfl
end Go.Proofs.YtjblpcgkffhgfaaGreat
