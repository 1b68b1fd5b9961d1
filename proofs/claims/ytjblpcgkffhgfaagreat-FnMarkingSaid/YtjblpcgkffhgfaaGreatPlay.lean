/- Plans played: the program's and the reference's, on the machine. Conditions: those that each names. -/
import Derived.Test.YtjblpcgkffhgfaaGreatGRQ
import Derived.Test.YtjblpcgkffhgfaaGreatGPP
import Derived.Test.YtjblpcgkffhgfaaGreatGCB
set_option linter.all false
set_option linter.unusedSimpArgs false
set_option linter.unusedVariables false
namespace Go.Proofs.YtjblpcgkffhgfaaGreat
open Go Go.RowKit Am

/-! ### whether a plan is one -/
def pgB (k n:Int) (xs:List Int):Bool:=rng k 1 6 && rqB n xs
theorem pg_ok {k n:Int} {xs:List Int} (h:pgB k n xs=true):SzOK n k xs:=sz_ok h
theorem isPaging_d (k n:Int) (xs:List Int):Does Tryz.prog 55 [.int k,.int n,.sl (.ints xs)] (.imm (.bool (pgB k n xs))):=by
  refine spec_imm Tryz.func55 rfl Tryz.ntmps55 cfOK (fun _ _=>by kernel_rfl) rfl (Nat.le_of_ble_eq_true rfl) ?_
  intro M0 w0
  rw [Tryz.results55]
  refine amGo ?_
  ((try refine Or.inl ?_);refine ⟨_,(isSize_d k),.inl rfl,?_⟩;refine amC ?_)
  refine amGo ?_
  ((try refine Or.inl ?_);refine ⟨_,(fun _=>isRequests_d n xs),.inl rfl,?_⟩;refine amC ?_)
  refine amGo ?_
  (simp only [xe,simprocAttr];refine ⟨_,rfl,rfl,Imp.eq ?_⟩)
  unfold pgB
  cases rng k 1 6<;>rfl
/-! ### plans -/
abbrev inT (x:Int):TV := .one (.b (.val (.int .i64 x)))
abbrev boT (b:Bool):TV := .one (.b (.val (.bool b)))
/-- what a plan comes to: the pages behind each place, the faults, and whether it is possible -/
def plV (e:B):Option PlS→AV
  | none => .tup [.one (.b e),inT 0,boT false]
  | some s => .tup [.one (.b (.sl (.ii s.outs))),inT s.faults,boT true]
theorem idx_yes {c:List Int} {l:Int} (h:c.contains l=true):idxOf (fun y=>decide (l=y)) c=((c.idxOf l:Nat):Int)∧c.idxOf l<c.length:=by
  have hm:=List.contains_iff_mem.1 h
  have hl:=List.idxOf_lt_length_of_mem hm
  refine ⟨idxOf_some hl (by simp) fun x hx => ?_,hl⟩
  obtain ⟨i,hi,rfl⟩:=List.getElem_of_mem hx
  rw [List.getElem_take]
  have hi2:i<c.idxOf l:=by rw [List.length_take] at hi;omega
  have h3:=List.not_of_lt_findIdx (p:=(· == l)) (xs:=c) hi2
  have h4:¬ c[i]'(by omega)=l:=by simpa using h3
  exact decide_eq_false fun e=>h4 e.symm
theorem idx_no {c:List Int} {l:Int} (h:c.contains l=false):idxOf (fun y=>decide (l=y)) c = -1:=idxOf_none fun x hx=>decide_eq_false fun e=>by
  subst e
  rw [List.contains_iff_mem.2 hx] at h
  cases h
set_option maxHeartbeats 4000000 in
theorem played_d (k:Int) (xs ps:List Int) (hk0:0≤k) (hn:xs.length≤60) (hp:ps.length=xs.length):Does Tryz.prog 52 [.int k,.sl (.ints xs),.sl (.ints ps)] (.imm (plV (.val (.slice none 0 0)) (plRun k xs ps xs.length))):=by
  refine spec_imm Tryz.func52 rfl Tryz.ntmps52 cfOK (fun _ _=>by kernel_rfl) rfl (Nat.le_of_ble_eq_true rfl) ?_
  intro M0 w0
  rw [Tryz.results52]
  refine amGo ?_
  (refine awp_toT 1 3 [] rfl rfl rfl ?_;simp only [xu,simprocAttr])
  refine awp_rounds (α:=Nat×PlS) (fun a=>[(20,true,.int a.1),(11,true,.int a.2.faults)]) [0,1,2,9,10,18,19] (fun a=>[.row 3 (.ints a.2.now),.tree [24,3] (.ii a.2.outs)]) (fun a=>a.1≤xs.length∧plRun k xs ps a.1=some a.2) (fun a=>xs.length-a.1) (0,⟨[],[],0⟩) (by ((try simp only [xk]);(repeat (refine leK_cons ?_ ?_;first | (exact amE) | rotate_left));(refine leK_nil ?_;exact (by rfl));(all_goals (try (simp only [xr,simprocAttr];try refine int_eq1 ?_))))) ⟨Nat.zero_le _,rfl⟩ fun ⟨i,s⟩ hi => ?_
  obtain ⟨hi,hs⟩:=hi
  have hlen:=plRun_len hk0 i s hs
  have hnx:=plRun_next hs
  have hnd:=plRun_nodup i s hs
  obtain ⟨now,outs,faults⟩:=s
  dsimp only at hi hs hlen hnx hnd ⊢
  obtain ⟨hl1,hl2,hl3⟩:=hlen
  have hl4:now.length≤60:=by
    have:=plRun_short i _ hs
    dsimp only at this
    omega
  simp only [xr,simprocAttr]
  refine amGo ?_
  refine awp_cond amQ (fun hc => ?_) (fun hc => ?_)
  · have hi':i<xs.length:=by have:=of_decide_eq_true hc;omega
    have hdead:plStep k now (xs.getD i 0) (ps.getD i 0)=none→plRun k xs ps xs.length=none:=fun h=>plRun_dead (by rw [hnx,h]) _ hi'
    refine amGo ?_
    ((try refine Or.inl ?_);refine ⟨_,(contains_d now (xs.getD i 0)),.inl rfl,?_⟩;refine amC ?_)
    refine amGo ?_
    refine awp_cond amQ (fun hq => ?_) (fun hq => ?_)
    · rw [hq,if_pos rfl] at hnx
      refine amGo ?_
      refine awp_cond amQ (fun hd => ?_) (fun hd => ?_)
      · have hd2:0≤ps.getD i 0:=by simpa using hd
        refine amGo ?_
        (simp only [xe,simprocAttr];refine ⟨[_,_,_],⟨rfl,rfl,rfl,trivial⟩,rfl,Imp.eq ?_⟩)
        rw [hdead (plStep_hit0 hq hd2)]
        rfl
      · have hd2:¬ 0≤ps.getD i 0:=by simpa using hd
        rw [plStep_hit hq hd2] at hnx
        refine amGo ?_
        (refine .inr (.inl (callW_b (rising_h now (by omega)) rfl rfl rfl rfl rfl rfl rfl ?_));refine amC ?_)
        refine amGo ?_
        refine ⟨(i+1,⟨now,outs++[rs now],faults+0⟩),by omega,hnx,by omega,.inr ⟨2,Nat.le_of_ble_eq_true rfl,leT_of ?_ rfl rfl rfl⟩⟩
        ((try simp only [xk]);(repeat (refine leK_cons ?_ ?_;first | (exact amE) | rotate_left));(refine leK_nil ?_;exact (by rfl));(all_goals (try (simp only [xr,simprocAttr];try refine int_eq1 ?_))))
    · rw [hq,if_neg (by decide)] at hnx
      have hel:(now.eraseIdx (now.idxOf (ps.getD i 0))).length≤now.length:=List.length_eraseIdx_le _ _
      have htl:(now.eraseIdx (now.idxOf (ps.getD i 0))++[xs.getD i 0]).length=(now.eraseIdx (now.idxOf (ps.getD i 0))).length+1:=by simp
      refine amGo ?_
      ((try refine Or.inl ?_);refine ⟨_,(index_d now (ps.getD i 0)),.inl rfl,?_⟩;refine amC ?_)
      refine amGo ?_
      cases hw:now.contains (ps.getD i 0)
      · rw [idx_no hw]
        rw [idx_out hw] at hel htl
        refine awp_cond amQ (fun hd => ?_) (fun hd => ?_)
        · exact absurd hd (by decide)
        refine amGo ?_
        refine awp_cond amQ (fun he => ?_) (fun he => ?_)
        · have he2:0≤ps.getD i 0:=by simpa using he
          refine amGo ?_
          (simp only [xe,simprocAttr];refine ⟨[_,_,_],⟨rfl,rfl,rfl,trivial⟩,rfl,Imp.eq ?_⟩)
          rw [hdead (plStep_miss0 hq hw he2)]
          rfl
        · have he2:¬ 0≤ps.getD i 0:=by simpa using he
          refine amGo ?_
          refine awp_cond amQ (fun hg => ?_) (fun hg => ?_)
          · have hg2:k<((now++[xs.getD i 0]).length:Int):=by have:=of_decide_eq_true hg;omega
            refine amGo ?_
            (simp only [xe,simprocAttr];refine ⟨[_,_,_],⟨rfl,rfl,rfl,trivial⟩,rfl,Imp.eq ?_⟩)
            rw [hdead (plStep_miss1 hq (by rw [idx_out hw];exact hg2))]
            rfl
          · have hg2:¬ k<((now++[xs.getD i 0]).length:Int):=by have:=of_decide_eq_false hg;omega
            rw [plStep_miss hq (.inr he2) (by rw [idx_out hw];exact hg2),idx_out hw] at hnx
            refine amGo ?_
            (refine .inr (.inl (callW_b (rising_h (now++[xs.getD i 0]) (by omega)) rfl rfl rfl rfl rfl rfl rfl ?_));refine amC ?_)
            refine amGo ?_
            refine ⟨(i+1,⟨now++[xs.getD i 0],outs++[rs (now++[xs.getD i 0])],faults+1⟩),by omega,hnx,by omega,.inr ⟨2,Nat.le_of_ble_eq_true rfl,leT_of ?_ rfl rfl rfl⟩⟩
            ((try simp only [xk]);(repeat (refine leK_cons ?_ ?_;first | (exact amE) | rotate_left));(refine leK_nil ?_;exact (by rfl));(all_goals (try (simp only [xr,simprocAttr];try refine int_eq1 ?_))))
      · obtain ⟨hx1,hx2⟩:=idx_yes hw
        rw [hx1]
        refine awp_cond amQ (fun hd => ?_) (fun hd => ?_)
        · refine amGo ?_
          (refine .inr (.inl (callW_a [0] (delete_h now (now.idxOf (ps.getD i 0)) hx2) rfl rfl rfl rfl ⟨rfl,trivial⟩ rfl rfl rfl rfl ?_));refine amC ?_)
          refine amGo ?_
          refine awp_cond amQ (fun hg => ?_) (fun hg => ?_)
          · have hg2:k<((now.eraseIdx (now.idxOf (ps.getD i 0))++[xs.getD i 0]).length:Int):=by have:=of_decide_eq_true hg;omega
            refine amGo ?_
            (simp only [xe,simprocAttr];refine ⟨[_,_,_],⟨rfl,rfl,rfl,trivial⟩,rfl,Imp.eq ?_⟩)
            rw [hdead (plStep_miss1 hq hg2)]
            rfl
          · have hg2:¬ k<((now.eraseIdx (now.idxOf (ps.getD i 0))++[xs.getD i 0]).length:Int):=by have:=of_decide_eq_false hg;omega
            rw [plStep_miss hq (.inl hw) hg2] at hnx
            refine amGo ?_
            (refine .inr (.inl (callW_b (rising_h (now.eraseIdx (now.idxOf (ps.getD i 0))++[xs.getD i 0]) (by omega)) rfl rfl rfl rfl rfl rfl rfl ?_));refine amC ?_)
            refine amGo ?_
            refine ⟨(i+1,⟨now.eraseIdx (now.idxOf (ps.getD i 0))++[xs.getD i 0],outs++[rs (now.eraseIdx (now.idxOf (ps.getD i 0))++[xs.getD i 0])],faults+1⟩),by omega,hnx,by omega,.inr ⟨2,Nat.le_of_ble_eq_true rfl,leT_of ?_ rfl rfl rfl⟩⟩
            ((try simp only [xk]);(repeat (refine leK_cons ?_ ?_;first | (exact amE) | rotate_left));(refine leK_nil ?_;exact (by rfl));(all_goals (try (simp only [xr,simprocAttr];try refine int_eq1 ?_))))
        · exact absurd (of_decide_eq_false hd) (by omega)
  · have hi':i=xs.length:=by have:=of_decide_eq_false hc;omega
    subst hi'
    refine amGoR ?_
    (refine awp_frzT 1 rfl ?_;simp only [xz,simprocAttr])
    refine amGo ?_
    (simp only [xe,simprocAttr];refine ⟨[_,_,_],⟨rfl,rfl,rfl,trivial⟩,rfl,Imp.eq ?_⟩)
    rw [hs]
    rfl
end Go.Proofs.YtjblpcgkffhgfaaGreat
