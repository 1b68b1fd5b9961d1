/- No possible plan has fewer faults than marks bound, on the machine: the law's walk. Conditions: those that each names. -/
import Derived.Test.YtjblpcgkffhgfaaGreatMkD
import Derived.Test.YtjblpcgkffhgfaaGreatMkW
import Derived.Test.YtjblpcgkffhgfaaGreatGFE
import Derived.Test.YtjblpcgkffhgfaaGreatGPP
import Derived.Test.YtjblpcgkffhgfaaGreatRsm
set_option linter.all false
set_option linter.unusedSimpArgs false
set_option linter.unusedVariables false
namespace Go.Proofs.YtjblpcgkffhgfaaGreat
open Go Go.RowKit Am

theorem rFewest_d {k n:Int} {xs:List Int} (hp:pgB k n xs=true):Does Tryz.prog 16 [.int k,.int n,.sl (.ints xs)] (.imm (.tup [inT (fewN k.toNat xs),boT true])):=by
  have h1:=impl_FewestFaults_d k n xs
  have h2:=spec_FewestFaults_d k n xs
  unfold ffV at h1 h2
  rw [if_pos hp] at h1 h2
  refine spec_imm Tryz.func16 rfl Tryz.ntmps16 cfOK (fun _ _=>by kernel_rfl) rfl (Nat.le_of_ble_eq_true rfl) ?_
  intro M0 w0
  rw [Tryz.results16]
  refine amGo ?_
  ((try refine Or.inl ?_);refine ⟨_,h1,.inl rfl,?_⟩;refine amC ?_)
  refine amGo ?_
  ((try refine Or.inl ?_);refine ⟨_,h2,.inl rfl,?_⟩;refine amC ?_)
  refine amGo ?_
  (simp only [xe,simprocAttr];refine ⟨[_,_],⟨rfl,rfl,trivial⟩,rfl,Imp.eq ?_⟩)
  simp
theorem mb_ex (k n:Int) (xs ms:List Int):∃ v t,mbV k n xs ms = .tup [inT v,boT t]:=by
  unfold mbV
  split
  · exact ⟨_,_,rfl⟩
  · exact ⟨_,_,rfl⟩
set_option maxHeartbeats 4000000 in
theorem walkMk {bs:List Int} (hbig:¬ 65536<(bs.length:Int)) {k n:Int} {xs ps ms:List Int} (hm:ms.length≤62) (h1:Does Tryz.prog 7 [.lf (.b (.raw bs))] (.imm (dpR k n xs ps))) (h2:Does Tryz.prog 8 [.lf (.b (.raw bs))] (.imm (dpR k n xs ms))):Does Tryz.prog 3 [.lf (.b (.raw bs))] (.imm (.bool true)):=by
  have i1:=impl_IsPlan_d k n xs ps
  have i2:=spec_IsPlan_d k n xs ps
  have f1:=planFaults_d k n xs ps
  have f2:=spec_PlanFaults_d k n xs ps
  have b1:=impl_MarksBound_d k n xs ms (by omega)
  have b2:=spec_MarksBound_d k n xs ms
  have p1:=impl_ProvesFewest_d k n xs ps ms (by omega)
  unfold ipV at i1 i2
  unfold pfV at f1 f2
  cases hb:pgB k n xs && plnB n xs ps
  · rw [if_neg (by rw [hb];decide)] at i1 i2 f1 f2
    obtain ⟨v,t,hv⟩:=mb_ex k n xs ms
    rw [hv] at b1 b2
    refine spec_imm Tryz.func3 rfl Tryz.ntmps3 cfOK (fun _ _=>by kernel_rfl) rfl (Nat.le_of_ble_eq_true rfl) ?_
    intro M0 w0
    rw [Tryz.results3]
    refine amGo ?_
    ((try refine Or.inl ?_);refine ⟨_,(rBig_d bs),.inl rfl,?_⟩;refine amC ?_)
    refine amGo ?_
    refine awp_cond amQ (fun e0 => ?_) (fun e0 => ?_)
    · exact absurd (of_decide_eq_true e0) hbig
    refine amGo ?_
    ((try refine Or.inl ?_);refine ⟨_,h1,amF,?_⟩;refine amC ?_)
    refine amGo ?_
    ((try refine Or.inl ?_);refine ⟨_,h2,amF,?_⟩;refine amC ?_)
    refine amGo ?_
    ((try refine Or.inl ?_);refine ⟨_,i1,.inl rfl,?_⟩;refine amC ?_)
    refine amGo ?_
    ((try refine Or.inl ?_);refine ⟨_,i2,.inl rfl,?_⟩;refine amC ?_)
    refine amGo ?_
    refine awp_cond amQ (fun e1 => ?_) (fun e1 => ?_)
    · simp at e1
    refine amGo ?_
    ((try refine Or.inl ?_);refine ⟨_,f1,.inl rfl,?_⟩;refine amC ?_)
    refine amGo ?_
    ((try refine Or.inl ?_);refine ⟨_,f2,.inl rfl,?_⟩;refine amC ?_)
    refine amGo ?_
    refine awp_cond amQ (fun e2 => ?_) (fun e2 => ?_)
    · simp at e2
    refine amGo ?_
    ((try refine Or.inl ?_);refine ⟨_,b1,.inl rfl,?_⟩;refine amC ?_)
    refine amGo ?_
    ((try refine Or.inl ?_);refine ⟨_,b2,.inl rfl,?_⟩;refine amC ?_)
    refine amGo ?_
    refine awp_cond amQ (fun e3 => ?_) (fun e3 => ?_)
    · simp at e3
    refine amGo ?_
    refine awp_cond amQ (fun e4 => ?_) (fun e4 => ?_)
    · refine amGo ?_
      (simp only [xe,simprocAttr];refine ⟨_,rfl,rfl,Imp.eq ?_⟩)
      rfl
    · simp at e4
  · have hb2:=Bool.and_eq_true_iff.1 hb
    have hok:=pg_ok hb2.1
    have hpos:∀ x∈xs,0≤x:=fun x hx=>(hok.all x hx).1
    have hs1:=hok.s1
    have r1:=rFewest_d hb2.1
    rw [if_pos hb] at i1 i2 f1 f2
    unfold pvV at p1
    rw [if_pos hb] at p1
    cases hr:plRun k xs ps xs.length with
    | none =>
      rw [hr] at i1 i2 f1 f2
      obtain ⟨v,t,hv⟩:=mb_ex k n xs ms
      rw [hv] at b1 b2
      simp only [Option.isSome_none] at i1 i2
      refine spec_imm Tryz.func3 rfl Tryz.ntmps3 cfOK (fun _ _=>by kernel_rfl) rfl (Nat.le_of_ble_eq_true rfl) ?_
      intro M0 w0
      rw [Tryz.results3]
      refine amGo ?_
      ((try refine Or.inl ?_);refine ⟨_,(rBig_d bs),.inl rfl,?_⟩;refine amC ?_)
      refine amGo ?_
      refine awp_cond amQ (fun e0 => ?_) (fun e0 => ?_)
      · exact absurd (of_decide_eq_true e0) hbig
      refine amGo ?_
      ((try refine Or.inl ?_);refine ⟨_,h1,amF,?_⟩;refine amC ?_)
      refine amGo ?_
      ((try refine Or.inl ?_);refine ⟨_,h2,amF,?_⟩;refine amC ?_)
      refine amGo ?_
      ((try refine Or.inl ?_);refine ⟨_,i1,.inl rfl,?_⟩;refine amC ?_)
      refine amGo ?_
      ((try refine Or.inl ?_);refine ⟨_,i2,.inl rfl,?_⟩;refine amC ?_)
      refine amGo ?_
      refine awp_cond amQ (fun e1 => ?_) (fun e1 => ?_)
      · simp at e1
      refine amGo ?_
      ((try refine Or.inl ?_);refine ⟨_,f1,.inl rfl,?_⟩;refine amC ?_)
      refine amGo ?_
      ((try refine Or.inl ?_);refine ⟨_,f2,.inl rfl,?_⟩;refine amC ?_)
      refine amGo ?_
      refine awp_cond amQ (fun e2 => ?_) (fun e2 => ?_)
      · simp at e2
      refine amGo ?_
      ((try refine Or.inl ?_);refine ⟨_,b1,.inl rfl,?_⟩;refine amC ?_)
      refine amGo ?_
      ((try refine Or.inl ?_);refine ⟨_,b2,.inl rfl,?_⟩;refine amC ?_)
      refine amGo ?_
      refine awp_cond amQ (fun e3 => ?_) (fun e3 => ?_)
      · simp at e3
      refine amGo ?_
      refine awp_cond amQ (fun e4 => ?_) (fun e4 => ?_)
      · refine amGo ?_
        (simp only [xe,simprocAttr];refine ⟨_,rfl,rfl,Imp.eq ?_⟩)
        rfl
      · simp at e4
    | some s =>
      rw [hr] at i1 i2 f1 f2 p1
      simp only [Option.isSome_some] at i1 i2
      unfold mbV at b1 b2
      cases hk:mkB xs ms
      · rw [if_neg (by rw [hk];simp)] at b1 b2
        refine spec_imm Tryz.func3 rfl Tryz.ntmps3 cfOK (fun _ _=>by kernel_rfl) rfl (Nat.le_of_ble_eq_true rfl) ?_
        intro M0 w0
        rw [Tryz.results3]
        refine amGo ?_
        ((try refine Or.inl ?_);refine ⟨_,(rBig_d bs),.inl rfl,?_⟩;refine amC ?_)
        refine amGo ?_
        refine awp_cond amQ (fun e0 => ?_) (fun e0 => ?_)
        · exact absurd (of_decide_eq_true e0) hbig
        refine amGo ?_
        ((try refine Or.inl ?_);refine ⟨_,h1,amF,?_⟩;refine amC ?_)
        refine amGo ?_
        ((try refine Or.inl ?_);refine ⟨_,h2,amF,?_⟩;refine amC ?_)
        refine amGo ?_
        ((try refine Or.inl ?_);refine ⟨_,i1,.inl rfl,?_⟩;refine amC ?_)
        refine amGo ?_
        ((try refine Or.inl ?_);refine ⟨_,i2,.inl rfl,?_⟩;refine amC ?_)
        refine amGo ?_
        refine awp_cond amQ (fun e1 => ?_) (fun e1 => ?_)
        · simp at e1
        refine amGo ?_
        ((try refine Or.inl ?_);refine ⟨_,f1,.inl rfl,?_⟩;refine amC ?_)
        refine amGo ?_
        ((try refine Or.inl ?_);refine ⟨_,f2,.inl rfl,?_⟩;refine amC ?_)
        refine amGo ?_
        refine awp_cond amQ (fun e2 => ?_) (fun e2 => ?_)
        · simp at e2
        refine amGo ?_
        ((try refine Or.inl ?_);refine ⟨_,b1,.inl rfl,?_⟩;refine amC ?_)
        refine amGo ?_
        ((try refine Or.inl ?_);refine ⟨_,b2,.inl rfl,?_⟩;refine amC ?_)
        refine amGo ?_
        refine awp_cond amQ (fun e3 => ?_) (fun e3 => ?_)
        · simp at e3
        refine amGo ?_
        refine awp_cond amQ (fun e4 => ?_) (fun e4 => ?_)
        · refine amGo ?_
          (simp only [xe,simprocAttr];refine ⟨_,rfl,rfl,Imp.eq ?_⟩)
          rfl
        · simp at e4
      · rw [if_pos (by rw [hb2.1,hk];rfl)] at b1 b2
        simp only [hk,if_true] at p1
        obtain ⟨a,rfl⟩:∃ a:Nat,k=(a:Int):=⟨k.toNat,by omega⟩
        have q1:=marks_bound (by omega) (mk_ok hk) hr
        obtain ⟨s2,w1,w2⟩:=far_faults (k:=a) (by omega) hpos
        have q2:=marks_bound (by omega) (mk_ok hk) w1
        have q3:=few_le (by omega) hpos hr
        rw [Int.toNat_natCast] at r1
        generalize bdI a xs ms ms.length=v at b1 b2 p1 q1 q2
        refine spec_imm Tryz.func3 rfl Tryz.ntmps3 cfOK (fun _ _=>by kernel_rfl) rfl (Nat.le_of_ble_eq_true rfl) ?_
        intro M0 w0
        rw [Tryz.results3]
        refine amGo ?_
        ((try refine Or.inl ?_);refine ⟨_,(rBig_d bs),.inl rfl,?_⟩;refine amC ?_)
        refine amGo ?_
        refine awp_cond amQ (fun e0 => ?_) (fun e0 => ?_)
        · exact absurd (of_decide_eq_true e0) hbig
        refine amGo ?_
        ((try refine Or.inl ?_);refine ⟨_,h1,amF,?_⟩;refine amC ?_)
        refine amGo ?_
        ((try refine Or.inl ?_);refine ⟨_,h2,amF,?_⟩;refine amC ?_)
        refine amGo ?_
        ((try refine Or.inl ?_);refine ⟨_,i1,.inl rfl,?_⟩;refine amC ?_)
        refine amGo ?_
        ((try refine Or.inl ?_);refine ⟨_,i2,.inl rfl,?_⟩;refine amC ?_)
        refine amGo ?_
        refine awp_cond amQ (fun e1 => ?_) (fun e1 => ?_)
        · simp at e1
        refine amGo ?_
        ((try refine Or.inl ?_);refine ⟨_,f1,.inl rfl,?_⟩;refine amC ?_)
        refine amGo ?_
        ((try refine Or.inl ?_);refine ⟨_,f2,.inl rfl,?_⟩;refine amC ?_)
        refine amGo ?_
        refine awp_cond amQ (fun e2 => ?_) (fun e2 => ?_)
        · simp at e2
        refine amGo ?_
        ((try refine Or.inl ?_);refine ⟨_,b1,.inl rfl,?_⟩;refine amC ?_)
        refine amGo ?_
        ((try refine Or.inl ?_);refine ⟨_,b2,.inl rfl,?_⟩;refine amC ?_)
        refine amGo ?_
        refine awp_cond amQ (fun e3 => ?_) (fun e3 => ?_)
        · simp at e3
        refine amGo ?_
        refine awp_cond amQ (fun e4 => ?_) (fun e4 => ?_)
        · simp at e4
        refine amGo ?_
        ((try refine Or.inl ?_);refine ⟨_,p1,.inl rfl,?_⟩;refine amC ?_)
        refine amGo ?_
        by_cases hv:v=(s.faults:Int)
        · subst hv
          have hff:(fewN a xs:Int)=(s.faults:Int):=by rw [w2] at q2;omega
          rw [hff] at r1
          refine awp_cond amQ (fun e5 => ?_) (fun e5 => ?_)
          · simp at e5
          refine amGo ?_
          refine awp_cond amQ (fun e6 => ?_) (fun e6 => ?_)
          · refine amGo ?_
            ((try refine Or.inl ?_);refine ⟨_,r1,.inl rfl,?_⟩;refine amC ?_)
            refine amGo ?_
            (simp only [xe,simprocAttr];refine ⟨_,rfl,rfl,Imp.eq ?_⟩)
            simp
          · simp at e6
        · have hle:¬ (s.faults:Int)<v:=by omega
          refine awp_cond amQ (fun e5 => ?_) (fun e5 => ?_)
          · simp [hle] at e5
          refine amGo ?_
          refine awp_cond amQ (fun e6 => ?_) (fun e6 => ?_)
          · exact absurd (of_decide_eq_true e6) hv
          · refine amGo ?_
            (simp only [xe,simprocAttr];refine ⟨_,rfl,rfl,Imp.eq ?_⟩)
            rfl
end Go.Proofs.YtjblpcgkffhgfaaGreat
