/- Whether plans are possible, their faults, and the bounds of marks, on the machine: the program's and the reference's. Conditions: those that each names. -/
import Derived.Test.YtjblpcgkffhgfaaGreatProves
set_option linter.all false
set_option linter.unusedSimpArgs false
set_option linter.unusedVariables false
namespace Go.Proofs.YtjblpcgkffhgfaaGreat
open Go Go.RowKit Am

/-- whether a plan is possible, and whether the arguments are right -/
def ipV (k n:Int) (xs ps:List Int):AV:=if (pgB k n xs && plnB n xs ps)=true then .tup [boT (plRun k xs ps xs.length).isSome,boT true] else .tup [boT false,boT false]
theorem impl_IsPlan_d (k n:Int) (xs ps:List Int):Does Tryz.prog 9 [.int k,.int n,.sl (.ints xs),.sl (.ints ps)] (.imm (ipV k n xs ps)):=by
  unfold ipV
  refine spec_imm Tryz.func9 rfl Tryz.ntmps9 cfOK (fun _ _=>by kernel_rfl) rfl (Nat.le_of_ble_eq_true rfl) ?_
  intro M0 w0
  rw [Tryz.results9]
  refine amGo ?_
  ((try refine Or.inl ?_);refine ⟨_,(isPlanList_d k n xs ps),.inl rfl,?_⟩;refine amC ?_)
  refine amGo ?_
  cases hb:pgB k n xs && plnB n xs ps
  · rw [if_neg (by decide)]
    refine awp_cond amQ (fun hc => ?_) (fun hc => ?_)
    · refine amGo ?_
      (simp only [xe,simprocAttr];refine ⟨[_,_],⟨rfl,rfl,trivial⟩,rfl,Imp.eq ?_⟩)
      rfl
    · cases hc
  · rw [if_pos rfl]
    have hb2:=Bool.and_eq_true_iff.1 hb
    have hok:=pg_ok hb2.1
    have hs1:=hok.s1
    have hpl:=played_d k xs ps (by omega) hok.len (pln_ok hb2.2)
    refine awp_cond amQ (fun hc => ?_) (fun hc => ?_)
    · cases hc
    cases hr:plRun k xs ps xs.length
    · rw [hr] at hpl
      refine amGo ?_
      ((try refine Or.inl ?_);refine ⟨_,hpl,amF,?_⟩;refine amC ?_)
      refine amGo ?_
      (simp only [xe,simprocAttr];refine ⟨[_,_],⟨rfl,rfl,trivial⟩,rfl,Imp.eq ?_⟩)
      rfl
    · rw [hr] at hpl
      refine amGo ?_
      ((try refine Or.inl ?_);refine ⟨_,hpl,amF,?_⟩;refine amC ?_)
      refine amGo ?_
      (simp only [xe,simprocAttr];refine ⟨[_,_],⟨rfl,rfl,trivial⟩,rfl,Imp.eq ?_⟩)
      rfl
theorem spec_IsPlan_d (k n:Int) (xs ps:List Int):Does Tryz.prog 10 [.int k,.int n,.sl (.ints xs),.sl (.ints ps)] (.imm (ipV k n xs ps)):=by
  unfold ipV
  refine spec_imm Tryz.func10 rfl Tryz.ntmps10 cfOK (fun _ _=>by kernel_rfl) rfl (Nat.le_of_ble_eq_true rfl) ?_
  intro M0 w0
  rw [Tryz.results10]
  refine amGo ?_
  ((try refine Or.inl ?_);refine ⟨_,(l5Takes_d k n xs),.inl rfl,?_⟩;refine amC ?_)
  refine amGo ?_
  ((try refine Or.inl ?_);refine ⟨_,(fun h=>l5Plan_d n xs ps (pg_n h)),.inl rfl,?_⟩;refine amC ?_)
  refine amGo ?_
  cases hb1:pgB k n xs
  · refine awp_cond amQ (fun hc => ?_) (fun hc => ?_)
    · refine amGo ?_
      (simp only [xe,simprocAttr];refine ⟨[_,_],⟨rfl,rfl,trivial⟩,rfl,Imp.eq ?_⟩)
      rfl
    · cases hc
  · have hok:=pg_ok hb1
    have hs1:=hok.s1
    have hlen:=hok.len
    have hpos:∀ x∈xs,0≤x:=fun x hx=>(hok.all x hx).1
    cases hb2:plnB n xs ps
    · refine awp_cond amQ (fun hc => ?_) (fun hc => ?_)
      · refine amGo ?_
        (simp only [xe,simprocAttr];refine ⟨[_,_],⟨rfl,rfl,trivial⟩,rfl,Imp.eq ?_⟩)
        rfl
      · cases hc
    · have hrun:=l5Run_d k xs ps (by omega) hlen (pln_ok hb2) hpos
      refine awp_cond amQ (fun hc => ?_) (fun hc => ?_)
      · cases hc
      cases hr:plRun k xs ps xs.length
      · rw [hr] at hrun
        simp only [plV] at hrun
        refine amGo ?_
        ((try refine Or.inl ?_);refine ⟨_,hrun,amF,?_⟩;refine amC ?_)
        refine amGo ?_
        (simp only [xe,simprocAttr];refine ⟨[_,_],⟨rfl,rfl,trivial⟩,rfl,Imp.eq ?_⟩)
        rfl
      · rw [hr] at hrun
        simp only [plV] at hrun
        refine amGo ?_
        ((try refine Or.inl ?_);refine ⟨_,hrun,amF,?_⟩;refine amC ?_)
        refine amGo ?_
        (simp only [xe,simprocAttr];refine ⟨[_,_],⟨rfl,rfl,trivial⟩,rfl,Imp.eq ?_⟩)
        rfl
theorem spec_PlanFaults_d (k n:Int) (xs ps:List Int):Does Tryz.prog 12 [.int k,.int n,.sl (.ints xs),.sl (.ints ps)] (.imm (pfV k n xs ps)):=by
  unfold pfV
  refine spec_imm Tryz.func12 rfl Tryz.ntmps12 cfOK (fun _ _=>by kernel_rfl) rfl (Nat.le_of_ble_eq_true rfl) ?_
  intro M0 w0
  rw [Tryz.results12]
  refine amGo ?_
  ((try refine Or.inl ?_);refine ⟨_,(l5Takes_d k n xs),.inl rfl,?_⟩;refine amC ?_)
  refine amGo ?_
  ((try refine Or.inl ?_);refine ⟨_,(fun h=>l5Plan_d n xs ps (pg_n h)),.inl rfl,?_⟩;refine amC ?_)
  refine amGo ?_
  cases hb1:pgB k n xs
  · refine awp_cond amQ (fun hc => ?_) (fun hc => ?_)
    · refine amGo ?_
      (simp only [xe,simprocAttr];refine ⟨[_,_],⟨rfl,rfl,trivial⟩,rfl,Imp.eq ?_⟩)
      rfl
    · cases hc
  · have hok:=pg_ok hb1
    have hs1:=hok.s1
    have hlen:=hok.len
    have hpos:∀ x∈xs,0≤x:=fun x hx=>(hok.all x hx).1
    cases hb2:plnB n xs ps
    · refine awp_cond amQ (fun hc => ?_) (fun hc => ?_)
      · refine amGo ?_
        (simp only [xe,simprocAttr];refine ⟨[_,_],⟨rfl,rfl,trivial⟩,rfl,Imp.eq ?_⟩)
        rfl
      · cases hc
    · have hrun:=l5Run_d k xs ps (by omega) hlen (pln_ok hb2) hpos
      refine awp_cond amQ (fun hc => ?_) (fun hc => ?_)
      · cases hc
      cases hr:plRun k xs ps xs.length
      · rw [hr] at hrun
        simp only [plV] at hrun
        refine amGo ?_
        ((try refine Or.inl ?_);refine ⟨_,hrun,amF,?_⟩;refine amC ?_)
        refine amGo ?_
        (simp only [xe,simprocAttr];refine ⟨[_,_],⟨rfl,rfl,trivial⟩,rfl,Imp.eq ?_⟩)
        rfl
      · rw [hr] at hrun
        simp only [plV] at hrun
        refine amGo ?_
        ((try refine Or.inl ?_);refine ⟨_,hrun,amF,?_⟩;refine amC ?_)
        refine amGo ?_
        (simp only [xe,simprocAttr];refine ⟨[_,_],⟨rfl,rfl,trivial⟩,rfl,Imp.eq ?_⟩)
        rfl
/-- the bound of marks, and whether the arguments are right -/
def mbV (k n:Int) (xs ms:List Int):AV:=if (pgB k n xs && mkB xs ms)=true then .tup [inT (bdI k xs ms ms.length),boT true] else .tup [inT 0,boT false]
theorem impl_MarksBound_d (k n:Int) (xs ms:List Int) (hm:ms.length≤1048576):Does Tryz.prog 13 [.int k,.int n,.sl (.ints xs),.sl (.ints ms)] (.imm (mbV k n xs ms)):=by
  have hB:=marksBound_d k xs ms
  unfold mbV
  refine spec_imm Tryz.func13 rfl Tryz.ntmps13 cfOK (fun _ _=>by kernel_rfl) rfl (Nat.le_of_ble_eq_true rfl) ?_
  intro M0 w0
  rw [Tryz.results13]
  refine amGo ?_
  ((try refine Or.inl ?_);refine ⟨_,(isPaging_d k n xs),.inl rfl,?_⟩;refine amC ?_)
  refine amGo ?_
  ((try refine Or.inl ?_);refine ⟨_,(fun h=>areMarksOf_d xs ms hm (pg_ok h).len),.inl rfl,?_⟩;refine amC ?_)
  refine amGo ?_
  cases hb1:pgB k n xs
  · refine awp_cond amQ (fun hc => ?_) (fun hc => ?_)
    · refine amGo ?_
      (simp only [xe,simprocAttr];refine ⟨[_,_],⟨rfl,rfl,trivial⟩,rfl,Imp.eq ?_⟩)
      rfl
    · cases hc
  · have hok:=pg_ok hb1
    have hs1:=hok.s1
    have hs2:=hok.s2
    have hlen:=hok.len
    cases hk:mkB xs ms
    · refine awp_cond amQ (fun hc => ?_) (fun hc => ?_)
      · refine amGo ?_
        (simp only [xe,simprocAttr];refine ⟨[_,_],⟨rfl,rfl,trivial⟩,rfl,Imp.eq ?_⟩)
        rfl
      · cases hc
    · refine awp_cond amQ (fun hc => ?_) (fun hc => ?_)
      · cases hc
      refine amGo ?_
      ((try refine Or.inl ?_);refine ⟨_,(hB (by omega) hs2 hlen (mk_ok hk)),.inl rfl,?_⟩;refine amC ?_)
      refine amGo ?_
      (simp only [xe,simprocAttr];refine ⟨[_,_],⟨rfl,rfl,trivial⟩,rfl,Imp.eq ?_⟩)
      rfl
theorem spec_MarksBound_d (k n:Int) (xs ms:List Int):Does Tryz.prog 14 [.int k,.int n,.sl (.ints xs),.sl (.ints ms)] (.imm (mbV k n xs ms)):=by
  have hB:=l5Bound_d k xs ms
  unfold mbV
  refine spec_imm Tryz.func14 rfl Tryz.ntmps14 cfOK (fun _ _=>by kernel_rfl) rfl (Nat.le_of_ble_eq_true rfl) ?_
  intro M0 w0
  rw [Tryz.results14]
  refine amGo ?_
  ((try refine Or.inl ?_);refine ⟨_,(l5Takes_d k n xs),.inl rfl,?_⟩;refine amC ?_)
  refine amGo ?_
  ((try refine Or.inl ?_);refine ⟨_,(fun _=>l5Marks_d xs ms),.inl rfl,?_⟩;refine amC ?_)
  refine amGo ?_
  cases hb1:pgB k n xs
  · refine awp_cond amQ (fun hc => ?_) (fun hc => ?_)
    · refine amGo ?_
      (simp only [xe,simprocAttr];refine ⟨[_,_],⟨rfl,rfl,trivial⟩,rfl,Imp.eq ?_⟩)
      rfl
    · cases hc
  · have hok:=pg_ok hb1
    have hs1:=hok.s1
    have hs2:=hok.s2
    have hlen:=hok.len
    cases hk:mkB xs ms
    · refine awp_cond amQ (fun hc => ?_) (fun hc => ?_)
      · refine amGo ?_
        (simp only [xe,simprocAttr];refine ⟨[_,_],⟨rfl,rfl,trivial⟩,rfl,Imp.eq ?_⟩)
        rfl
      · cases hc
    · refine awp_cond amQ (fun hc => ?_) (fun hc => ?_)
      · cases hc
      refine amGo ?_
      ((try refine Or.inl ?_);refine ⟨_,(hB (by omega) hs2 hlen (mk_ok hk)),.inl rfl,?_⟩;refine amC ?_)
      refine amGo ?_
      (simp only [xe,simprocAttr];refine ⟨[_,_],⟨rfl,rfl,trivial⟩,rfl,Imp.eq ?_⟩)
      rfl
end Go.Proofs.YtjblpcgkffhgfaaGreat
