/- MarkFaults and MarkContents of the program and of the reference, on the machine. Conditions: those that each names. -/
import Derived.Test.YtjblpcgkffhgfaaMgM
import Derived.Test.YtjblpcgkffhgfaaMgS
set_option linter.all false
set_option linter.unusedSimpArgs false
set_option linter.unusedVariables false
namespace Go.Proofs.Ytjblpcgkffhgfaa
open Go Go.RowKit Am

theorem size_nat {n size:Int} {xs:List Int} (hb:szB n size xs=true):((size.toNat:Nat):Int)=size:=by have:=(sz_ok hb).s1;omega
def mfV (n size:Int) (xs:List Int):Int×Int:=if szB n size xs=true then mgF size.toNat xs else (0,0)
theorem impl_MarkFaults_v (n size:Int) (xs:List Int):Does Try.prog 7 [.int n,.int size,.sl (.ints xs)] (.imm (.tup [frT (mfV n size xs),blT (szB n size xs)])):=by
  unfold mfV
  cases hb:szB n size xs
  · rw [if_neg (by decide)]
    exact impl_MarkFaults_0 n size xs hb
  · rw [if_pos rfl]
    have e:=size_nat hb
    generalize size.toNat=s at e
    subst e
    exact impl_MarkFaults_d n s xs hb
theorem spec_MarkFaults_d (n size:Int) (xs:List Int):Does Try.prog 5 [.int n,.int size,.sl (.ints xs)] (.imm (.tup [frT (mfV n size xs),blT (szB n size xs)])):=by
  unfold mfV
  cases hb:szB n size xs
  · rw [if_neg (by decide)]
    refine spec_imm Try.func5 rfl Try.ntmps5 cfOK (fun _ _=>by kernel_rfl) rfl (Nat.le_of_ble_eq_true rfl) ?_
    intro M0 w0
    rw [Try.results5]
    refine amGo ?_
    ((try refine Or.inl ?_);refine ⟨_,(l11Sized_d n size xs),.inl rfl,?_⟩;refine amC ?_)
    refine amGo ?_
    rw [hb]
    refine awp_cond amQ (fun hc => ?_) (fun hc => ?_)
    · refine amGo ?_
      (simp only [xec,simprocAttr];refine ⟨[_,_],⟨⟨amK,rfl⟩,rfl,trivial⟩,rfl,Imp.eq ?_⟩)
      rfl
    · cases hc
  · rw [if_pos rfl]
    have e:=size_nat hb
    generalize size.toNat=s at e
    subst e
    refine spec_imm Try.func5 rfl Try.ntmps5 cfOK (fun _ _=>by kernel_rfl) rfl (Nat.le_of_ble_eq_true rfl) ?_
    intro M0 w0
    rw [Try.results5]
    refine amGo ?_
    ((try refine Or.inl ?_);refine ⟨_,(l11Sized_d n s xs),.inl rfl,?_⟩;refine amC ?_)
    refine amGo ?_
    rw [hb]
    refine awp_cond amQ (fun hc => ?_) (fun hc => ?_)
    · cases hc
    refine amGo ?_
    ((try refine Or.inl ?_);refine ⟨_,(l11Mark_d n s xs hb),amF,?_⟩;refine amC ?_)
    refine amGo ?_
    (simp only [xec,simprocAttr];refine ⟨[_,_],⟨⟨amK,rfl⟩,rfl,trivial⟩,rfl,Imp.eq ?_⟩)
    rfl
end Go.Proofs.Ytjblpcgkffhgfaa
