/- MarkFaults and MarkContents of the program and of the reference, on the machine. Conditions: those that each names. -/
import Derived.Test.YtjblpcgkffhgfaaMgM
import Derived.Test.YtjblpcgkffhgfaaMgS
import Derived.Test.YtjblpcgkffhgfaaMarkSz
set_option linter.all false
set_option linter.unusedSimpArgs false
set_option linter.unusedVariables false
namespace Go.Proofs.Ytjblpcgkffhgfaa
open Go Go.RowKit Am

theorem size_nat {n size:Int} {xs:List Int} (hb:szB n size xs=true):((size.toNat:Nat):Int)=size:=by have:=(sz_ok hb).s1;omega
theorem mgO_2 (size:Nat) (xs:List Int):∀ x∈mgO size xs,x.length=2:=fun x hx=>by
  obtain ⟨p,-,rfl⟩:=List.mem_map.1 hx
  rfl
def mcK (n size:Int) (xs:List Int):List (List Int):=mgK size.toNat xs
def mcO (n size:Int) (xs:List Int):List (List Int):=mgO size.toNat xs
theorem spec_MarkContents_d (n size:Int) (xs:List Int):Does Try.prog 10 [.int n,.int size,.sl (.ints xs)] (.imm (.tup [.one (.b (.sl (.ii (if szB n size xs=true then mcK n size xs else [])))),.one (.b (.sl (.k 2 (if szB n size xs=true then mcO n size xs else [])))),.one (.b (.val (.bool (szB n size xs))))])):=by
  unfold mcK mcO
  cases hb:szB n size xs
  · rw [if_neg (by decide),if_neg (by decide)]
    refine spec_imm Try.func10 rfl Try.ntmps10 cfOK (fun _ _=>by kernel_rfl) rfl (Nat.le_of_ble_eq_true rfl) ?_
    intro M0 w0
    rw [Try.results10]
    refine amGo ?_
    ((try refine Or.inl ?_);refine ⟨_,(l11Sized_d n size xs),.inl rfl,?_⟩;refine amC ?_)
    refine amGo ?_
    rw [hb]
    refine awp_cond amQ (fun hc => ?_) (fun hc => ?_)
    · refine amGoR ?_
      (refine awp_frz 0 rfl ?_;simp only [xz,simprocAttr])
      (refine awp_frz 1 rfl ?_;simp only [xz,simprocAttr])
      refine amGo ?_
      (simp only [xe,simprocAttr];refine ⟨[_,_,_],⟨rfl,rfl,rfl,trivial⟩,rfl,Imp.eq ?_⟩)
      rfl
    · cases hc
  · rw [if_pos rfl,if_pos rfl]
    have e:=size_nat hb
    generalize size.toNat=s at e
    subst e
    refine spec_imm Try.func10 rfl Try.ntmps10 cfOK (fun _ _=>by kernel_rfl) rfl (Nat.le_of_ble_eq_true rfl) ?_
    intro M0 w0
    rw [Try.results10]
    refine amGo ?_
    ((try refine Or.inl ?_);refine ⟨_,(l11Sized_d n s xs),.inl rfl,?_⟩;refine amC ?_)
    refine amGo ?_
    rw [hb]
    refine awp_cond amQ (fun hc => ?_) (fun hc => ?_)
    · cases hc
    refine amGo ?_
    ((try refine Or.inl ?_);refine ⟨_,(l11Mark_d n s xs hb),amF,?_⟩;refine amC ?_)
    refine amGo ?_
    (simp only [xe,simprocAttr];refine ⟨[_,_,_],⟨rfl,rfl,rfl,trivial⟩,rfl,Imp.eq ?_⟩)
    rfl
theorem impl_MarkContents_g (n size:Int) (xs:List Int) (hb:szB n size xs=true):DoesH Try.prog 11 [.int n,.int size,.sl (.ints xs)] [] [] (.tup [.one (.own 0),.one (.own 1),.one (.b (.val (.bool true)))]) [.tree [22,3] (.ii (mcK n size xs)),.row 24 (.k 2 (mcO n size xs))]:=by
  unfold mcK mcO
  have e:=size_nat hb
  generalize size.toNat=s at e
  subst e
  exact impl_MarkContents_h n s xs hb
theorem mcK_len {n size:Int} {xs:List Int} (hb:szB n size xs=true):(mcK n size xs).length≤720∧∀ r∈mcK n size xs,r.length≤6:=by
  unfold mcK
  have e:=size_nat hb
  generalize size.toNat=s at e
  subst e
  exact mgK_len hb
theorem mcO_len {n size:Int} {xs:List Int} (hb:szB n size xs=true):(mcO n size xs).length≤720:=by
  have h:=(mcK_len hb).1
  unfold mcO mgO
  unfold mcK mgK at h
  rw [oH_len]
  rwa [kH_len] at h
theorem mcK_sm {n size:Int} {xs:List Int} (hb:szB n size xs=true):smII (mcK n size xs):=⟨by have:=(mcK_len hb).1;omega,fun r hr=>by have:=(mcK_len hb).2 r hr;omega⟩
theorem mcK_n {n size:Int} {xs:List Int} (hb:szB n size xs=true):nII (mcK n size xs)≤4320:=by
  have h1:=mcK_len hb
  have h2:=szL_bd (N:=List.length) h1.2
  have h3:(mcK n size xs).length*6≤4320:=by omega
  exact Nat.le_trans h2 h3
theorem mcO_ok {n size:Int} {xs:List Int} (hb:szB n size xs=true):(mcO n size xs).length≤720∧∀ x∈mcO n size xs,x.length=2:=⟨mcO_len hb,mgO_2 _ _⟩
end Go.Proofs.Ytjblpcgkffhgfaa
