/- The reference's draws for plans and marks, on the machine. Conditions: bytes are bytes. -/
import Derived.Test.YtjblpcgkffhgfaaGreatGPG
import Derived.Test.YtjblpcgkffhgfaaGreatGFD
set_option linter.all false
set_option linter.unusedSimpArgs false
set_option linter.unusedVariables false
namespace Go.Proofs.YtjblpcgkffhgfaaGreat
open Go Go.RowKit Am

abbrev dpR (k n:Int) (xs ps:List Int):AV := .tup [inT k,inT n,.one (.b (.sl (.ints xs))),.one (.b (.sl (.ints ps)))]
theorem drawPlan_x {bs:List Int} (hb:∀ b∈bs,0≤b∧b<256):∃ k n xs ps ms,ps.length≤62∧ms.length≤62∧Does Tryz.prog 7 [.lf (.b (.raw bs))] (.imm (dpR k n xs ps))∧Does Tryz.prog 8 [.lf (.b (.raw bs))] (.imm (dpR k n xs ms)):=by
  have hc:CuOK 0 (bs,0,0):=⟨hb,Int.le_refl _,Int.le_refl _⟩
  obtain ⟨k,n,xs,c1,a1,a2,a3,b1,d1⟩:=paging_h (c:=(bs,0,0)) (hc.mono (by omega))
  have hc1:=b1 _ hc
  obtain ⟨ps,c2,a4,b2,d2⟩:=plan_h (k:=k) (n:=n) (xs:=xs) (c:=c1) a2 a3 a1 (hc1.mono (by omega))
  have hD:Does Tryz.prog 7 [.lf (.b (.raw bs))] (.imm (dpR k n xs ps)):=by
    refine spec_imm Tryz.func7 rfl Tryz.ntmps7 cfOK (fun _ _=>by kernel_rfl) rfl (Nat.le_of_ble_eq_true rfl) ?_
    intro M0 w0
    rw [Tryz.results7]
    refine amGo ?_
    (refine .inr (.inl (callW_a [0] (d1) rfl rfl rfl rfl ⟨rfl,trivial⟩ rfl rfl rfl rfl ?_));refine amC ?_)
    refine amGo ?_
    (refine .inr (.inl (callW_a [0] (d2) rfl rfl rfl rfl ⟨rfl,trivial⟩ rfl rfl rfl rfl ?_));refine amC ?_)
    refine amGo ?_
    (simp only [xec,simprocAttr];refine ⟨[_,_,_,_],⟨rfl,rfl,rfl,rfl,trivial⟩,rfl,Imp.eq ?_⟩)
    rfl
  have hE:∃ ms,ms.length≤62∧Does Tryz.prog 8 [.lf (.b (.raw bs))] (.imm (dpR k n xs ms)):=by
    cases hp:pgB k n xs
    · obtain ⟨ms,c3,q1,_,d3⟩:=marks_h (xs:=xs) (c:=c1) a1 (hc1.mono (by omega))
      refine ⟨ms,q1,?_⟩
      refine spec_imm Tryz.func8 rfl Tryz.ntmps8 cfOK (fun _ _=>by kernel_rfl) rfl (Nat.le_of_ble_eq_true rfl) ?_
      intro M0 w0
      rw [Tryz.results8]
      refine amGo ?_
      (refine .inr (.inl (callW_a [0] (d1) rfl rfl rfl rfl ⟨rfl,trivial⟩ rfl rfl rfl rfl ?_));refine amC ?_)
      refine amGo ?_
      ((try refine Or.inl ?_);refine ⟨_,(l5Takes_d k n xs),.inl rfl,?_⟩;refine amC ?_)
      rw [hp]
      refine amGo ?_
      (refine .inr (.inr (callW_gf (.bool false) (by first | rfl | (simp only [xr,simprocAttr];done)) rfl ?_));refine amC ?_)
      refine amGo ?_
      refine awp_cond amQ (fun e1 => ?_) (fun e1 => ?_)
      · simp at e1
      refine amGo ?_
      (refine .inr (.inl (callW_a [0] (d3) rfl rfl rfl rfl ⟨rfl,trivial⟩ rfl rfl rfl rfl ?_));refine amC ?_)
      refine amGo ?_
      (simp only [xec,simprocAttr];refine ⟨[_,_,_,_],⟨rfl,rfl,rfl,rfl,trivial⟩,rfl,Imp.eq ?_⟩)
      rfl
    · have hok:=pg_ok hp
      have hs1:=hok.s1
      have hs2:=hok.s2
      have hn1:=hok.n1
      have hn2:=hok.n2
      have hlen:=hok.len
      have hpg:PgOK n.toNat xs:=⟨fun i hi=>by
        have:=hok.all (xs.getD i 0) (by rw [getD_inL hi];exact List.getElem_mem _)
        omega,fun i hi=>by
        have:=hok.all (xs.getD i 0) (by rw [getD_inL hi];exact List.getElem_mem _)
        omega⟩
      obtain ⟨u,hu⟩:∃ u:Nat,n=(u:Int):=⟨n.toNat,by omega⟩
      have d4:=one_h (n:=2) (c:=c1) (hc1.mono (by omega))
      have hc2:=pkC_ok (n:=2) hc1
      by_cases h2:pkV 2 c1=0
      · have hol:=outS_len k u xs xs.length 0
        have d5:=l5Find_d k u xs (by omega) hs2 (by omega) (by omega) hlen (by rw [hu] at hpg;simpa using hpg)
        rw [← hu] at d5
        refine ⟨outS k u xs xs.length 0,by omega,?_⟩
        refine spec_imm Tryz.func8 rfl Tryz.ntmps8 cfOK (fun _ _=>by kernel_rfl) rfl (Nat.le_of_ble_eq_true rfl) ?_
        intro M0 w0
        rw [Tryz.results8]
        refine amGo ?_
        (refine .inr (.inl (callW_a [0] (d1) rfl rfl rfl rfl ⟨rfl,trivial⟩ rfl rfl rfl rfl ?_));refine amC ?_)
        refine amGo ?_
        ((try refine Or.inl ?_);refine ⟨_,(l5Takes_d k n xs),.inl rfl,?_⟩;refine amC ?_)
        rw [hp]
        refine amGo ?_
        (refine .inr (.inr (callW_gt [0] (d4) (by first | rfl | (simp only [xr,simprocAttr];done)) rfl rfl rfl ⟨rfl,trivial⟩ rfl rfl rfl rfl ?_));refine amC ?_)
        refine amGo ?_
        refine awp_cond amQ (fun e1 => ?_) (fun e1 => ?_)
        · refine amGo ?_
          ((try refine Or.inl ?_);refine ⟨_,(d5),amF,?_⟩;refine amC ?_)
          refine amGo ?_
          (simp only [xec,simprocAttr];refine ⟨[_,_,_,_],⟨rfl,rfl,rfl,rfl,trivial⟩,rfl,Imp.eq ?_⟩)
          rfl
        · simp [h2] at e1
      · obtain ⟨ms,c3,q1,_,d3⟩:=marks_h (xs:=xs) (c:=pkC 2 c1) a1 (hc2.mono (by omega))
        refine ⟨ms,q1,?_⟩
        refine spec_imm Tryz.func8 rfl Tryz.ntmps8 cfOK (fun _ _=>by kernel_rfl) rfl (Nat.le_of_ble_eq_true rfl) ?_
        intro M0 w0
        rw [Tryz.results8]
        refine amGo ?_
        (refine .inr (.inl (callW_a [0] (d1) rfl rfl rfl rfl ⟨rfl,trivial⟩ rfl rfl rfl rfl ?_));refine amC ?_)
        refine amGo ?_
        ((try refine Or.inl ?_);refine ⟨_,(l5Takes_d k n xs),.inl rfl,?_⟩;refine amC ?_)
        rw [hp]
        refine amGo ?_
        (refine .inr (.inr (callW_gt [0] (d4) (by first | rfl | (simp only [xr,simprocAttr];done)) rfl rfl rfl ⟨rfl,trivial⟩ rfl rfl rfl rfl ?_));refine amC ?_)
        refine amGo ?_
        refine awp_cond amQ (fun e1 => ?_) (fun e1 => ?_)
        · simp [h2] at e1
        refine amGo ?_
        (refine .inr (.inl (callW_a [0] (d3) rfl rfl rfl rfl ⟨rfl,trivial⟩ rfl rfl rfl rfl ?_));refine amC ?_)
        refine amGo ?_
        (simp only [xec,simprocAttr];refine ⟨[_,_,_,_],⟨rfl,rfl,rfl,rfl,trivial⟩,rfl,Imp.eq ?_⟩)
        rfl
  obtain ⟨ms,q1,q2⟩:=hE
  exact ⟨k,n,xs,ps,ms,a4,q1,hD,q2⟩
end Go.Proofs.YtjblpcgkffhgfaaGreat
