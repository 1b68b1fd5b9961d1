/- The place of a number in a list, on the machine: the library's. Conditions: none. -/
import Derived.Test.YtjblpcgkffhgfaaGreatME
import Derived.Test.YtjblpcgkffhgfaaGreatGBA
set_option linter.all false
set_option linter.unusedSimpArgs false
set_option linter.unusedVariables false
namespace Go.Proofs.YtjblpcgkffhgfaaGreat
open Go Go.RowKit Am

theorem index_d (xs:List Int) (x:Int):Does Tryz.prog 103 [.sl (.ints xs),.int x] (.imm (.int (idxOf (fun y=>decide (x=y)) xs))):=by
  refine spec_imm Tryz.func103 rfl Tryz.ntmps103 cfOK (fun _ _=>by kernel_rfl) rfl (Nat.le_of_ble_eq_true rfl) ?_
  intro M0 w0
  rw [Tryz.results103]
  (refine awp_fits 0 rfl fun hf => ?_;simp only [xp,simprocAttr] at hf;simp only [xf,simprocAttr] at hf)
  refine amGo ?_
  refine awp_rounds (α:=Nat) (fun k=>[(8,true,.int k)]) [0,1,7] (fun _=>[]) (fun k=>k≤xs.length∧∀ y∈xs.take k,decide (x=y)=false) (fun k=>xs.length-k) 0 (by ((try simp only [xk]);(repeat (refine leK_cons ?_ ?_;first | (exact amE) | rotate_left));(try exact leK_nil rfl);(all_goals (try (simp only [xr,simprocAttr];try refine int_eq1 ?_))))) ⟨Nat.zero_le _,by simp⟩ fun k hk => ?_
  obtain ⟨hk,hp⟩:=hk
  simp only [xr,simprocAttr]
  refine amGo ?_
  refine awp_cond amQ (fun hc => ?_) (fun hc => ?_)
  · have hk':k<xs.length:=by have:=of_decide_eq_true hc;omega
    have hx:xs.getD k 0=xs[k]:=by simp [hk']
    refine amGo ?_
    refine awp_cond amQ (fun hd => ?_) (fun hd => ?_)
    · refine amGo ?_
      (simp only [xe,simprocAttr];refine ⟨_,rfl,rfl,Imp.eq ?_⟩)
      rw [hx] at hd
      rw [idxOf_some hk' (p:=fun y=>decide (x=y)) hd hp]
    · refine amGo ?_
      refine ⟨k+1,by omega,fun y hy => ?_,by omega,.inl ?_⟩
      · rw [List.take_succ_eq_append_getElem hk',List.mem_append,List.mem_singleton] at hy
        rcases hy with hy | rfl
        · exact hp y hy
        · rw [← hx];exact hd
      · ((try simp only [xk]);(repeat (refine leK_cons ?_ ?_;first | (exact amE) | rotate_left));(try exact leK_nil rfl);(all_goals (try (simp only [xr,simprocAttr];try refine int_eq1 ?_))))
  · have hk':k=xs.length:=by have:=of_decide_eq_false hc;omega
    subst hk'
    rw [List.take_length] at hp
    refine amGo ?_
    (simp only [xe,simprocAttr];refine ⟨_,rfl,rfl,Imp.eq ?_⟩)
    rw [idxOf_none hp]
end Go.Proofs.YtjblpcgkffhgfaaGreat
