/- ExtraCost, on the machine: the program's and the reference's, as the law wants them. Conditions: none. -/
import Derived.Test.YtlhdeofkhajigaaGreatGLO
set_option linter.all false
set_option linter.unusedSimpArgs false
set_option linter.unusedVariables false
namespace Go.Proofs.YtlhdeofkhajigaaGreat
open Go Go.RowKit Am

noncomputable def xcB (m s nx : List (List Int)) (x : Int) (a : Int × Int) : (Int × Int) × Bool := match ptO m s nx x a with
  | none => ((0, 0), false)
  | some w => (mkFr (w.getD 0 0) a.2, mkOk (w.getD 0 0) a.2)
set_option maxHeartbeats 2000000 in
theorem spec_ExtraCost_d (m s nx : List (List Int)) (x : Int) (a : Int × Int) : Does Tryz.prog 27 [prA m s, .sl (.ii nx), .int x, frA a] (.imm (.tup [frT (xcB m s nx x a).1, blT (xcB m s nx x a).2])) := by
  have hG := spec_FindPotential_v m s nx x a
  unfold xcB
  cases hc : ptO m s nx x a with
  | none =>
    rw [hc] at hG
    have hG : Does _ _ _ (.imm (.tup [.one (.b (.sl (.ints []))), .one (.b (.val (.bool false)))])) := hG
    refine spec_imm Tryz.func27 rfl Tryz.ntmps27 cfOK (fun _ _ => by kernel_rfl) rfl (Nat.le_of_ble_eq_true rfl) ?_
    intro M0 w0
    rw [Tryz.results27]
    refine amGo ?_
    ((try refine Or.inl ?_); refine ⟨_, (hG), amF, ?_⟩; refine amC ?_)
    refine amGo ?_
    refine awp_cond amQ (fun hr => ?_) (fun hr => ?_)
    · refine amGo ?_
      (simp only [xec, simprocAttr]; refine ⟨[_, _], ⟨⟨amK, rfl⟩, rfl, trivial⟩, rfl, Imp.eq ?_⟩)
      rfl
    · cases hr
  | some w =>
    rw [hc] at hG
    have hG : Does _ _ _ (.imm (.tup [.one (.b (.sl (.ints w))), .one (.b (.val (.bool true)))])) := hG
    obtain ⟨h1, h2, h3, h4, h5, h6⟩ := ptO_ok hc
    have hmk := l2Make_d (w.getD 0 0) a.2 h5 (by omega) (by omega) (by omega)
    refine spec_imm Tryz.func27 rfl Tryz.ntmps27 cfOK (fun _ _ => by kernel_rfl) rfl (Nat.le_of_ble_eq_true rfl) ?_
    intro M0 w0
    rw [Tryz.results27]
    refine amGo ?_
    ((try refine Or.inl ?_); refine ⟨_, (hG), amF, ?_⟩; refine amC ?_)
    refine amGo ?_
    refine awp_cond amQ (fun hr => ?_) (fun hr => ?_)
    · cases hr
    (refine amB ?_; refine awp_anyM [2] 8 [] (by kernel_rfl) (by kernel_rfl) (by kernel_rfl) (by kernel_rfl) (by kernel_rfl) ?_; refine amM ?_)
    ((try refine Or.inl ?_); refine ⟨_, (hmk), .inl rfl, ?_⟩; refine amC ?_)
    refine amGo ?_
    (simp only [xec, simprocAttr]; refine ⟨[_, _], ⟨⟨amK, rfl⟩, rfl, trivial⟩, rfl, Imp.eq ?_⟩)
    rfl
set_option maxHeartbeats 2000000 in
theorem impl_ExtraCost_d (m s nx : List (List Int)) (x : Int) (a : Int × Int) : Does Tryz.prog 26 [prA m s, .sl (.ii nx), .int x, frA a] (.imm (.tup [frT (xcB m s nx x a).1, blT (xcB m s nx x a).2])) := by
  have hG := imm_of (impl_FindPotential_v m s nx x a)
  unfold xcB
  cases hc : ptO m s nx x a with
  | none =>
    rw [hc] at hG
    have hG : Does _ _ _ (.imm (.tup [.one (.b (.val (.slice none 0 0))), .one (.b (.val (.bool false)))])) := hG
    refine spec_imm Tryz.func26 rfl Tryz.ntmps26 cfOK (fun _ _ => by kernel_rfl) rfl (Nat.le_of_ble_eq_true rfl) ?_
    intro M0 w0
    rw [Tryz.results26]
    refine amGo ?_
    ((try refine Or.inl ?_); refine ⟨_, (hG), .inl rfl, ?_⟩; refine amC ?_)
    refine amGo ?_
    refine awp_cond amQ (fun hr => ?_) (fun hr => ?_)
    · refine amGo ?_
      (simp only [xec, simprocAttr]; refine ⟨[_, _], ⟨⟨amK, rfl⟩, rfl, trivial⟩, rfl, Imp.eq ?_⟩)
      rfl
    · cases hr
  | some w =>
    rw [hc] at hG
    have hG : Does _ _ _ (.imm (.tup [.one (.b (.sl (.ints w))), .one (.b (.val (.bool true)))])) := hG
    obtain ⟨h1, h2, h3, h4, h5, h6⟩ := ptO_ok hc
    have hmk := makeFrac_d (w.getD 0 0) a.2 h5 (by omega) (by omega) (by omega)
    refine spec_imm Tryz.func26 rfl Tryz.ntmps26 cfOK (fun _ _ => by kernel_rfl) rfl (Nat.le_of_ble_eq_true rfl) ?_
    intro M0 w0
    rw [Tryz.results26]
    refine amGo ?_
    ((try refine Or.inl ?_); refine ⟨_, (hG), amF, ?_⟩; refine amC ?_)
    refine amGo ?_
    refine awp_cond amQ (fun hr => ?_) (fun hr => ?_)
    · cases hr
    (refine amB ?_; refine awp_anyM [2] 8 [] (by kernel_rfl) (by kernel_rfl) (by kernel_rfl) (by kernel_rfl) (by kernel_rfl) ?_; refine amM ?_)
    ((try refine Or.inl ?_); refine ⟨_, (hmk), .inl rfl, ?_⟩; refine amC ?_)
    refine amGo ?_
    (simp only [xec, simprocAttr]; refine ⟨[_, _], ⟨⟨amK, rfl⟩, rfl, trivial⟩, rfl, Imp.eq ?_⟩)
    rfl
end Go.Proofs.YtlhdeofkhajigaaGreat
