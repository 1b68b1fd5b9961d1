/- Lists in new memory, on the machine: the program's. Conditions: small tables. -/
import Derived.Test.YtlhdeofkhajigaaCloneA
import Derived.Test.YtlhdeofkhajigaaME
import Derived.Test.YtlhdeofkhajigaaSlices
set_option linter.all false
set_option linter.unusedSimpArgs false
set_option linter.unusedVariables false
namespace Go.Proofs.Ytlhdeofkhajigaa
open Go Go.RowKit Am

theorem ownTable_h (m : List (List Int)) (hm : m.length ≤ 100) (hr : ∀ r ∈ m, r.length ≤ 100) : DoesH Try.prog 52 [.sl (.ii m)] [] [] (.lf (.own 0)) [.tree [29, 3] (.ii m)] := by
  refine spec_hB Try.func52 rfl Try.ntmps52 cfOK (fun _ _ => by kernel_rfl) rfl rfl rfl ?_
  intro M0 w0 S φ0
  rw [Try.results52]
  refine amGo ?_
  (refine awp_toT 0 3 [] rfl rfl rfl ?_; simp only [xu, simprocAttr])
  refine awp_rounds (α := Nat) (fun k => [(9, true, .int k)]) [3, 7, 8] (fun k => [.tree [29, 3] (.ii (m.take k))]) (fun k => k ≤ m.length) (fun k => m.length - k) 0 (by ((try simp only [xk]); (repeat (refine leK_cons ?_ ?_; first | (exact amE) | rotate_left)); (refine leK_nil ?_; exact (by rfl)); (all_goals (try (simp only [xr, simprocAttr]; try refine int_eq1 ?_))))) (Nat.zero_le _) fun k hk => ?_
  have hml : (m.take k).length ≤ k := by rw [List.length_take]; omega
  simp only [xr, simprocAttr]
  refine amGo ?_
  refine awp_cond amQ (fun hc => ?_) (fun hc => ?_)
  · have hc := of_decide_eq_true hc
    have hk' : k < m.length := by omega
    have hrl : (m.getD k []).length ≤ 100 := by rw [getD_in hk']; exact hr _ (List.getElem_mem _)
    have hnx := take_getD hk' []
    refine amGo ?_
    (refine .inr (.inl (callW_b (clone_a (m.getD k []) (by omega)) rfl rfl rfl rfl rfl rfl rfl ?_)); refine amC ?_)
    refine amGo ?_
    refine ⟨k + 1, by omega, by omega, .inr ⟨1, Nat.le_of_ble_eq_true rfl, leT_of ?_ rfl rfl rfl⟩⟩
    ((try simp only [xk]); (repeat (refine leK_cons ?_ ?_; first | (exact amE) | rotate_left)); (refine leK_nil ?_; exact (by rw [hnx]; rfl)); (all_goals (try (simp only [xr, simprocAttr]; try refine int_eq1 ?_))))
  · have hc := of_decide_eq_false hc
    obtain rfl : k = m.length := by omega
    rw [List.take_length]
    refine amGo ?_
    (simp only [ends_normal, ends_ret]; refine retH_1 [0] rfl ⟨rfl, trivial⟩ rfl rfl rfl rfl rfl ?_; try rfl)
end Go.Proofs.Ytlhdeofkhajigaa
/- The place of a number in a list, on the machine: the library's. Conditions: none. -/
set_option linter.all false
set_option linter.unusedSimpArgs false
set_option linter.unusedVariables false
namespace Go.Proofs.Ytlhdeofkhajigaa
open Go Go.RowKit Am

theorem index_d (xs : List Int) (x : Int) : Does Try.prog 53 [.sl (.ints xs), .int x] (.imm (.int (idxOf (fun y => decide (x = y)) xs))) := by
  refine spec_imm Try.func53 rfl Try.ntmps53 cfOK (fun _ _ => by kernel_rfl) rfl (Nat.le_of_ble_eq_true rfl) ?_
  intro M0 w0
  rw [Try.results53]
  (refine awp_fits 0 rfl fun hf => ?_; simp only [xp, simprocAttr] at hf; simp only [xf, simprocAttr] at hf)
  refine amGo ?_
  refine awp_rounds (α := Nat) (fun k => [(8, true, .int k)]) [0, 1, 7] (fun _ => []) (fun k => k ≤ xs.length ∧ ∀ y ∈ xs.take k, decide (x = y) = false) (fun k => xs.length - k) 0 (by ((try simp only [xk]); (repeat (refine leK_cons ?_ ?_; first | (exact amE) | rotate_left)); (try exact leK_nil rfl); (all_goals (try (simp only [xr, simprocAttr]; try refine int_eq1 ?_))))) ⟨Nat.zero_le _, by simp⟩ fun k hk => ?_
  obtain ⟨hk, hp⟩ := hk
  simp only [xr, simprocAttr]
  refine amGo ?_
  refine awp_cond amQ (fun hc => ?_) (fun hc => ?_)
  · have hk' : k < xs.length := by have := of_decide_eq_true hc; omega
    have hx : xs.getD k 0 = xs[k] := by simp [hk']
    refine amGo ?_
    refine awp_cond amQ (fun hd => ?_) (fun hd => ?_)
    · refine amGo ?_
      (simp only [xe, simprocAttr]; refine ⟨_, rfl, rfl, Imp.eq ?_⟩)
      rw [hx] at hd
      rw [idxOf_some hk' (p := fun y => decide (x = y)) hd hp]
    · refine amGo ?_
      refine ⟨k + 1, by omega, fun y hy => ?_, by omega, .inl ?_⟩
      · rw [List.take_succ_eq_append_getElem hk', List.mem_append, List.mem_singleton] at hy
        rcases hy with hy | rfl
        · exact hp y hy
        · rw [← hx]; exact hd
      · ((try simp only [xk]); (repeat (refine leK_cons ?_ ?_; first | (exact amE) | rotate_left)); (try exact leK_nil rfl); (all_goals (try (simp only [xr, simprocAttr]; try refine int_eq1 ?_))))
  · have hk' : k = xs.length := by have := of_decide_eq_false hc; omega
    subst hk'
    rw [List.take_length] at hp
    refine amGo ?_
    (simp only [xe, simprocAttr]; refine ⟨_, rfl, rfl, Imp.eq ?_⟩)
    rw [idxOf_none hp]
end Go.Proofs.Ytlhdeofkhajigaa
/- The program's comparison of fractions, on the machine. Conditions: products that are ints. -/
set_option linter.all false
set_option linter.unusedSimpArgs false
set_option linter.unusedVariables false
namespace Go.Proofs.Ytlhdeofkhajigaa
open Go Go.RowKit Am

theorem isNaN_d (x : Int) : Does Try.prog 105 [.int x] (.imm (.bool false)) := by
  refine spec_imm Try.func105 rfl Try.ntmps105 cfOK (fun _ _ => by kernel_rfl) rfl (Nat.le_of_ble_eq_true rfl) ?_
  intro M0 w0
  rw [Try.results105]
  refine amGo ?_
  (simp only [xe, simprocAttr]; refine ⟨_, rfl, rfl, Imp.eq ?_⟩)
  simp
def cmpQ (x y : Int) : Int := if x < y then -1 else if y < x then 1 else 0
theorem compareI_d (x y : Int) : Does Try.prog 77 [.int x, .int y] (.imm (.int (cmpQ x y))) := by
  refine spec_imm Try.func77 rfl Try.ntmps77 cfOK (fun _ _ => by kernel_rfl) rfl (Nat.le_of_ble_eq_true rfl) ?_
  intro M0 w0
  rw [Try.results77]
  refine amGo ?_
  ((try refine Or.inl ?_); refine ⟨_, (isNaN_d x), .inl rfl, ?_⟩; refine amC ?_)
  refine amGo ?_
  ((try refine Or.inl ?_); refine ⟨_, (isNaN_d y), .inl rfl, ?_⟩; refine amC ?_)
  refine amGo ?_
  refine awp_cond amQ (fun h1 => ?_) (fun h1 => ?_)
  · cases h1
  refine amGo ?_
  refine awp_cond amQ (fun h2 => ?_) (fun h2 => ?_)
  · cases h2
  refine amGo ?_
  refine awp_cond amQ (fun h3 => ?_) (fun h3 => ?_)
  · have h3 := of_decide_eq_true h3
    refine amGo ?_
    (simp only [xe, simprocAttr]; refine ⟨_, rfl, rfl, Imp.eq ?_⟩)
    unfold cmpQ
    rw [if_pos h3]
  have h3 := of_decide_eq_false h3
  refine amGo ?_
  refine awp_cond amQ (fun h4 => ?_) (fun h4 => ?_)
  · have h4 := of_decide_eq_true h4
    refine amGo ?_
    (simp only [xe, simprocAttr]; refine ⟨_, rfl, rfl, Imp.eq ?_⟩)
    unfold cmpQ
    rw [if_neg h3, if_pos h4]
  have h4 := of_decide_eq_false h4
  refine amGo ?_
  (simp only [xe, simprocAttr]; refine ⟨_, rfl, rfl, Imp.eq ?_⟩)
  unfold cmpQ
  rw [if_neg h3, if_neg h4]
theorem compareFracs_d (a b : Int × Int) (h1 : I64 (a.1 * b.2)) (h2 : I64 (b.1 * a.2)) : Does Try.prog 51 [frA a, frA b] (.imm (.int (cmpQ (a.1 * b.2) (b.1 * a.2)))) := by
  refine spec_imm Try.func51 rfl Try.ntmps51 cfOK (fun _ _ => by kernel_rfl) rfl (Nat.le_of_ble_eq_true rfl) ?_
  intro M0 w0
  rw [Try.results51]
  refine amGo ?_
  ((try refine Or.inl ?_); refine ⟨_, (compareI_d _ _), .inl rfl, ?_⟩; refine amC ?_)
  refine amGo ?_
  (simp only [xe, simprocAttr]; refine ⟨_, rfl, rfl, Imp.eq ?_⟩)
  rfl
end Go.Proofs.Ytlhdeofkhajigaa
