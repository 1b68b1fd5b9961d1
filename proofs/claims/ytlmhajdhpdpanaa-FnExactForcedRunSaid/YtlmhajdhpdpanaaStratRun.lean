/- Runs of strategies on the machine. Conditions: those that each names. -/
import Derived.Test.YtlmhajdhpdpanaaStratP
import Derived.Test.YtlmhajdhpdpanaaMarkSz
set_option linter.all false
set_option linter.unusedSimpArgs false
set_option linter.unusedVariables false
namespace Go.Proofs.Ytlmhajdhpdpanaa
open Go Go.RowKit Am

theorem choice1_d (c : List Int) (x : Int) : Does Try.prog 143 [six c, .lf (.ip [.val (.int .i64 x)] 0)] (.imm (.bool (decide (c.getD 5 0 = x)))) := by
  refine spec_imm Try.func143 rfl Try.ntmps143 cfOK (fun _ _ => by kernel_rfl) rfl (Nat.le_of_ble_eq_true rfl) ?_
  intro M0 w0
  rw [Try.results143]
  (repeat (first | refine awp_seq ?_ | refine awp_block ?_ | ((first | refine awp_skip ?_ | refine awp_exit ?_); try simp only [xq, simprocAttr]) | (refine awp_ret ?_; try simp only [xq, simprocAttr]) | ((first | refine awp_reg ?_ | refine awp_anyR (by rfl) (by kernel_rfl) (by kernel_rfl) ?_); simp only [xr, simprocAttr]; repeat (guard_target =~ _ ∧ _; refine And.intro (by first | trivial | (unfold I64; omega) | omega | (refine ⟨?_, ?_⟩ <;> omega) | (simp; done) | (simp; omega) | (intros; omega)) ?_))))
  (simp only [xe, simprocAttr]; refine ⟨_, rfl, rfl, Imp.eq ?_⟩)
  rfl
theorem choice_d {m s : List (List Int)} {g : GmT} {q : List (List Int)} (hg : GmFull m s g) (hq : stratB m s g q = true) {a r : Nat} (ha : a < g.list.length) (hr : r < s.length) :
    Does Try.prog 91 [.lf (.ip [.sl (.k 2 g.list), .sl (.kii 6 g.ch)] 0), .int a, .int r, .int ((q.getD a []).getD r 0)] (.imm (six (chSel g q a r))) := by
  obtain ⟨k, hs⟩ := sel_ok hg hq ha hr
  have hac : a < g.ch.length := by rw [hg.clen]; exact ha
  have hrl := hg.c.len a hac
  have h1 := hs.at_
  have h2 := hs.lt
  have h3 := hs.eq
  have h4 : chRow g a r = (g.ch.getD a []).getD r [] := rfl
  have hix : idxOf (fun c => decide (c.getD 5 0 = (q.getD a []).getD r 0)) (chRow g a r) = k := hs.at_
  refine spec_imm Try.func91 rfl Try.ntmps91 cfOK (fun _ _ => by kernel_rfl) rfl (Nat.le_of_ble_eq_true rfl) ?_
  intro M0 w0
  rw [Try.results91]
  (repeat (first | refine awp_seq ?_ | refine awp_block ?_ | ((first | refine awp_skip ?_ | refine awp_exit ?_); try simp only [xq, simprocAttr]) | (refine awp_ret ?_; try simp only [xq, simprocAttr]) | ((first | refine awp_reg ?_ | refine awp_anyR (by rfl) (by kernel_rfl) (by kernel_rfl) ?_); simp only [xr, simprocAttr]; repeat (guard_target =~ _ ∧ _; refine And.intro (by first | trivial | (unfold I64; omega) | omega | (refine ⟨?_, ?_⟩ <;> omega) | (simp; done) | (simp; omega) | (intros; omega)) ?_))))
  rw [← h4]
  ((first | refine .inl ⟨_, (indexFuncC_d (chRow g a r) _ [.ip [.val (.int .i64 ((q.getD a []).getD r 0))] 0] (fun c => decide (c.getD 5 0 = (q.getD a []).getD r 0)) rfl fun j hj => choice1_d _ _), .inl rfl, ?_⟩ | refine ⟨_, (indexFuncC_d (chRow g a r) _ [.ip [.val (.int .i64 ((q.getD a []).getD r 0))] 0] (fun c => decide (c.getD 5 0 = (q.getD a []).getD r 0)) rfl fun j hj => choice1_d _ _), .inl rfl, ?_⟩); (try simp only [xr, simprocAttr]); repeat (guard_target =~ _ ∧ _; refine And.intro (by first | trivial | (unfold I64; omega) | omega | (refine ⟨?_, ?_⟩ <;> omega) | (simp; done) | (simp; omega) | (intros; omega)) ?_))
  rw [hix, Int.toNat_natCast]
  (repeat (guard_target =~ _ ∧ _; refine And.intro (by first | trivial | (unfold I64; omega) | omega | (refine ⟨?_, ?_⟩ <;> omega) | (simp; done) | (simp; omega) | (intros; omega)) ?_))
  (repeat (first | refine awp_seq ?_ | refine awp_block ?_ | ((first | refine awp_skip ?_ | refine awp_exit ?_); try simp only [xq, simprocAttr]) | (refine awp_ret ?_; try simp only [xq, simprocAttr]) | ((first | refine awp_reg ?_ | refine awp_anyR (by rfl) (by kernel_rfl) (by kernel_rfl) ?_); simp only [xr, simprocAttr]; repeat (guard_target =~ _ ∧ _; refine And.intro (by first | trivial | (unfold I64; omega) | omega | (refine ⟨?_, ?_⟩ <;> omega) | (simp; done) | (simp; omega) | (intros; omega)) ?_))))
  (simp only [xec, simprocAttr]; refine ⟨_, ⟨by simp only [xr, simprocAttr] <;> (and_intros <;> first | trivial | (unfold I64; omega) | omega | (refine ⟨?_, ?_⟩ <;> omega) | (simp; done) | (simp; omega) | (intros; omega)), rfl⟩, rfl, Imp.eq ?_⟩)
  rw [h3]
  rfl
def srB (m s : List (List Int)) (x : Int) (q : List (List Int)) (rs : List Int) : Bool := !(gmQ m s x).2 && stratB m s (gmQ m s x).1 q && seqB s.length rs
def srOut (m s : List (List Int)) (x : Int) (q : List (List Int)) (rs : List Int) : List Int := rOut (gmQ m s x).1 q 0 rs
def srSum (m s : List (List Int)) (x : Int) (q : List (List Int)) (rs : List Int) : Int := rSum (gmQ m s x).1 q 0 rs
theorem srB_ok {m s : List (List Int)} {x : Int} {q : List (List Int)} {rs : List Int} (h : srB m s x q rs = true) : (gmQ m s x).2 = false ∧ stratB m s (gmQ m s x).1 q = true ∧ seqB s.length rs = true := by
  unfold srB at h
  simp only [Bool.and_eq_true, Bool.not_eq_true'] at h
  exact ⟨h.1.1, h.1.2, h.2⟩
theorem srOut_len {m s : List (List Int)} {x : Int} {q : List (List Int)} {rs : List Int} (h : srB m s x q rs = true) : (srOut m s x q rs).length ≤ 60 := by
  unfold srOut
  rw [rOut_len]
  exact (seq_reqs (srB_ok h).2.2).2
theorem srB_no {m s : List (List Int)} {x : Int} {q : List (List Int)} {rs : List Int} (h : srB m s x q rs = false) (h1 : (gmQ m s x).2 = false) : (bif !stratB m s (gmQ m s x).1 q then true else !seqB s.length rs) = true := by
  unfold srB at h
  rw [h1] at h
  revert h
  cases stratB m s (gmQ m s x).1 q <;> cases seqB s.length rs <;> decide
theorem takes_seqs {m s : List (List Int)} {x : Int} {rs : List Int} (h : takesB m s x [] = true) : takesB m s x rs = seqB s.length rs := by
  unfold takesB at h ⊢
  simp only [Bool.and_eq_true] at h
  rw [h.1.1, h.1.2]
  rfl
end Go.Proofs.Ytlmhajdhpdpanaa
