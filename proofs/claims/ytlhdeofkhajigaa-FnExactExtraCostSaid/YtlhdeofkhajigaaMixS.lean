/- Mixtures by the reference's functions, on the machine. Conditions: none. -/
import Derived.Test.YtlhdeofkhajigaaMix
set_option linter.all false
set_option linter.unusedSimpArgs false
set_option linter.unusedVariables false
namespace Go.Proofs.Ytlhdeofkhajigaa
open Go Go.RowKit Am

theorem toOk_bif {n : Nat} {s : List (List Int)} {r : Nat} {x : Int} : (bif !rng x 0 ((n : Int) - 1) then true else decide ((s.getD r []).getD x.toNat 0 < 0)) = !toOk n s r x := by
  show (bif !rng x 0 ((n : Int) - 1) then true else decide (at2 s r x.toNat < 0)) = _
  unfold toOk
  cases rng x 0 ((n : Int) - 1)
  · rfl
  · by_cases h : at2 s r x.toNat < 0
    · simp [h]
    · simp [h]; omega
theorem l8Alg_d (m s next : List (List Int)) (hrow : ∀ r, r < s.length → (s.getD r []).length = m.length) : Does Try.prog 79 [prA m s, .sl (.ii next)] (.imm (.bool (algB m s next))) := by
  refine spec_imm Try.func79 rfl Try.ntmps79 cfOK (fun _ _ => by kernel_rfl) rfl (Nat.le_of_ble_eq_true rfl) ?_
  intro M0 w0
  rw [Try.results79]
  (refine awp_fits 0 rfl fun hf => ?_; simp only [xp, simprocAttr] at hf; simp only [xf, simprocAttr] at hf)
  (refine awp_fits 1 rfl fun hg => ?_; simp only [xp, simprocAttr] at hg; simp only [xf, simprocAttr] at hg)
  obtain ⟨hg1, hg2⟩ := hg
  refine amGo ?_
  refine awp_cond amQ (fun hc => ?_) (fun hc => ?_)
  · have hn : next.length ≠ m.length := by simp at hc; omega
    refine amGo ?_
    (simp only [xe, simprocAttr]; refine ⟨_, rfl, rfl, Imp.eq ?_⟩)
    rw [algB_len hn]
  have hl : next.length = m.length := by simp at hc; omega
  rw [algB_yes hl]
  refine amGo ?_
  refine awp_rounds (α := Nat) (fun k => [(5, true, .int k)]) [1, 2] (fun _ => [.box [.b (.sl (.ii m)), .b (.sl (.ii s))]]) (fun k => k ≤ next.length ∧ ∀ i (hi : i < k), servB m.length s (next.getD i []) = true) (fun k => next.length - k) 0 (by ((try simp only [xk]); (repeat (refine leK_cons ?_ ?_; first | (exact amE) | rotate_left)); (try exact leK_nil rfl); (all_goals (try (simp only [xr, simprocAttr]; try refine int_eq1 ?_))))) ⟨Nat.zero_le _, fun r hr => by omega⟩ fun k hk => ?_
  obtain ⟨hk, hp⟩ := hk
  simp only [xr, simprocAttr]
  refine amGo ?_
  refine awp_cond amQ (fun hd => ?_) (fun hd => ?_)
  · have hk' : k < next.length := by simpa using hd
    have hno : servB m.length s (next.getD k []) = false → next.all (servB m.length s) = false := fun h => by
      rw [List.all_eq_false]
      exact ⟨next[k], List.getElem_mem hk', by rw [getD_in hk'] at h; simp [h]⟩
    have hlen := hg2 (next.getD k []) (by rw [getD_in hk']; exact List.getElem_mem hk')
    refine amGo ?_
    refine awp_cond amQ (fun he => ?_) (fun he => ?_)
    · have hn : (next.getD k []).length ≠ s.length := by simp at he ⊢; omega
      refine amGo ?_
      (simp only [xe, simprocAttr]; refine ⟨_, rfl, rfl, Imp.eq ?_⟩)
      rw [hno (servB_len hn)]
    have hm : (next.getD k []).length = s.length := by simp at he ⊢; omega
    refine amGo ?_
    refine awp_rounds (α := Nat) (fun j => [(6, true, .int j)]) [1, 2, 5] (fun _ => [.box [.b (.sl (.ii m)), .b (.sl (.ii s))]]) (fun j => j ≤ (next.getD k []).length ∧ ∀ r (hr : r < j), toOk m.length s r ((next.getD k []).getD r 0) = true) (fun j => (next.getD k []).length - j) 0 (by ((try simp only [xk]); (repeat (refine leK_cons ?_ ?_; first | (exact amE) | rotate_left)); (try exact leK_nil rfl); (all_goals (try (simp only [xr, simprocAttr]; try refine int_eq1 ?_))))) ⟨Nat.zero_le _, fun r hr => by omega⟩ fun j hj => ?_
    obtain ⟨hj, hq⟩ := hj
    simp only [xr, simprocAttr]
    refine amGo ?_
    refine awp_cond amQ (fun hu => ?_) (fun hu => ?_)
    · have hj' : j < (next.getD k []).length := by simp at hu ⊢; omega
      have hr := hrow j (by omega)
      refine amGo ?_
      refine ⟨_, l1In_d _ _ _, .inl rfl, ?_⟩
      simp only [xr, simprocAttr]
      refine amS ?_
      refine And.intro (fun h => ?_) ?_
      · have h := rng_iff.1 h
        exact ⟨by decide, h.1, by omega⟩
      rw [toOk_bif (n := m.length) (s := s) (r := j)]
      refine awp_cond amQ (fun hv => ?_) (fun hv => ?_)
      · simp only [Bool.not_eq_true'] at hv
        refine amGo ?_
        (simp only [xe, simprocAttr]; refine ⟨_, rfl, rfl, Imp.eq ?_⟩)
        rw [hno (servB_no hj' (by rw [← getD_in (d := 0) hj']; exact hv))]
      · simp only [Bool.not_eq_false'] at hv
        refine amGo ?_
        refine ⟨j + 1, by omega, fun r hr => ?_, by omega, .inl ?_⟩
        · rcases Nat.lt_or_ge r j with h1 | h1
          · exact hq r h1
          · rw [show r = j by omega]; exact hv
        · ((try simp only [xk]); (repeat (refine leK_cons ?_ ?_; first | (exact amE) | rotate_left)); (try exact leK_nil rfl); (all_goals (try (simp only [xr, simprocAttr]; try refine int_eq1 ?_))))
    · have hj' : j = (next.getD k []).length := by have hu := of_decide_eq_false hu; omega
      subst hj'
      have hv : servB m.length s (next.getD k []) = true := servB_yes hm fun r hr => by rw [← getD_in (d := 0) hr]; exact hq r hr
      refine amGo ?_
      refine ⟨k + 1, by omega, fun i hi => ?_, by omega, .inl ?_⟩
      · rcases Nat.lt_or_ge i k with h1 | h1
        · exact hp i h1
        · rw [show i = k by omega]; exact hv
      · ((try simp only [xk]); (repeat (refine leK_cons ?_ ?_; first | (exact amE) | rotate_left)); (try exact leK_nil rfl); (all_goals (try (simp only [xr, simprocAttr]; try refine int_eq1 ?_))))
  · have hk' : k = next.length := by simp at hd; omega
    subst hk'
    refine amGo ?_
    (simp only [xe, simprocAttr]; refine ⟨_, rfl, rfl, Imp.eq ?_⟩)
    rw [show next.all (servB m.length s) = true from List.all_eq_true.2 fun x hx => by
      obtain ⟨i, hi, rfl⟩ := List.mem_iff_getElem.1 hx
      rw [← getD_in (d := []) hi]
      exact hp i hi]
end Go.Proofs.Ytlhdeofkhajigaa
