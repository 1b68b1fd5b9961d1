/- Plans, marks and their bounds: the plain laws. Conditions: those that each names. -/
import Derived.Test.YtobhlnaogbadjaaReqP
set_option linter.all false
set_option linter.unusedSimpArgs false
set_option linter.unusedVariables false
namespace Go.Proofs.Ytobhlnaogbadjaa

/-! ### plans -/
/-- the pages in the cache behind a request, in the order in which they came, where what leaves is told; none if it cannot be -/
def plStep (k : Int) (c : List Int) (page leaves : Int) : Option (List Int) :=
  if c.contains page = true then (if 0 ≤ leaves then none else some c)
  else if (c.contains leaves = false ∧ 0 ≤ leaves) ∨ k < (((c.eraseIdx (c.idxOf leaves)) ++ [page]).length : Int) then none
  else some (c.eraseIdx (c.idxOf leaves) ++ [page])
structure PlS where
  now : List Int
  outs : List (List Int)
  faults : Nat
def plRun (k : Int) (xs ps : List Int) : Nat → Option PlS
  | 0 => some ⟨[], [], 0⟩
  | i + 1 => match plRun k xs ps i with
    | none => none
    | some s => match plStep k s.now (xs.getD i 0) (ps.getD i 0) with
      | none => none
      | some c => some ⟨c, s.outs ++ [rs c], s.faults + (if s.now.contains (xs.getD i 0) = true then 0 else 1)⟩
theorem idx_out {c : List Int} {x : Int} (h : c.contains x = false) : c.eraseIdx (c.idxOf x) = c := by
  have h1 : x ∉ c := fun h2 => by rw [List.contains_iff_mem.2 h2] at h; cases h
  rw [List.idxOf_eq_length h1, List.eraseIdx_of_length_le (Nat.le_refl _)]
theorem erase_nodup {c : List Int} (h : c.Nodup) (i : Nat) : (c.eraseIdx i).Nodup := h.sublist (List.eraseIdx_sublist _ _)
theorem erase_mem {c : List Int} (h : c.Nodup) {x y : Int} : y ∈ c.eraseIdx (c.idxOf x) ↔ y ∈ c ∧ y ≠ x := by
  by_cases hx : x ∈ c
  · rw [← List.erase_eq_eraseIdx_of_idxOf (by rfl : c.idxOf x = _)]
    rw [List.Nodup.mem_erase_iff h]
    exact And.comm
  · rw [List.idxOf_eq_length hx, List.eraseIdx_of_length_le (Nat.le_refl _)]
    refine ⟨fun h1 => ⟨h1, fun e => hx (e ▸ h1)⟩, And.left⟩
theorem rs_perm {c : List Int} (h : c.Nodup) : (rs c).length = c.length := by
  refine (List.Perm.length_eq ?_)
  refine (List.perm_ext_iff_of_nodup ?_ h).2 fun x => rs_mem
  exact (rs_lt c).imp fun h => by omega
theorem plStep_nodup {k : Int} {c c' : List Int} {p l : Int} (h : c.Nodup) (hs : plStep k c p l = some c') : c'.Nodup := by
  unfold plStep at hs
  split at hs
  · split at hs
    · cases hs
    · cases hs; exact h
  · rename_i hp
    split at hs
    · cases hs
    · cases hs
      rw [List.nodup_append]
      refine ⟨erase_nodup h _, by simp, fun x hx y hy => ?_⟩
      rw [List.mem_singleton] at hy
      subst hy
      intro e
      subst e
      exact hp (List.contains_iff_mem.2 ((erase_mem h).1 hx).1)
theorem plRun_nodup {k : Int} {xs ps : List Int} : ∀ (i : Nat) (s : PlS), plRun k xs ps i = some s → s.now.Nodup
  | 0, s, h => by cases h; exact List.nodup_nil
  | i + 1, s, h => by
    simp only [plRun] at h
    split at h
    · cases h
    · rename_i s0 h0
      split at h
      · cases h
      · rename_i c hc
        cases h
        exact plStep_nodup (plRun_nodup i s0 h0) hc
theorem plStep_len {k : Int} {c c' : List Int} {p l : Int} (hk : (c.length : Int) ≤ k) (hs : plStep k c p l = some c') : (c'.length : Int) ≤ k := by
  unfold plStep at hs
  split at hs
  · split at hs
    · cases hs
    · cases hs; exact hk
  · split at hs
    · cases hs
    · rename_i h
      cases hs
      exact Int.not_lt.1 fun h1 => h (.inr h1)
theorem plRun_len {k : Int} (hk : 0 ≤ k) {xs ps : List Int} : ∀ (i : Nat) (s : PlS), plRun k xs ps i = some s → (s.now.length : Int) ≤ k ∧ s.outs.length = i ∧ s.faults ≤ i
  | 0, s, h => by cases h; exact ⟨hk, rfl, Nat.le_refl _⟩
  | i + 1, s, h => by
    simp only [plRun] at h
    split at h
    · cases h
    · rename_i s0 h0
      have ih := plRun_len hk i s0 h0
      split at h
      · cases h
      · rename_i c hc
        cases h
        refine ⟨plStep_len ih.1 hc, by simp [ih.2.1], ?_⟩
        show s0.faults + _ ≤ i + 1
        split <;> omega
theorem plStep_short {k : Int} {c c' : List Int} {p l : Int} (hs : plStep k c p l = some c') : c'.length ≤ c.length + 1 := by
  unfold plStep at hs
  split at hs
  · split at hs
    · cases hs
    · cases hs; omega
  · split at hs
    · cases hs
    · cases hs
      have : (c.eraseIdx (c.idxOf l)).length ≤ c.length := List.length_eraseIdx_le _ _
      rw [List.length_append]
      simpa using this
theorem plRun_short {k : Int} {xs ps : List Int} : ∀ (i : Nat) (s : PlS), plRun k xs ps i = some s → s.now.length ≤ i
  | 0, s, h => by cases h; exact Nat.le_refl _
  | i + 1, s, h => by
    simp only [plRun] at h
    split at h
    · cases h
    · rename_i s0 h0
      have ih := plRun_short i s0 h0
      split at h
      · cases h
      · rename_i c hc
        cases h
        have := plStep_short hc
        show c.length ≤ i + 1
        omega
theorem plRun_dead {k : Int} {xs ps : List Int} {i : Nat} (h : plRun k xs ps i = none) : ∀ j, i ≤ j → plRun k xs ps j = none
  | 0, hj => by
    obtain rfl : i = 0 := by omega
    exact h
  | j + 1, hj => by
    rcases Nat.eq_or_lt_of_le hj with e | e
    · rw [← e]; exact h
    · simp only [plRun, plRun_dead h j (by omega)]
/-- what is left of a rising list without a number -/
theorem rs_erase {c : List Int} (h : c.Nodup) (x : Int) : (rs c).filter (fun y => !decide (y = x)) = rs (c.eraseIdx (c.idxOf x)) := by
  refine (rs_of ((rs_lt c).filter _) fun y => ?_).symm
  rw [List.mem_filter, rs_mem, erase_mem h]
  simp
theorem rs_has (c : List Int) (x : Int) : (rs c).contains x = c.contains x := by
  rw [Bool.eq_iff_iff, List.contains_iff_mem, List.contains_iff_mem]
  exact rs_mem
theorem plRun_next {k : Int} {xs ps : List Int} {i : Nat} {s : PlS} (h : plRun k xs ps i = some s) : plRun k xs ps (i + 1) = match plStep k s.now (xs.getD i 0) (ps.getD i 0) with
    | none => none
    | some c => some ⟨c, s.outs ++ [rs c], s.faults + (if s.now.contains (xs.getD i 0) = true then 0 else 1)⟩ := by
  rw [plRun, h]
theorem plRun_pos {k : Int} {xs ps : List Int} (hx : ∀ x ∈ xs, 0 ≤ x) : ∀ (i : Nat) (s : PlS), i ≤ xs.length → plRun k xs ps i = some s → ∀ x ∈ s.now, 0 ≤ x
  | 0, s, _, h => by cases h; simp
  | i + 1, s, hi, h => by
    simp only [plRun] at h
    split at h
    · cases h
    · rename_i s0 h0
      have ih := plRun_pos hx i s0 (by omega) h0
      split at h
      · cases h
      · rename_i c hc
        cases h
        show ∀ x ∈ c, 0 ≤ x
        unfold plStep at hc
        split at hc
        · split at hc
          · cases hc
          · cases hc; exact ih
        · split at hc
          · cases hc
          · cases hc
            intro x h1
            rw [List.mem_append, List.mem_singleton] at h1
            rcases h1 with h1 | rfl
            · exact ih x (List.mem_of_mem_eraseIdx h1)
            · rw [getD_inL (by omega)]
              exact hx _ (List.getElem_mem _)
/-- a request with a page that is in the cache -/
theorem plStep_hit {k : Int} {c : List Int} {p l : Int} (h : c.contains p = true) (hl : ¬ 0 ≤ l) : plStep k c p l = some c := by
  unfold plStep
  rw [if_pos h, if_neg hl]
theorem plStep_hit0 {k : Int} {c : List Int} {p l : Int} (h : c.contains p = true) (hl : 0 ≤ l) : plStep k c p l = none := by
  unfold plStep
  rw [if_pos h, if_pos hl]
theorem plStep_miss0 {k : Int} {c : List Int} {p l : Int} (h : c.contains p = false) (hc : c.contains l = false) (hl : 0 ≤ l) : plStep k c p l = none := by
  unfold plStep
  rw [if_neg (by rw [h]; decide), if_pos (.inl ⟨hc, hl⟩)]
theorem plStep_miss1 {k : Int} {c : List Int} {p l : Int} (h : c.contains p = false) (hk : k < (((c.eraseIdx (c.idxOf l)) ++ [p]).length : Int)) : plStep k c p l = none := by
  unfold plStep
  rw [if_neg (by rw [h]; decide), if_pos (.inr hk)]
theorem plStep_miss {k : Int} {c : List Int} {p l : Int} (h : c.contains p = false) (hc : c.contains l = true ∨ ¬ 0 ≤ l) (hk : ¬ k < (((c.eraseIdx (c.idxOf l)) ++ [p]).length : Int)) : plStep k c p l = some (c.eraseIdx (c.idxOf l) ++ [p]) := by
  unfold plStep
  rw [if_neg (by rw [h]; decide), if_neg]
  rintro (⟨h1, h2⟩ | h1)
  · rcases hc with h3 | h3
    · rw [h3] at h1; cases h1
    · exact h3 h2
  · exact hk h1
theorem rs_put {c : List Int} (x : Int) : putL (rs c) x = rs (c ++ [x]) := (rs_snoc c x).symm
theorem not_has {c : List Int} {l : Int} (hp : ∀ x ∈ c, 0 ≤ x) (hl : ¬ 0 ≤ l) : c.contains l = false := Bool.eq_false_iff.2 fun h => hl (hp l (List.contains_iff_mem.1 h))
end Go.Proofs.Ytobhlnaogbadjaa
