/- Problems, and the states in which a request can be served: small facts. Conditions: none. -/
import Derived.Test.YtlmhajdhpdpanaaRunP
set_option linter.all false
set_option linter.unusedSimpArgs false
set_option linter.unusedVariables false
namespace Go.Proofs.Ytlmhajdhpdpanaa
open Go Go.RowKit Am

theorem rep_range {α : Type} (n : Nat) (x : α) : List.replicate n x = (List.range n).map fun _ => x := by
  refine List.ext_getElem? fun j => ?_
  rw [List.getElem?_map, List.getElem?_replicate]
  by_cases h : j < n
  · rw [if_pos h, List.getElem?_range h]; rfl
  · rw [if_neg h, List.getElem?_eq_none (by simpa using h)]; rfl
/-- the least of f over a list -/
def accM (f : Nat → Int) (l : List Int) : Int := l.foldl (fun a y => min a (f y.toNat)) 1152921504606846976
theorem accM_take {f : Nat → Int} {l : List Int} {t : Nat} (h : t < l.length) : accM f (l.take (t + 1)) = min (accM f (l.take t)) (f (l.getD t 0).toNat) := by
  unfold accM
  rw [take_getD h 0, List.foldl_append]
  rfl
theorem accM_srv (s : List (List Int)) (f : Nat → Int) (r : Nat) : ∀ n, accM f (srv s n r) = minTo (fun y => decide (0 ≤ at2 s r y)) f n
  | 0 => rfl
  | n + 1 => by
    rw [srv_step, minTo]
    by_cases h : 0 ≤ at2 s r n
    · rw [if_pos h, if_pos (decide_eq_true h), ← accM_srv s f r n]
      unfold accM
      rw [List.foldl_append]
      simp
    · rw [if_neg h, if_neg (by simpa using h), ← accM_srv s f r n]
theorem srv_mem {s : List (List Int)} {n r : Nat} {t : Nat} (h : t < (srv s n r).length) : ∃ y : Nat, (srv s n r).getD t 0 = y ∧ y < n ∧ 0 ≤ at2 s r y := by
  rw [getD_in h]
  have hm := List.getElem_mem h
  unfold srv at hm ⊢
  rw [List.mem_map] at hm
  obtain ⟨y, hy, e⟩ := hm
  rw [List.mem_filter] at hy
  exact ⟨y, e.symm, by simpa using hy.1, by simpa using hy.2⟩
theorem prob_any {m s : List (List Int)} (h : probB m s = true) {r : Nat} (hr : r < s.length) : ∃ y, y < m.length ∧ 0 ≤ at2 s r y := by
  unfold probB at h
  simp only [Bool.and_eq_true, List.all_eq_true] at h
  have h1 := h.2 _ (List.getElem_mem hr)
  unfold reqB at h1
  simp only [Bool.and_eq_true, beq_iff_eq, List.any_eq_true, decide_eq_true_eq] at h1
  obtain ⟨⟨h2, _⟩, c, h3, h4⟩ := h1
  obtain ⟨y, hy, rfl⟩ := List.mem_iff_getElem.1 h3
  exact ⟨y, by omega, by rw [at2_eq hr hy]; exact h4⟩
theorem bif_or {a b : Prop} [Decidable a] [Decidable b] : (bif decide a then true else decide b) = true ↔ a ∨ b := by by_cases h : a <;> simp [h]
theorem bif_or_not {a b : Prop} [Decidable a] [Decidable b] : (bif decide a then true else decide b) = false ↔ ¬ (a ∨ b) := by by_cases h : a <;> simp [h]
theorem takes_ok {m s : List (List Int)} {x : Int} {rs : List Int} (h : takesB m s x rs = true) : probB m s = true ∧ (∃ y : Nat, x = y ∧ y < m.length) ∧ reqsB s.length rs ∧ rs.length ≤ 60 := by
  unfold takesB at h
  simp only [Bool.and_eq_true] at h
  obtain ⟨⟨h1, h2⟩, h3⟩ := h
  have h2 := rng_iff.1 h2
  obtain ⟨h4, h5⟩ := seq_reqs h3
  exact ⟨h1, ⟨x.toNat, by omega, by omega⟩, h4, h5⟩
theorem cost_i (m s : List (List Int)) (x y r : Nat) (x' y' r' : Int) (h1 : x' = x) (h2 : y' = y) (h3 : r' = r) (hp : probB m s = true) (hx : x < m.length) (hy : y < m.length) (hr : r < s.length) : Does Try.prog 129 [prA m s, .int x', .int y', .int r'] (.imm (.int (at2 m x y + at2 s r y))) := by
  subst h1 h2 h3
  exact cost_d m s x y r hp hx hy hr
theorem isStarted_n (m s : List (List Int)) (x : Int) : Does Try.prog 117 [prA m s, .int x, .val (.slice none 0 0)] (.imm (.bool (takesB m s x []))) :=
  Does.args (isStarted_d m s x []) fun M us ha => by
    obtain ⟨u, us', rfl, h1, h2⟩ := args_inv ha
    obtain ⟨u', us'', rfl, h3, h4⟩ := args_inv h2
    obtain ⟨u2, us3, rfl, h5, h6⟩ := args_inv h4
    exact args_cons h1 (args_cons h3 (args_cons (nil_ints h5) h6))
end Go.Proofs.Ytlmhajdhpdpanaa
