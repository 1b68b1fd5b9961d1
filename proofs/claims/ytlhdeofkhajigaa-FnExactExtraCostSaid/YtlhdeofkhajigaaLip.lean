/- Offsets are small: no state is much dearer than its neighbours, so that a request grows the least cost by at most 119. Conditions: problems that are right. -/
import Derived.Test.YtlhdeofkhajigaaOffP
set_option linter.all false
set_option linter.unusedSimpArgs false
set_option linter.unusedVariables false
namespace Go.Proofs.Ytlhdeofkhajigaa

theorem minTo_sh {p : Nat → Bool} {f g : Nat → Int} {c : Int} (hc : 0 ≤ c) : ∀ n, (∀ y, y < n → p y = true → f y ≤ g y + c) → minTo p f n ≤ minTo p g n + c
  | 0, _ => by simp only [minTo]; omega
  | n + 1, h => by
    have ih := minTo_sh hc n fun y hy => h y (by omega)
    simp only [minTo]
    cases hp : p n with
    | false => simpa using ih
    | true =>
      have h2 := h n (by omega) hp
      simp only [if_true]
      omega
theorem minTo_le {p : Nat → Bool} {f : Nat → Int} : ∀ n y, y < n → p y = true → minTo p f n ≤ f y
  | 0, y, h, _ => by omega
  | n + 1, y, h, hp => by
    simp only [minTo]
    by_cases e : y = n
    · subst e
      rw [if_pos hp]
      omega
    · have ih := minTo_le (p := p) (f := f) n y (by omega) hp
      split <;> omega
theorem prob_tri {m s : List (List Int)} (hp : probB m s = true) {x y z : Nat} (hx : x < m.length) (hy : y < m.length) (hz : z < m.length) : at2 m x z ≤ at2 m x y + at2 m y z := by
  have h1 := prob_met hp
  unfold metB at h1
  simp only [Bool.and_eq_true] at h1
  exact of_decide_eq_true (allLt_iff.1 (allLt_iff.1 (allLt_iff.1 h1.2 x hx) y hy) z hz)
theorem prob_0 {m s : List (List Int)} (hp : probB m s = true) {x : Nat} (hx : x < m.length) : at2 m x x = 0 := by
  have h1 := prob_met hp
  unfold metB at h1
  simp only [Bool.and_eq_true] at h1
  have h2 := h1.1
  unfold tableB at h2
  simp only [Bool.and_eq_true] at h2
  exact (cellOk_iff.1 (allLt_iff.1 (allLt_iff.1 h2.2 x hx) x hx)).2.1 rfl
/-- no state is much dearer than its neighbours -/
def Lip (m : List (List Int)) (w : List Int) : Prop := ∀ a b, a < m.length → b < m.length → w.getD b 0 ≤ w.getD a 0 + at2 m a b
theorem nextM_lip {m s : List (List Int)} (hp : probB m s = true) (w : List Int) (r : Nat) : Lip m (nextM m s w r) := fun a b ha hb => by
  unfold nextM
  rw [rangeMap_getD _ _ hb, rangeMap_getD _ _ ha]
  unfold wAt
  refine minTo_sh ((prob_m hp ha).2 b hb).1 _ fun y hy _ => ?_
  have := prob_tri hp hy ha hb
  unfold wOff
  omega
theorem leastM_at (w : List Int) : ∀ k, ∃ j, j ≤ k ∧ leastM w k = w.getD j 0
  | 0 => ⟨0, Nat.le_refl _, rfl⟩
  | k + 1 => by
    obtain ⟨j, h1, h2⟩ := leastM_at w k
    by_cases h : leastM w k ≤ w.getD (k + 1) 0
    · exact ⟨j, by omega, by simp only [leastM]; omega⟩
    · exact ⟨k + 1, Nat.le_refl _, by simp only [leastM]; omega⟩
theorem offW_tight {m s : List (List Int)} {w : List Int} (hp : probB m s = true) {r : Nat} (hm : 0 < m.length) : WkOK m (offW m s w r) 99 := by
  have hn := nextM_len m s w r
  refine ⟨by unfold offW; rw [lessM_len, hn], fun y hy => ?_⟩
  have h3 := leastM_le (nextM m s w r) (m.length - 1) y (by omega)
  obtain ⟨j, h1, h2⟩ := leastM_at (nextM m s w r) (m.length - 1)
  have h4 := nextM_lip hp w r j y (by omega) hy
  have h5 := (prob_m hp (show j < m.length by omega)).2 y hy
  unfold offW
  rw [lessM_at (by rw [hn]; exact hy)]
  unfold offG
  omega
theorem offG_tight {m s : List (List Int)} {w : List Int} (hp : probB m s = true) (hw : WkOK m w 99) {r : Nat} (hr : r < s.length) : offG m s w r ≤ 119 := by
  obtain ⟨z, hz, h1⟩ := prob_any hp hr
  have h2 := leastM_le (nextM m s w r) (m.length - 1) z (by omega)
  have h3 : (nextM m s w r).getD z 0 ≤ wOff m s w r z z := by
    unfold nextM
    rw [rangeMap_getD _ _ hz]
    exact minTo_le _ _ hz (decide_eq_true h1)
  have h4 := hw.at_ z hz
  have h5 := prob_s hp hr z hz
  have h6 := prob_0 hp hz
  unfold wOff at h3
  unfold offG
  omega
theorem offL_tight {m s : List (List Int)} {w : List Int} {l : List (List Int)} (hp : probB m s = true) (hm : 0 < m.length) (hl : ∀ v ∈ l, WkOK m v 99) : ∀ r, ∀ v ∈ offL m s w l r, WkOK m v 99
  | 0, v, hv => hl v hv
  | r + 1, v, hv => by
    rcases addT_mem hv with h | rfl
    · exact offL_tight hp hm hl r v h
    · exact offW_tight hp hm
theorem offT_tight {m s : List (List Int)} {x : Nat} (hp : probB m s = true) (hx : x < m.length) : ∀ i, (∀ v ∈ (offT m s x i).list, WkOK m v 99)
  | 0 => fun v hv => by
    have h := prob_m hp hx
    simp only [offT, List.mem_singleton] at hv
    subst hv
    exact ⟨h.1, fun y hy => h.2 y hy⟩
  | i + 1 => offL_tight hp (by omega) (offT_tight hp hx i) s.length
theorem offGr_tight {m s : List (List Int)} {x : Nat} (hp : probB m s = true) (hx : x < m.length) : ∀ i, i ≤ 1000 → (∀ j, j < i → j < (offT m s x j).list.length) → ∀ j r, j < i → r < s.length → ((offT m s x i).grows.getD j []).getD r 0 ≤ 119
  | 0, _, _, j, r, hj, _ => by omega
  | i + 1, hi, hlt, j, r, hj, hr => by
    have ih := offT_ok hp hx i (by omega) fun j hj => hlt j (by omega)
    simp only [offT]
    by_cases e : j = i
    · rw [getD_last (by rw [ih.glen]; exact e)]
      unfold offGs
      rw [rangeMap_getD _ _ hr]
      have h1 := hlt i (by omega)
      exact offG_tight hp (offT_tight hp hx i _ (by rw [getD_in h1]; exact List.getElem_mem h1)) hr
    · rw [getD_app (by rw [ih.glen]; omega)]
      exact offGr_tight hp hx i (by omega) (fun j hj => hlt j (by omega)) j r (by omega) hr
end Go.Proofs.Ytlhdeofkhajigaa
