/- The reference's least cost by independent draws, on the machine. Conditions: problems and weights that are right. -/
import Derived.Test.YtoaecbdpkmeenaaFrD
import Derived.Test.YtoaecbdpkmeenaaFreeP
namespace Go.Proofs.Ytoaecbdpkmeenaa
open Go Go.RowKit Am

def bndF : Nat → Int
  | 0 => 0
  | k + 1 => 36 * (36 ^ k * 119 + bndF k)
theorem prob_any {m s : List (List Int)} (h : probB m s = true) {r : Nat} (hr : r < s.length) : ∃ y, y < m.length ∧ 0 ≤ at2 s r y := by
  unfold probB at h
  simp only [Bool.and_eq_true, List.all_eq_true] at h
  have h1 := h.2 _ (List.getElem_mem hr)
  unfold reqB at h1
  simp only [Bool.and_eq_true, beq_iff_eq, List.any_eq_true, decide_eq_true_eq] at h1
  obtain ⟨⟨h2, _⟩, c, h3, h4⟩ := h1
  obtain ⟨y, hy, rfl⟩ := List.mem_iff_getElem.1 h3
  exact ⟨y, by omega, by rw [at2_eq hr hy]; exact h4⟩
theorem sumTo_bd {f g : Nat → Int} {n : Nat} (h : ∀ r, r < n → 0 ≤ f r ∧ f r ≤ g r) : 0 ≤ sumTo f n ∧ sumTo f n ≤ sumTo g n := by
  induction n with
  | zero => exact ⟨Int.le_refl _, Int.le_refl _⟩
  | succ n ih =>
    have h1 := ih fun r hr => h r (by omega)
    have h2 := h n (by omega)
    unfold sumTo
    omega
theorem sumTo_mul (f : Nat → Int) (c : Int) (n : Nat) : sumTo (fun r => f r * c) n = sumTo f n * c := by
  induction n with
  | zero => simp [sumTo]
  | succ n ih => simp only [sumTo, ih, Int.add_mul]
theorem sumTo_take (xs : List Int) (n : Nat) : sumTo (fun r => xs.getD r 0) n = (xs.take n).sum := by
  induction n with
  | zero => simp [sumTo]
  | succ n ih => rw [sumTo, ih, sum_getD]
theorem pow_bd {b : Int} (h0 : 0 ≤ b) (h1 : b ≤ 36) (k : Nat) : 0 ≤ b ^ k ∧ b ^ k ≤ 36 ^ k := by
  induction k with
  | zero => simp
  | succ k ih =>
    rw [Int.pow_succ, Int.pow_succ]
    exact ⟨Int.mul_nonneg ih.1 h0, Int.mul_le_mul ih.2 h1 h0 (by have := Int.le_trans ih.1 ih.2; exact this)⟩
theorem bndF_le {k : Nat} (h : k ≤ 3) : 0 ≤ bndF k ∧ bndF k ≤ 20000000 ∧ 36 ^ k * 119 ≤ (20000000 : Int) := by
  match k, h with
  | 0, _ => simp [bndF]
  | 1, _ => simp [bndF]
  | 2, _ => simp [bndF]
  | 3, _ => simp [bndF]
structure WsOK (s : List (List Int)) (ws : List Int) : Prop where
  len : ws.length = s.length
  le : ∀ w ∈ ws, 0 ≤ w ∧ w ≤ 9
theorem WsOK.sum {m s : List (List Int)} {ws : List Int} (hp : probB m s = true) (h : WsOK s ws) : 0 ≤ ws.sum ∧ ws.sum ≤ 36 := by
  have h1 := sum_bounds h.le
  have h2 := prob_len hp
  have h3 := h.len
  omega
theorem WsOK.at {s : List (List Int)} {ws : List Int} (h : WsOK s ws) {r : Nat} (hr : r < s.length) : 0 ≤ ws.getD r 0 ∧ ws.getD r 0 ≤ 9 := by
  have hr' : r < ws.length := by rw [h.len]; exact hr
  rw [getD_in hr']
  exact h.le _ (List.getElem_mem hr')
/-- what one state offers a request -/
def offer (m s : List (List Int)) (ws : List Int) (k x r y : Nat) : Int := ws.sum ^ k * (at2 m x y + at2 s r y) + freeM m s ws k y
theorem offer_bd {m s : List (List Int)} {ws : List Int} (hp : probB m s = true) (hw : WsOK s ws) {k : Nat} (hf : ∀ y, y < m.length → 0 ≤ freeM m s ws k y ∧ freeM m s ws k y ≤ bndF k) {x r y : Nat} (hx : x < m.length) (hr : r < s.length) (hy : y < m.length) (hs : 0 ≤ at2 s r y) :
    0 ≤ offer m s ws k x r y ∧ offer m s ws k x r y ≤ 36 ^ k * 119 + bndF k := by
  obtain ⟨w1, w2⟩ := hw.sum hp
  obtain ⟨p1, p2⟩ := pow_bd w1 w2 k
  have d := (prob_m hp hx).2 y hy
  have q := prob_s hp hr y hy
  have f := hf y hy
  have h1 : 0 ≤ ws.sum ^ k * (at2 m x y + at2 s r y) := Int.mul_nonneg p1 (by omega)
  have h2 : ws.sum ^ k * (at2 m x y + at2 s r y) ≤ 36 ^ k * 119 := Int.mul_le_mul p2 (by omega) (by omega) (by omega)
  unfold offer
  omega
theorem freeM_bd {m s : List (List Int)} {ws : List Int} (hp : probB m s = true) (hw : WsOK s ws) : ∀ k, k ≤ 3 → ∀ x, x < m.length → 0 ≤ freeM m s ws k x ∧ freeM m s ws k x ≤ bndF k
  | 0, _, x, _ => ⟨Int.le_refl _, Int.le_refl _⟩
  | k + 1, hk, x, hx => by
    have ih := freeM_bd hp hw k (by omega)
    obtain ⟨b1, b2, b3⟩ := bndF_le (k := k) (by omega)
    obtain ⟨w1, w2⟩ := hw.sum hp
    have hc : 0 ≤ 36 ^ k * 119 + bndF k := by
      have := (pow_bd (b := 36) (by omega) (by omega) k).1
      omega
    have key : ∀ r, r < s.length → 0 ≤ ws.getD r 0 * minTo (fun y => decide (0 ≤ at2 s r y)) (offer m s ws k x r) m.length ∧ ws.getD r 0 * minTo (fun y => decide (0 ≤ at2 s r y)) (offer m s ws k x r) m.length ≤ ws.getD r 0 * (36 ^ k * 119 + bndF k) := fun r hr => by
      have a := hw.at hr
      have hb : ∀ y, y < m.length → decide (0 ≤ at2 s r y) = true → 0 ≤ offer m s ws k x r y ∧ offer m s ws k x r y ≤ 36 ^ k * 119 + bndF k := fun y hy h => offer_bd hp hw ih hx hr hy (of_decide_eq_true h)
      rcases minS_eq (n := m.length) (p := fun y => decide (0 ≤ at2 s r y)) (f := offer m s ws k x r) fun y hy h => ⟨(hb y hy h).1, by have := (hb y hy h).2; omega⟩ with ⟨_, _, h3⟩ | ⟨_, h2, _, y, h4, h5, h6⟩
      · obtain ⟨y, hy, h4⟩ := prob_any hp hr
        have := h3 y hy
        simp at this
        omega
      · have := hb y h4 h5
        exact ⟨Int.mul_nonneg a.1 h2, Int.mul_le_mul_of_nonneg_left (by omega) a.1⟩
    have h1 := sumTo_bd key
    rw [sumTo_mul, sumTo_take, ← hw.len, List.take_length] at h1
    have h2 : ws.sum * (36 ^ k * 119 + bndF k) ≤ 36 * (36 ^ k * 119 + bndF k) := Int.mul_le_mul_of_nonneg_right w2 hc
    rw [hw.len] at h1
    exact ⟨h1.1, Int.le_trans h1.2 h2⟩
theorem least_ok {m s : List (List Int)} {ws : List Int} (hp : probB m s = true) (hw : WsOK s ws) {k : Nat} (hk : k ≤ 3) {x r : Nat} (hx : x < m.length) (hr : r < s.length) :
    minS (fun y => decide (0 ≤ at2 s r y)) (offer m s ws k x r) m.length = minTo (fun y => decide (0 ≤ at2 s r y)) (offer m s ws k x r) m.length ∧ 0 ≤ minTo (fun y => decide (0 ≤ at2 s r y)) (offer m s ws k x r) m.length ∧ minTo (fun y => decide (0 ≤ at2 s r y)) (offer m s ws k x r) m.length ≤ 36 ^ k * 119 + bndF k := by
  obtain ⟨b1, b2, b3⟩ := bndF_le hk
  have hb : ∀ y, y < m.length → decide (0 ≤ at2 s r y) = true → 0 ≤ offer m s ws k x r y ∧ offer m s ws k x r y ≤ 36 ^ k * 119 + bndF k := fun y hy h => offer_bd hp hw (freeM_bd hp hw k hk) hx hr hy (of_decide_eq_true h)
  rcases minS_eq (n := m.length) (p := fun y => decide (0 ≤ at2 s r y)) (f := offer m s ws k x r) fun y hy h => ⟨(hb y hy h).1, by have := (hb y hy h).2; omega⟩ with ⟨_, _, h3⟩ | ⟨h1, h2, _, y, h4, h5, h6⟩
  · obtain ⟨y, hy, h4⟩ := prob_any hp hr
    have := h3 y hy
    simp at this
    omega
  · have := hb y h4 h5
    exact ⟨h1, h2, by omega⟩
end Go.Proofs.Ytoaecbdpkmeenaa
