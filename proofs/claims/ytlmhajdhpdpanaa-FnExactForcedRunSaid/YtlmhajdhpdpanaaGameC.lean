/- The choices of a game: the plain laws. Conditions: problems that are right. -/
import Derived.Test.YtlmhajdhpdpanaaGameP
set_option linter.all false
set_option linter.unusedSimpArgs false
set_option linter.unusedVariables false
namespace Go.Proofs.Ytlmhajdhpdpanaa

/-- a choice of a request r, in a game of n positions -/
def elOK (m : List (List Int)) (n f r : Nat) (c : List Int) : Prop := ∃ (k u : Nat) (a b : Int), c = [(f : Int), (k : Int), a, b, (r : Int), (u : Int)] ∧ k < n ∧ u < m.length ∧ 0 ≤ a ∧ a ≤ 119 ∧ 0 ≤ b ∧ b ≤ 100000
theorem elOK.mono {m : List (List Int)} {n n' f r : Nat} {c : List Int} (h : n ≤ n') (k : elOK m n f r c) : elOK m n' f r c := by
  obtain ⟨k, u, a, b, h1, h2, h3⟩ := k
  exact ⟨k, u, a, b, h1, by omega, h3⟩
structure RowOK (m s : List (List Int)) (n f r : Nat) (row : List (List Int)) : Prop where
  st : row.map (fun c => c.getD 5 0) = srv s m.length r
  el : ∀ c ∈ row, elOK m n f r c
theorem RowOK.mono {m s : List (List Int)} {n n' f r : Nat} {row : List (List Int)} (h : n ≤ n') (k : RowOK m s n f r row) : RowOK m s n' f r row := ⟨k.st, fun c hc => (k.el c hc).mono h⟩
theorem gmFold_st (m s : List (List Int)) (t : OffT) (i st w r : Nat) : ∀ (us : List Int) (q : List (List Int) × List (List Int)), (us.foldl (gmStep m s t i st w r) q).2.map (fun c => c.getD 5 0) = q.2.map (fun c => c.getD 5 0) ++ us
  | [], q => by simp
  | u :: us, q => by
    rw [List.foldl_cons, gmFold_st m s t i st w r us]
    simp [gmStep, chG]
theorem gmFold_el {m s : List (List Int)} {t : OffT} (ht : TabOK s t) (hp : probB m s = true) {i st w r : Nat} (hst : st < m.length) (hw : w < t.list.length) (hr : r < s.length) : ∀ (us : List Int) (q : List (List Int) × List (List Int)), srvOK m s r us → ∀ c ∈ (us.foldl (gmStep m s t i st w r) q).2, c ∈ q.2 ∨ elOK m (us.foldl (gmStep m s t i st w r) q).1.length i r c
  | [], q, _, c, hc => .inl hc
  | u :: us, q, hu, c, hc => by
    rw [List.foldl_cons] at hc ⊢
    rcases gmFold_el ht hp hst hw hr us _ (fun v hv => hu v (by simp [hv])) c hc with h | h
    · simp only [gmStep, List.mem_append, List.mem_singleton] at h
      rcases h with h | rfl
      · exact .inl h
      · right
        obtain ⟨y, rfl, h1, h2⟩ := hu u (by simp)
        obtain ⟨k, h3, h4, -⟩ := posT_ok q.1 (keyG t w r y) []
        have h5 := gmFold_len m s t i st w r us (gmStep m s t i st w r q y)
        have h6 := (prob_m hp hst).2 y h1
        have h7 := prob_s hp hr y h1
        have h8 := ht.gr w r hw hr
        refine ⟨k, y, costG m s st r y, growG t w r, by unfold chG; rw [h3], ?_, h1, ?_, ?_, h8.1, h8.2⟩
        · have h9 : (gmStep m s t i st w r q y).1 = addT q.1 (keyG t w r y) := rfl
          rw [h9] at h5
          omega
        · unfold costG; rw [Int.toNat_natCast]; omega
        · unfold costG; rw [Int.toNat_natCast]; omega
    · exact .inr h
theorem gmRow_ok {m s : List (List Int)} {t : OffT} (ht : TabOK s t) (hp : probB m s = true) {i st w r : Nat} (hst : st < m.length) (hw : w < t.list.length) (hr : r < s.length) (l : List (List Int)) : RowOK m s (gmRow m s t i st w r l (srv s m.length r)).1.length i r (gmRow m s t i st w r l (srv s m.length r)).2 :=
  ⟨by unfold gmRow; rw [gmFold_st]; simp, fun c hc => by
    rcases gmFold_el ht hp hst hw hr _ _ (srv_ok m s r m.length (Nat.le_refl _)) c hc with h | h
    · simp at h
    · exact h⟩
theorem gmAll_row {m s : List (List Int)} {t : OffT} (ht : TabOK s t) (hp : probB m s = true) {i st w : Nat} (hst : st < m.length) (hw : w < t.list.length) (l : List (List Int)) : ∀ r, r ≤ s.length → ∀ q, q < r → RowOK m s (gmAll m s t i st w l r).1.length i q ((gmAll m s t i st w l r).2.getD q [])
  | 0, _, q, hq => by omega
  | r + 1, hr, q, hq => by
    have h1 := gmAll_len m s t i st w l r
    have h2 := gmRow_len m s t i st w r (gmAll m s t i st w l r).1 (srv s m.length r)
    simp only [gmAll]
    by_cases e : q = r
    · subst e
      rw [getD_last h1.2.2.symm]
      exact gmRow_ok ht hp hst hw (by omega) _
    · rw [getD_app (by rw [h1.2.2]; omega)]
      exact (gmAll_row ht hp hst hw l r (by omega) q (by omega)).mono h2.1
structure GmC (m s : List (List Int)) (g : GmT) : Prop where
  len : ∀ j, j < g.ch.length → (g.ch.getD j []).length = s.length
  row : ∀ j r, j < g.ch.length → r < s.length → RowOK m s g.list.length j r ((g.ch.getD j []).getD r [])
theorem gmT_len {m s : List (List Int)} {t : OffT} {x i : Nat} : (gmT m s t x i).list.length ≤ (gmT m s t x (i + 1)).list.length := (gmAll_len m s t i _ _ (gmT m s t x i).list s.length).1
theorem gmT_c {m s : List (List Int)} {t : OffT} (ht : TabOK s t) (hp : probB m s = true) {x : Nat} (hx : x < m.length) : ∀ i, (∀ j, j < i → j < (gmT m s t x j).list.length) → GmC m s (gmT m s t x i)
  | 0, _ => ⟨fun j hj => by simp [gmT] at hj, fun j r hj => by simp [gmT] at hj⟩
  | i + 1, hlt => by
    have ih := gmT_c ht hp hx i fun j hj => hlt j (by omega)
    have hok := gmT_ok ht hx i fun j hj => hlt j (by omega)
    obtain ⟨st, w, h1, h2, h3, h4, h5⟩ := gm_at hok (hlt i (by omega))
    have hcl := hok.clen
    have hal := gmAll_len m s t i st w (gmT m s t x i).list s.length
    have hcl' : (gmT m s t x (i + 1)).ch.length = i + 1 := by simp [gmT, hcl]
    refine ⟨fun j hj => ?_, fun j r hj hr => ?_⟩
    · simp only [gmT, h2, h3]
      by_cases e : j = i
      · rw [getD_last (by rw [hcl]; exact e)]
        exact hal.2.2
      · rw [getD_app (by omega)]
        exact ih.len j (by omega)
    · simp only [gmT, h2, h3]
      by_cases e : j = i
      · rw [getD_last (by rw [hcl]; exact e), e]
        exact gmAll_row ht hp h4 h5 _ s.length (Nat.le_refl _) r hr
      · rw [getD_app (by omega)]
        exact (ih.row j r (by omega) hr).mono hal.1
theorem gmRun_good {m s : List (List Int)} {t : OffT} {x : Nat} : ∀ f i, (gmRun m s t x f i).2 = false → (∀ j, j < i → j < (gmT m s t x j).list.length) → i ≤ (gmT m s t x i).list.length → (gmT m s t x i).list.length ≤ 60 → ∃ k, gmRun m s t x f i = (gmT m s t x k, false) ∧ (gmT m s t x k).list.length = k ∧ k ≤ 60 ∧ ∀ j, j < k → j < (gmT m s t x j).list.length
  | 0, i, h, _, _, _ => by simp [gmRun] at h
  | f + 1, i, h, hlt, hi, h60 => by
    unfold gmRun at h ⊢
    by_cases h1 : i < (gmT m s t x i).list.length
    · rw [if_pos h1] at h ⊢
      by_cases h2 : 60 < (gmT m s t x (i + 1)).list.length
      · rw [if_pos h2] at h; simp at h
      · rw [if_neg h2] at h ⊢
        have h3 := gmT_len (m := m) (s := s) (t := t) (x := x) (i := i)
        exact gmRun_good f (i + 1) h (fun j hj => by
          by_cases e : j = i
          · rw [e]; exact h1
          · exact hlt j (by omega)) (by omega) (by omega)
    · rw [if_neg h1]
      exact ⟨i, rfl, by omega, by omega, hlt⟩
/-- a game that is whole -/
structure GmFull (m s : List (List Int)) (g : GmT) : Prop where
  prob : probB m s = true
  pos : 0 < g.list.length
  le : g.list.length ≤ 60
  clen : g.ch.length = g.list.length
  c : GmC m s g
  two : ∀ p ∈ g.list, p.length = 2
theorem gm_full {m s : List (List Int)} {x : Nat} (hp : probB m s = true) (hx : x < m.length) (h : (gm m s x).2 = false) : GmFull m s (gm m s x).1 := by
  unfold gm at h ⊢
  cases ho : (offs m s x).2
  · rw [ho] at h
    simp only [cond_false] at h ⊢
    have ht := tab_ok hp hx ho
    obtain ⟨k, h1, h2, h3, h4⟩ := gmRun_good 100 0 h (fun j hj => by omega) (Nat.zero_le _) (by simp [gmT])
    rw [h1]
    have hok := gmT_ok ht hx k h4
    exact ⟨hp, hok.pos, by show (gmT _ _ _ _ _).list.length ≤ 60; omega, by rw [hok.clen]; exact h2.symm, gmT_c ht hp hx k h4, fun p hp => by obtain ⟨_, _, rfl, _⟩ := hok.el p hp; rfl⟩
  · rw [ho] at h
    simp at h
theorem mem_srv {s : List (List Int)} {n r : Nat} {x : Int} : x ∈ srv s n r ↔ ∃ y : Nat, x = y ∧ y < n ∧ 0 ≤ at2 s r y := by
  unfold srv
  simp only [List.mem_map, List.mem_filter, List.mem_range, decide_eq_true_eq]
  constructor
  · rintro ⟨y, ⟨h1, h2⟩, rfl⟩
    exact ⟨y, rfl, h1, h2⟩
  · rintro ⟨y, rfl, h1, h2⟩
    exact ⟨y, ⟨h1, h2⟩, rfl⟩
theorem toOk_srv {s : List (List Int)} {n r : Nat} {x : Int} : toOk n s r x = true ↔ x ∈ srv s n r := by
  rw [mem_srv]
  unfold toOk
  rw [Bool.and_eq_true, rng_iff, decide_eq_true_eq]
  constructor
  · rintro ⟨⟨h1, h2⟩, h3⟩
    exact ⟨x.toNat, by omega, by omega, h3⟩
  · rintro ⟨y, rfl, h1, h2⟩
    rw [Int.toNat_natCast]
    exact ⟨⟨by omega, by omega⟩, h2⟩
/-- the place of a choice, by its state -/
def chAt (row : List (List Int)) (x : Int) : Int := idxOf (fun c => decide (c.getD 5 0 = x)) row
theorem chAt_ok {m s : List (List Int)} {n f r : Nat} {row : List (List Int)} (h : RowOK m s n f r row) (x : Int) : 0 ≤ chAt row x ↔ toOk m.length s r x = true := by
  rw [toOk_srv, ← h.st]
  have h1 : decide (0 ≤ chAt row x) = row.any fun c => decide (c.getD 5 0 = x) := idxOf_any _ _
  rw [← decide_eq_true_iff (p := 0 ≤ chAt row x), h1, List.any_eq_true]
  simp only [List.mem_map, decide_eq_true_eq]
def stratB (m s : List (List Int)) (g : GmT) (q : List (List Int)) : Bool := (q.length == g.list.length) && q.all (servB m.length s)
end Go.Proofs.Ytlmhajdhpdpanaa
