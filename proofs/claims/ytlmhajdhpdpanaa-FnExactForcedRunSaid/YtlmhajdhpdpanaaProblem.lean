/- Problems: is a table of moves a metric, and are moves and serving costs a Problem, by the program's and the reference's functions. Conditions: none. -/
import Derived.Test.YtlmhajdhpdpanaaTableS
set_option linter.all false
set_option linter.unusedSimpArgs false
set_option linter.unusedVariables false
namespace Go.Proofs.Ytlmhajdhpdpanaa
open Go.RowKit

def metB (m : List (List Int)) : Bool := tableB m && noDet m
/-- are the costs of a request right, for n states -/
def reqB (n : Nat) (row : List Int) : Bool := (row.length == n) && allIn (-1) 20 row && row.any fun c => decide (0 ≤ c)
def probB (m s : List (List Int)) : Bool := rng m.length 1 4 && metB m && rng s.length 1 4 && s.all (reqB m.length)

theorem isMetric_any (w : World) (u : Value) (m : List (List Int)) (hx : SlII w u m) :
    Calls Try.prog 201 #[.agg #[u]] w fun e w' => e = .returned (.bool (metB m)) ∧ Below w.heap.size w w' := by
  obtain ⟨A, c, e0, _, _, _⟩ := SlO.view hx
  have hb0 : Below w.heap.size w (w.alloc (.cells #[u] 235)) := by repeat (first | exact Below.refl _ _ | apply Below.drew | refine Below.setCell ?_ (by first | (simp; done) | (simp; omega)) _ | refine Below.alloc ?_ (by first | (simp; done) | (simp; omega)) _)
  have H1 := hide (isTable_any (w.alloc (.cells #[u] 235)) u m (SlII.below hx hb0))
  have H2 := hide fun (ht : tableB m = true) W (hb : Below w.heap.size w W) => detour_any W u m (SlII.below hx hb) ht
  subst e0
  clear hx
  cases ht : tableB m
  · have HT := hide ht
    have HP : Hid (metB m = false) := by show metB m = false; unfold metB; rw [ht]; rfl
    clear ht
    rw [HP.out]
    go_enter Try.func201, Try.ntmps201
    go_wp2_with ((with_reducible refine H1.out.mono ?_); rintro e w2 ⟨rfl, hb2⟩; rw [HT.out]; dsimp only)
    go_ret
    exact ⟨rfl, hb0.trans (hb2.mono (by simp))⟩
  · have HT := hide ht
    have HP : Hid (metB m = noDet m) := by show metB m = _; unfold metB; rw [ht]; rfl
    clear ht
    rw [HP.out]
    go_enter Try.func201, Try.ntmps201
    go_wp2_with fail
    refine H1.out.mono ?_
    rintro e w2 ⟨rfl, hb2⟩
    rw [HT.out]
    have B2 : Below w.heap.size w w2 := hb0.trans (hb2.mono (by simp))
    have hc : w2.cell? ⟨w.heap.size, 0, none⟩ = some (.slice A m.length c) := cell_of_below hb2 (by simp [go_sem])
    dsimp only
    go_wp2_with fail
    refine (H2.out HT.out w2 B2).mono ?_
    rintro e w3 ⟨⟨v, k, ⟨A3, c3, rfl⟩, rfl⟩, hb3⟩
    dsimp only
    go_wp2
    go_ret
    exact ⟨by simp, B2.trans (hb3.mono B2.size)⟩
theorem l6Good_any (w : World) (u : Value) (m : List (List Int)) (hx : SlII w u m) :
    Calls Try.prog 199 #[.agg #[u]] w fun e w' => e = .returned (.bool (metB m)) ∧ Below w.heap.size w w' := by
  obtain ⟨A, c, e0, _, _, _⟩ := SlO.view hx
  have hb0 : Below w.heap.size w (w.alloc (.cells #[u] 235)) := by repeat (first | exact Below.refl _ _ | apply Below.drew | refine Below.setCell ?_ (by first | (simp; done) | (simp; omega)) _ | refine Below.alloc ?_ (by first | (simp; done) | (simp; omega)) _)
  have H1 := hide (l6Table_any (w.alloc (.cells #[u] 235)) u m (SlII.below hx hb0))
  have H2 := hide fun (ht : tableB m = true) W (hb : Below w.heap.size w W) => l6Detour_any W u m (SlII.below hx hb) ht
  subst e0
  clear hx
  cases ht : tableB m
  · have HT := hide ht
    have HP : Hid (metB m = false) := by show metB m = false; unfold metB; rw [ht]; rfl
    clear ht
    rw [HP.out]
    go_enter Try.func199, Try.ntmps199
    go_wp2_with ((with_reducible refine H1.out.mono ?_); rintro e w2 ⟨rfl, hb2⟩; rw [HT.out]; dsimp only)
    go_ret
    exact ⟨rfl, hb0.trans (hb2.mono (by simp))⟩
  · have HT := hide ht
    have HP : Hid (metB m = noDet m) := by show metB m = _; unfold metB; rw [ht]; rfl
    clear ht
    rw [HP.out]
    go_enter Try.func199, Try.ntmps199
    go_wp2_with fail
    refine H1.out.mono ?_
    rintro e w2 ⟨rfl, hb2⟩
    rw [HT.out]
    have B2 : Below w.heap.size w w2 := hb0.trans (hb2.mono (by simp))
    have hc : w2.cell? ⟨w.heap.size, 0, none⟩ = some (.slice A m.length c) := cell_of_below hb2 (by simp [go_sem])
    dsimp only
    go_wp2_with fail
    refine (H2.out HT.out w2 B2).mono ?_
    rintro e w3 ⟨⟨v, k, ⟨A3, c3, rfl⟩, rfl, hk⟩, hb3⟩
    have HK : Hid (((k : Int) == 0) = noDet m) := by
      show ((k : Int) == 0) = noDet m
      cases hd : noDet m
      · have : k ≠ 0 := fun h => by rw [hk.1 h] at hd; cases hd
        simp
        omega
      · have := hk.2 hd
        simp [this]
    clear hk
    dsimp only
    go_wp2
    go_ret
    exact ⟨by rw [← HK.out]; rfl, B2.trans (hb3.mono B2.size)⟩

/-! ### requests -/
theorem enters_IsProblem11 : Enters Try.prog 204 := fun _ _ => by kernel_rfl
theorem enters_IsProblem1 : Enters Try.prog 203 := fun _ _ => by kernel_rfl
theorem isProblem11_any (w : World) (x : Int) :
    Calls Try.prog 204 (#[.int .i64 x] ++ #[]) w fun e w' => e = .returned (.bool (!rng x (-1) 20)) ∧ Below w.heap.size w w' := by
  simp only [List.push_toArray, List.append_toArray, List.cons_append, List.nil_append, List.append_nil]
  go_enter Try.func204, Try.ntmps204
  go_wp2_with (go_at_call 142; refine (within_any _ _ _ _).mono ?_; rintro e w' ⟨rfl, rfl⟩; dsimp only)
  go_ret
  exact ⟨rfl, Below.refl _ _⟩
theorem any_nonneg (x : Int) (xs : List Int) : (x :: xs).any (fun c => decide (0 ≤ c)) = decide (0 ≤ greatest x xs) := by
  induction xs generalizing x with
  | nil => simp only [greatest, List.any_cons, List.any_nil, Bool.or_false, List.foldl_nil]; exact decide_eq_decide.2 Iff.rfl
  | cons y xs ih =>
    have h := ih (max x y)
    show _ = decide (0 ≤ greatest (max x y) xs)
    rw [← h]
    simp only [List.any_cons]
    by_cases h1 : 0 ≤ x <;> by_cases h2 : 0 ≤ y <;> simp [h1, h2] <;> omega
theorem isProblem1_any (w : World) (a : Addr) (v : Value) (r : List Int) (n : Nat) (hn0 : 0 < n) (hn : n ≤ 9223372036854775807) (hc : w.cell? a = some (.int .i64 n)) (hv : SlI w v r) :
    Calls Try.prog 203 (#[v] ++ #[.pointer (some a)]) w fun e w' => e = .returned (.bool (!reqB n r)) ∧ Below w.heap.size w w' := by
  have hlv := hv.len
  have HC := hide (containsFuncI_any w v r 204 #[] (fun x => !rng x (-1) 20) enters_IsProblem11 hv (fun W hW j hj v' hv' => by subst hv'; exact isProblem11_any W _))
  have HA : Hid ((r.any fun x => !rng x (-1) 20) = !allIn (-1) 20 r) := by
    show _ = !allIn (-1) 20 r
    rw [← not_any_not]
    simp
  rw [HA.out] at HC
  have HM := hide fun W (hb : Below w.heap.size w W) x xs (hr : r = x :: xs) => sliceMax_any W v x xs (by rw [← hr]; exact hv.below hb)
  obtain ⟨A, c, rfl, _, _, _⟩ := hv.view
  simp only [List.push_toArray, List.append_toArray, List.cons_append, List.nil_append]
  by_cases h : r.length = n
  · have hb : ((r.length : Int) != (n : Int)) = false := by simp [h]
    cases ha : allIn (-1) 20 r
    · have HB := hide ha
      have HP : Hid ((!reqB n r) = true) := by show (!reqB n r) = true; simp [reqB, ha]
      clear h hv ha
      rw [HP.out]
      go_enter Try.func203, Try.ntmps203
      go_wp2_with ((with_reducible refine HC.out.mono ?_); rintro e w2 ⟨rfl, hb2⟩; rw [HB.out]; dsimp only)
      go_ret
      exact ⟨rfl, hb2⟩
    · have HB := hide ha
      obtain ⟨x, xs, hr⟩ : ∃ x xs, r = x :: xs := by
        cases r with
        | nil => simp at h; omega
        | cons x xs => exact ⟨x, xs, rfl⟩
      have HP : Hid ((!reqB n r) = decide (greatest x xs < 0)) := by
        show (!reqB n r) = _
        unfold reqB
        rw [h, ha, hr, any_nonneg, Bool.eq_iff_iff]
        simp
      have HR := hide hr
      clear h hv ha hr
      rw [HP.out]
      go_enter Try.func203, Try.ntmps203
      go_wp2_with fail
      refine HC.out.mono ?_
      rintro e w2 ⟨rfl, hb2⟩
      rw [HB.out]
      dsimp only
      go_wp2_with fail
      refine (HM.out w2 hb2 x xs HR.out).mono ?_
      rintro e w3 ⟨rfl, n3, rfl⟩
      dsimp only
      go_wp2
      go_ret
      exact ⟨rfl, below_drewN hb2 _⟩
  · have hb : ((r.length : Int) != (n : Int)) = true := by simp; omega
    have HP : Hid ((!reqB n r) = true) := by show (!reqB n r) = true; simp [reqB, h]
    clear h hv
    rw [HP.out]
    go_enter Try.func203, Try.ntmps203
    go_wp2
    go_ret
    exact ⟨rfl, Below.refl _ _⟩

/-! ### Problems -/
def ProbIn (w : World) (v : Value) (m s : List (List Int)) : Prop := ∃ u1 u2, v = .agg #[u1, u2] ∧ SlII w u1 m ∧ SlII w u2 s
theorem ProbIn.below {w w' : World} {v : Value} {m s : List (List Int)} (h : ProbIn w v m s) (hb : Below w.heap.size w w') : ProbIn w' v m s := by
  obtain ⟨u1, u2, e, h1, h2⟩ := h
  exact ⟨u1, u2, e, SlII.below h1 hb, SlII.below h2 hb⟩
theorem metric_any (w : World) (A A' : Option Addr) (n c n' c' : Nat) :
    Calls Try.prog 202 #[.agg #[.slice A n c, .slice A' n' c']] w fun e w' => e = .returned (.agg #[.slice A n c]) ∧ Below w.heap.size w w' := by
  go_enter Try.func202, Try.ntmps202
  go_wp2
  exact bodyPost_ret (v := .agg #[.slice A n c]) (by simp [results, Try.results202, go_sem]) rfl ⟨rfl, by repeat (first | exact Below.refl _ _ | apply Below.drew | refine Below.setCell ?_ (by first | (simp; done) | (simp; omega)) _ | refine Below.alloc ?_ (by first | (simp; done) | (simp; omega)) _)⟩

theorem probB_1 {m s : List (List Int)} (h : rng m.length 1 4 = false) : probB m s = false := by unfold probB; rw [h]; rfl
theorem probB_2 {m s : List (List Int)} (h : metB m = false) : probB m s = false := by unfold probB; rw [h]; simp
theorem probB_3 {m s : List (List Int)} (h : rng s.length 1 4 = false) : probB m s = false := by unfold probB; rw [h]; simp
theorem probB_4 {m s : List (List Int)} (h1 : rng m.length 1 4 = true) (h2 : metB m = true) (h3 : rng s.length 1 4 = true) : probB m s = s.all (reqB m.length) := by unfold probB; rw [h1, h2, h3]; rfl

set_option maxHeartbeats 2000000 in
theorem isProblem_any (w : World) (v : Value) (m s : List (List Int)) (hx : ProbIn w v m s) :
    Calls Try.prog 169 #[v] w fun e w' => e = .returned (.bool (probB m s)) ∧ Below w.heap.size w w' := by
  obtain ⟨u1, u2, rfl, h1, h2⟩ := hx
  obtain ⟨W, hW⟩ : ∃ W, (w.alloc (.cells #[u1, u2] 31)).alloc (.cells #[.int .i64 m.length] 3) = W := ⟨_, rfl⟩
  have hB : Below w.heap.size w W := by rw [← hW]; exact by repeat (first | exact Below.refl _ _ | apply Below.drew | refine Below.setCell ?_ (by first | (simp; done) | (simp; omega)) _ | refine Below.alloc ?_ (by first | (simp; done) | (simp; omega)) _)
  have hb1 : W.cell? ⟨w.heap.size, 0, none⟩ = some u1 := by rw [← hW]; simp [go_sem]
  have hb2 : W.cell? ⟨w.heap.size, 1, none⟩ = some u2 := by rw [← hW]; simp [go_sem]
  have hb3 : W.cell? ⟨w.heap.size + 1, 0, none⟩ = some (.int .i64 m.length) := by rw [← hW]; simp [go_sem]
  have hlm := SlO.len h1
  have hls := SlO.len h2
  have HM := hide fun W' (hb : Below w.heap.size w W') => isMetric_any W' u1 m (SlII.below h1 hb)
  have HC := hide fun (hn0 : 0 < m.length) W' (hb : Below W.heap.size W W') => containsFuncII_any W' u2 s 203 #[.pointer (some ⟨w.heap.size + 1, 0, none⟩)] (fun r => !reqB m.length r) enters_IsProblem1 (SlII.below (SlII.below h2 hB) hb)
    (fun W2 hW2 j hj v' hv' => isProblem1_any W2 _ v' _ m.length hn0 hlm (cell_of_below hW2 (cell_of_below hb hb3)) (SlI.below hv' hW2))
  have HQ : Hid ((s.any fun r => !reqB m.length r) = !s.all (reqB m.length)) := by
    show _ = !s.all (reqB m.length)
    rw [List.any_eq_not_all_not]
    simp
  obtain ⟨A1, c1, rfl, _, _, _⟩ := SlO.view h1
  obtain ⟨A2, c2, rfl, _, _, _⟩ := SlO.view h2
  have HW := hide hW
  clear h1 h2 hW
  cases q1 : rng m.length 1 4
  · rw [probB_1 q1]
    have Q1 := hide q1
    clear q1
    go_enter Try.func169, Try.ntmps169
    go_wp2_with fail
    rw [HW.out]
    refine (within_any _ _ _ _).mono ?_
    rintro e w' ⟨rfl, rfl⟩
    rw [Q1.out]
    dsimp only
    go_wp2
    go_ret
    exact ⟨rfl, hB⟩
  · have hn0 : 0 < m.length := by have := rng_iff.1 q1; omega
    have Q1 := hide q1
    cases q2 : metB m
    · rw [probB_2 q2]
      have Q2 := hide q2
      clear q1 q2
      go_enter Try.func169, Try.ntmps169
      go_wp2_with fail
      rw [HW.out]
      refine (within_any _ _ _ _).mono ?_
      rintro e w' ⟨rfl, rfl⟩
      rw [Q1.out]
      dsimp only
      go_wp2_with fail
      refine (metric_any _ _ _ _ _ _ _).mono ?_
      rintro e w3 ⟨rfl, hb3'⟩
      have B3 := hB.trans (hb3'.mono hB.size)
      dsimp only
      go_wp2_with fail
      refine (HM.out w3 B3).mono ?_
      rintro e w4 ⟨rfl, hb4⟩
      rw [Q2.out]
      dsimp only
      go_wp2
      go_ret
      exact ⟨rfl, B3.trans (hb4.mono B3.size)⟩
    · have Q2 := hide q2
      cases q3 : rng s.length 1 4
      · rw [probB_3 q3]
        have Q3 := hide q3
        clear q1 q2 q3
        go_enter Try.func169, Try.ntmps169
        go_wp2_with fail
        rw [HW.out]
        refine (within_any _ _ _ _).mono ?_
        rintro e w' ⟨rfl, rfl⟩
        rw [Q1.out]
        dsimp only
        go_wp2_with fail
        refine (metric_any _ _ _ _ _ _ _).mono ?_
        rintro e w3 ⟨rfl, hb3'⟩
        have B3 := hB.trans (hb3'.mono hB.size)
        dsimp only
        go_wp2_with fail
        refine (HM.out w3 B3).mono ?_
        rintro e w4 ⟨rfl, hb4⟩
        rw [Q2.out]
        have d2 := cell_of_below hb4 (cell_of_below hb3' hb2)
        dsimp only
        go_wp2_with fail
        refine (within_any _ _ _ _).mono ?_
        rintro e w' ⟨rfl, rfl⟩
        rw [Q3.out]
        dsimp only
        go_wp2
        go_ret
        exact ⟨rfl, B3.trans (hb4.mono B3.size)⟩
      · rw [probB_4 q1 q2 q3]
        have Q3 := hide q3
        clear q1 q2 q3
        go_enter Try.func169, Try.ntmps169
        go_wp2_with fail
        rw [HW.out]
        refine (within_any _ _ _ _).mono ?_
        rintro e w' ⟨rfl, rfl⟩
        rw [Q1.out]
        dsimp only
        go_wp2_with fail
        refine (metric_any _ _ _ _ _ _ _).mono ?_
        rintro e w3 ⟨rfl, hb3'⟩
        have B3 := hB.trans (hb3'.mono hB.size)
        dsimp only
        go_wp2_with fail
        refine (HM.out w3 B3).mono ?_
        rintro e w4 ⟨rfl, hb4⟩
        rw [Q2.out]
        have d2 := cell_of_below hb4 (cell_of_below hb3' hb2)
        have B4 := B3.trans (hb4.mono B3.size)
        have HBW := hide (below_trans hb3' hb4 (Nat.le_refl _))
        dsimp only
        go_wp2_with fail
        refine (within_any _ _ _ _).mono ?_
        rintro e w' ⟨rfl, rfl⟩
        rw [Q3.out]
        dsimp only
        go_wp2_with fail
        refine (HC.out hn0 w4 HBW.out).mono ?_
        rintro e w5 ⟨rfl, hb5⟩
        rw [HQ.out]
        dsimp only
        go_wp2
        go_ret
        exact ⟨by simp, B4.trans (hb5.mono B4.size)⟩
end Go.Proofs.Ytlmhajdhpdpanaa
