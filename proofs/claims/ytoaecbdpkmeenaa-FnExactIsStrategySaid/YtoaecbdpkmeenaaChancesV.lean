/- Chances, by the program's functions. Conditions: none. -/
import Derived.Test.YtoaecbdpkmeenaaChances
namespace Go.Proofs.Ytoaecbdpkmeenaa
open Go.RowKit

theorem chB_1 {n : Nat} {ws : List Int} {qs : List (List Int)} (h : rng qs.length 1 12 = false) : chB n ws qs = false := by unfold chB; rw [h]; rfl
theorem chB_2 {n : Nat} {ws : List Int} {qs : List (List Int)} (h : ws.length ≠ qs.length) : chB n ws qs = false := by unfold chB; simp [h]
theorem chB_3 {n : Nat} {ws : List Int} {qs : List (List Int)} (h : allIn 1 9 ws = false) : chB n ws qs = false := by unfold chB; rw [h]; simp
theorem chB_4 {n : Nat} {ws : List Int} {qs : List (List Int)} (h1 : rng qs.length 1 12 = true) (h2 : ws.length = qs.length) (h3 : allIn 1 9 ws = true) : chB n ws qs = qs.all (drawnB n (headLen qs)) := by unfold chB; rw [h1, h2, h3]; simp

set_option maxHeartbeats 2000000 in
theorem isChances_any (w : World) (v v' : Value) (m s : List (List Int)) (ws : List Int) (qs : List (List Int)) (hp : ProbIn w v m s) (hx : ChIn w v' ws qs) :
    Calls Try.prog 150 #[v, v'] w fun e w' => e = .returned (.bool (chB s.length ws qs)) ∧ Below w.heap.size w w' := by
  have hp0 := hp
  obtain ⟨u1, u2, rfl, h1, h2⟩ := hp
  obtain ⟨u3, u4, rfl, h3, h4⟩ := hx
  obtain ⟨W, hW⟩ : ∃ W, (w.alloc (.cells #[u1, u2] 33)).alloc (.cells #[u3, u4] 62) = W := ⟨_, rfl⟩
  have hB : Below w.heap.size w W := by rw [← hW]; exact by repeat (first | exact Below.refl _ _ | apply Below.drew | refine Below.setCell ?_ (by first | (simp; done) | (simp; omega)) _ | refine Below.alloc ?_ (by first | (simp; done) | (simp; omega)) _)
  have hb1 : W.cell? ⟨w.heap.size, 0, none⟩ = some u1 := by rw [← hW]; simp [go_sem]
  have hb2 : W.cell? ⟨w.heap.size, 1, none⟩ = some u2 := by rw [← hW]; simp [go_sem]
  have hb3 : W.cell? ⟨w.heap.size + 1, 0, none⟩ = some u3 := by rw [← hW]; simp [go_sem]
  have hb4 : W.cell? ⟨w.heap.size + 1, 1, none⟩ = some u4 := by rw [← hW]; simp [go_sem]
  have hlw := SlI.len h3
  have hlq := SlO.len h4
  have HA := hide (areWeights_any W u3 ws 1 (SlI.below h3 hB))
  have HC := hide fun (hn0 : 0 < qs.length) W' (hb : Below W.heap.size W W') => containsFuncII_any W' u4 qs 169 #[.pointer (some ⟨w.heap.size + 1, 0, none⟩), .pointer (some ⟨w.heap.size, 0, none⟩)] (fun r => !drawnB s.length (headLen qs) r) enters_isChances (SlII.below (SlII.below h4 hB) hb)
    (fun W2 hW2 j hj v' hv' => isChances1_any W2 _ _ u1 u2 u4 v' m s qs _ hn0 (cell_of_below hW2 (cell_of_below hb hb4)) (SlII.below (SlII.below (SlII.below h4 hB) hb) hW2) (cell_of_below hW2 (cell_of_below hb hb1)) (cell_of_below hW2 (cell_of_below hb hb2)) (((hp0.below hB).below hb).below hW2) (SlI.below hv' hW2))
  have HQ : Hid ((qs.any fun r => !drawnB s.length (headLen qs) r) = !qs.all (drawnB s.length (headLen qs))) := by
    show _ = !qs.all (drawnB s.length (headLen qs))
    rw [List.any_eq_not_all_not]
    simp
  obtain ⟨A1, c1, rfl, _, _, _⟩ := SlO.view h1
  obtain ⟨A2, c2, rfl, _, _, _⟩ := SlO.view h2
  obtain ⟨A3, c3, rfl, _, _, _⟩ := SlI.view h3
  obtain ⟨A4, c4, rfl, _, _, _⟩ := SlO.view h4
  have HW := hide hW
  clear hp0 h1 h2 h3 h4 hW
  cases q1 : rng qs.length 1 12
  · rw [chB_1 q1]
    have Q1 := hide q1
    clear q1
    go_enter Try.func150, Try.ntmps150
    go_wp2_with fail
    rw [HW.out]
    refine (within_any _ _ _ _).mono ?_
    rintro e w' ⟨rfl, rfl⟩
    rw [Q1.out]
    dsimp only
    go_wp2
    go_ret
    exact ⟨rfl, hB⟩
  · have hn0 : 0 < qs.length := by have := rng_iff.1 q1; omega
    have Q1 := hide q1
    by_cases q2 : ws.length = qs.length
    · have hb : ((ws.length : Int) != (qs.length : Int)) = false := by simp [q2]
      cases q3 : allIn 1 9 ws
      · rw [chB_3 q3]
        have Q3 := hide q3
        clear q1 q2 q3
        go_enter Try.func150, Try.ntmps150
        go_wp2_with fail
        rw [HW.out]
        refine (within_any _ _ _ _).mono ?_
        rintro e w' ⟨rfl, rfl⟩
        rw [Q1.out]
        dsimp only
        go_wp2_with fail
        refine HA.out.mono ?_
        rintro e w2 ⟨rfl, hb2⟩
        rw [Q3.out]
        dsimp only
        go_wp2
        go_ret
        exact ⟨rfl, hB.trans (hb2.mono hB.size)⟩
      · rw [chB_4 q1 q2 q3]
        have Q3 := hide q3
        clear q1 q2 q3
        go_enter Try.func150, Try.ntmps150
        go_wp2_with fail
        rw [HW.out]
        refine (within_any _ _ _ _).mono ?_
        rintro e w' ⟨rfl, rfl⟩
        rw [Q1.out]
        dsimp only
        go_wp2_with fail
        refine HA.out.mono ?_
        rintro e w2 ⟨rfl, hb2⟩
        rw [Q3.out]
        have d4 := cell_of_below hb2 hb4
        have B2 := hB.trans (hb2.mono hB.size)
        dsimp only
        go_wp2_with fail
        refine (HC.out hn0 w2 hb2).mono ?_
        rintro e w3 ⟨rfl, hb3⟩
        rw [HQ.out]
        dsimp only
        go_wp2
        go_ret
        exact ⟨by simp, B2.trans (hb3.mono B2.size)⟩
    · have hb : ((ws.length : Int) != (qs.length : Int)) = true := by simp; omega
      rw [chB_2 q2]
      clear q1 q2
      go_enter Try.func150, Try.ntmps150
      go_wp2_with fail
      rw [HW.out]
      refine (within_any _ _ _ _).mono ?_
      rintro e w' ⟨rfl, rfl⟩
      rw [Q1.out]
      dsimp only
      go_wp2
      go_ret
      exact ⟨rfl, hB⟩

end Go.Proofs.Ytoaecbdpkmeenaa
