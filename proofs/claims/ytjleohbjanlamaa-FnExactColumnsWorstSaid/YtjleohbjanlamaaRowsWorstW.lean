/- The greatest mean of a column: the walks of the program's and the reference's function. Conditions: weights of at most 2^20. -/
import Derived.Test.YtjleohbjanlamaaMatrixS
import Derived.Test.YtjleohbjanlamaaProdsW
import Derived.Test.YtjleohbjanlamaaMkFrac
namespace Go.Proofs.Ytjleohbjanlamaa
open Go.RowKit

/-- are there as many weights, in 0..9, not all 0 -/
def wtB (many : Nat) (ws : List Int) : Bool := (ws.length == many) && allIn 0 9 ws && decide (0 < ws.sum)
theorem wtB_iff {many : Nat} {ws : List Int} : wtB many ws = true ↔ ws.length = many ∧ (∀ c ∈ ws, 0 ≤ c ∧ c ≤ 9) ∧ 0 < ws.sum := by
  simp [wtB, allIn_iff, and_assoc]
theorem sumFits_wt {ws : List Int} (h : allIn 0 9 ws = true) (hl : ws.length ≤ 1048576) : SumFits ws := sumFits_of (B := 9) (allIn_iff.1 h) (by omega) (by omega)

set_option maxHeartbeats 1000000 in
theorem isWeighted_any (w : World) (u v : Value) (m : List (List Int)) (ws : List Int) (hx : SlII w u m) (hy : SlI w v ws) (hl : ws.length ≤ 1048576)  :
    Calls Try.prog 60 #[u, v] w fun e w' => e = .returned (.bool (wtB m.length ws)) ∧ Below w.heap.size w w' := by
  have H1 := hide (areWeights_any w v ws 0 hy)
  have H2 := hide fun W (hb : Below w.heap.size w W) (ha : allIn 0 9 ws = true) => total_any W v ws (hy.below hb) (sumFits_wt ha hl)
  have hlm := SlO.len hx
  obtain ⟨A, c, rfl, hc1, hc2, _⟩ := SlO.view hx
  obtain ⟨A', c', rfl, hd1, hd2, _⟩ := hy.view
  clear hx hy
  by_cases hn : ws.length = m.length
  · have hb : ((ws.length : Int) == (m.length : Int)) = true := by simp [hn]
    cases ha : allIn 0 9 ws
    · have HA := hide ha
      have HP : Hid (wtB m.length ws = false) := by show wtB m.length ws = false; simp [wtB, ha]
      rw [HP.out]
      clear hn ha
      go_enter Try.func60, Try.ntmps60
      go_wp2_with ((with_reducible refine H1.out.mono ?_); rintro e w2 ⟨rfl, hb2⟩; rw [HA.out]; dsimp only)
      go_ret
      exact ⟨rfl, hb2⟩
    · have HA := hide ha
      have HP : Hid (wtB m.length ws = decide (0 < ws.sum)) := by show wtB m.length ws = _; simp [wtB, ha, hn]
      rw [HP.out]
      clear hn ha
      go_enter Try.func60, Try.ntmps60
      go_wp2_with fail
      refine H1.out.mono ?_
      rintro e w2 ⟨rfl, hb2⟩
      rw [HA.out]
      dsimp only
      go_wp2_with fail
      refine (H2.out w2 (hb2) HA.out).mono ?_
      rintro e w3 ⟨rfl, hb3⟩
      dsimp only
      go_wp2
      go_ret
      exact ⟨rfl, (hb2).trans (hb3.below _)⟩
  · have hb : ((ws.length : Int) == (m.length : Int)) = false := by simp; omega
    have HP : Hid (wtB m.length ws = false) := by show wtB m.length ws = false; simp [wtB, hn]
    rw [HP.out]
    go_enter Try.func60, Try.ntmps60
    go_wp2
    go_ret
    exact ⟨rfl, Below.refl _ _⟩
set_option maxHeartbeats 1000000 in
theorem l11Mixed_any (w : World) (u v : Value) (m : List (List Int)) (ws : List Int) (hx : SlII w u m) (hy : SlI w v ws) (hl : ws.length ≤ 1048576) (n : Nat) (hn9 : n ≤ 9223372036854775807) :
    Calls Try.prog 54 #[u, v, .int .i64 n] w fun e w' => e = .returned (.bool (wtB n ws)) ∧ Below w.heap.size w w' := by
  have H1 := hide (l11Weights_any w v ws 0 hy)
  have H2 := hide fun W (hb : Below w.heap.size w W) (ha : allIn 0 9 ws = true) => l11Sum_any W v ws (hy.below hb) (sumFits_wt ha hl)
  have hlm := SlO.len hx
  obtain ⟨A, c, rfl, hc1, hc2, _⟩ := SlO.view hx
  obtain ⟨A', c', rfl, hd1, hd2, _⟩ := hy.view
  clear hx hy
  by_cases hn : ws.length = n
  · have hb : ((ws.length : Int) == (n : Int)) = true := by simp [hn]
    cases ha : allIn 0 9 ws
    · have HA := hide ha
      have HP : Hid (wtB n ws = false) := by show wtB n ws = false; simp [wtB, ha]
      rw [HP.out]
      clear hn ha
      go_enter Try.func54, Try.ntmps54
      go_wp2_with ((with_reducible refine H1.out.mono ?_); rintro e w2 ⟨rfl, hb2⟩; rw [HA.out]; dsimp only)
      go_ret
      exact ⟨rfl, hb2.below _⟩
    · have HA := hide ha
      have HP : Hid (wtB n ws = decide (0 < ws.sum)) := by show wtB n ws = _; simp [wtB, ha, hn]
      rw [HP.out]
      clear hn ha
      go_enter Try.func54, Try.ntmps54
      go_wp2_with fail
      refine H1.out.mono ?_
      rintro e w2 ⟨rfl, hb2⟩
      rw [HA.out]
      dsimp only
      go_wp2_with fail
      refine (H2.out w2 (hb2.below _) HA.out).mono ?_
      rintro e w3 ⟨rfl, hb3⟩
      dsimp only
      go_wp2
      go_ret
      exact ⟨rfl, (hb2.below _).trans (hb3.below _)⟩
  · have hb : ((ws.length : Int) == (n : Int)) = false := by simp; omega
    have HP : Hid (wtB n ws = false) := by show wtB n ws = false; simp [wtB, hn]
    rw [HP.out]
    go_enter Try.func54, Try.ntmps54
    go_wp2
    go_ret
    exact ⟨rfl, Below.refl _ _⟩
end Go.Proofs.Ytjleohbjanlamaa
