/- Sequences of requests, by the reference's function. Conditions: none. -/
import Derived.Test.YtlhdeofkhajigaaPS
import Derived.Test.YtlhdeofkhajigaaChances
import Derived.IntWalk
set_option linter.all false
set_option linter.unusedSimpArgs false
set_option linter.unusedVariables false
namespace Go.Proofs.Ytlhdeofkhajigaa
open Go.RowKit

def takesB (m s : List (List Int)) (start : Int) (xs : List Int) : Bool := probB m s && rng start 0 ((m.length : Int) - 1) && seqB s.length xs

set_option maxHeartbeats 2000000 in
theorem l8Takes_any (w : World) (v u : Value) (m s : List (List Int)) (start : Int) (xs : List Int) (hp : ProbIn w v m s) (hx : SlI w u xs) :
    Calls Try.prog 42 #[v, .int .i64 start, u] w fun e w' => e = .returned (.bool (takesB m s start xs)) ∧ Below w.heap.size w w' := by
  have hp0 := hp
  obtain ⟨u1, u2, rfl, h1, h2⟩ := hp
  obtain ⟨W, hW⟩ : ∃ W, w.alloc (.cells #[u1, u2] 32) = W := ⟨_, rfl⟩
  have hB : Below w.heap.size w W := by rw [← hW]; exact by repeat (first | exact Below.refl _ _ | apply Below.drew | refine Below.setCell ?_ (by first | (simp; done) | (simp; omega)) _ | refine Below.alloc ?_ (by first | (simp; done) | (simp; omega)) _)
  have hb1 : W.cell? ⟨w.heap.size, 0, none⟩ = some u1 := by rw [← hW]; simp [go_sem]
  have hb2 : W.cell? ⟨w.heap.size, 1, none⟩ = some u2 := by rw [← hW]; simp [go_sem]
  have hlm := SlO.len h1
  have hls := SlO.len h2
  have hlx := SlI.len hx
  have HA := hide (l8Good_any W _ m s (hp0.below hB))
  obtain ⟨A1, c1, rfl, _, _, _⟩ := SlO.view h1
  obtain ⟨A2, c2, rfl, _, _, _⟩ := SlO.view h2
  obtain ⟨A, c, rfl, _, _, hcell⟩ := SlI.view hx
  have HW := hide hW
  have HCELL := hide hcell
  have hwr1 : IntKind.i64.wrap ((m.length : Int) - 1) = (m.length : Int) - 1 := IntWalk.i64_in _ (by omega)
  have hwr2 : IntKind.i64.wrap ((s.length : Int) - 1) = (s.length : Int) - 1 := IntWalk.i64_in _ (by omega)
  clear hp0 h1 h2 hx hcell hW
  cases q1 : probB m s
  · have HP : Hid (takesB m s start xs = false) := by show takesB m s start xs = _; simp [takesB, q1]
    have Q1 := hide q1
    clear q1
    rw [HP.out]
    go_enter Try.func42, Try.ntmps42
    go_wp2_with fail
    rw [HW.out]
    refine HA.out.mono ?_
    rintro e w2 ⟨rfl, hb2'⟩
    rw [Q1.out]
    dsimp only
    go_wp2
    go_ret
    exact ⟨rfl, hB.trans (hb2'.mono hB.size)⟩
  · have Q1 := hide q1
    cases q2 : rng start 0 ((m.length : Int) - 1)
    · have HP : Hid (takesB m s start xs = false) := by show takesB m s start xs = _; simp [takesB, q2]
      have Q2 := hide q2
      clear q1 q2
      rw [HP.out]
      go_enter Try.func42, Try.ntmps42
      go_wp2_with fail
      rw [HW.out]
      refine HA.out.mono ?_
      rintro e w2 ⟨rfl, hb2'⟩
      rw [Q1.out]
      have d1 := cell_of_below hb2' hb1
      dsimp only
      go_wp2_with fail
      refine (l1In_any _ _ _ _).mono ?_
      rintro e w' ⟨rfl, rfl⟩
      rw [Q2.out]
      dsimp only
      go_wp2
      go_ret
      exact ⟨rfl, hB.trans (hb2'.mono hB.size)⟩
    · have Q2 := hide q2
      by_cases q3 : xs.length ≤ 60
      · have hg : decide ((xs.length : Int) > 60) = false := by simp; omega
        have HP : Hid (takesB m s start xs = allIn 0 ((s.length : Int) - 1) xs) := by show takesB m s start xs = _; simp [takesB, seqB, q1, q2, q3]
        clear q1 q2 q3
        rw [HP.out]
        go_enter Try.func42, Try.ntmps42
        go_wp2_with fail
        rw [HW.out]
        refine HA.out.mono ?_
        rintro e w2 ⟨rfl, hb2'⟩
        rw [Q1.out]
        have d1 := cell_of_below hb2' hb1
        have d2 := cell_of_below hb2' hb2
        have B2 := hB.trans (hb2'.mono hB.size)
        have HB2 := hide B2
        dsimp only
        go_wp2_with fail
        refine (l1In_any _ _ _ _).mono ?_
        rintro e w' ⟨rfl, rfl⟩
        rw [Q2.out]
        dsimp only
        go_wp2
        go_loopw [7] (fun i wr => ∃ k : Nat, k ≤ xs.length ∧ i = .int .i64 k ∧ Hid (∀ x ∈ xs.take k, rng x 0 ((s.length : Int) - 1) = true) ∧ Qt w2 wr) (fun i _ => xs.length - (intOf i).toNat)
        case atStart => exact ⟨0, Nat.zero_le _, rfl, (fun x h => by simp at h), Qt.refl _⟩
        case round =>
          obtain ⟨k, hk, rfl, hN, n, rfl⟩ := hrel
          by_cases hlt : k < xs.length
          · obtain ⟨ad, rfl, j1⟩ := HCELL.out k hlt
            have j1' : w2.cell? (ad.add k) = some (.int .i64 xs[k]) := (HB2.out.cell (block_lt j1)).trans j1
            have HR := hide fun a => l1In_any (w2.drewN a) xs[k] 0 ((s.length : Int) - 1)
            clear j1
            cases hp : rng xs[k] 0 ((s.length : Int) - 1)
            · have HF : Hid (allIn 0 ((s.length : Int) - 1) xs = false) := allIn_no (List.getElem_mem hlt) hp
              rw [hp] at HR
              clear hp
              go_wp2_with fail
              go_quiet ((go_at_call 72; first | exact quiet3 (HR.out _) | exact quiet2 (HR.out _)))
              go_wp2
              go_ret
              exact ⟨by rw [HF.out]; rfl, below_drewN (below_drewN HB2.out _) _⟩
            · have HP2 := hide hp
              rw [hp] at HR
              clear hp
              go_wp2_with fail
              go_quiet ((go_at_call 72; first | exact quiet3 (HR.out _) | exact quiet2 (HR.out _)))
              go_wp2
              go_roundw
              case rel =>
                refine ⟨k + 1, by omega, by go_num, ?_, by first | exact ⟨_, rfl⟩ | exact ⟨_, World.drewN_drewN _ _ _⟩⟩
                intro x hx
                rw [List.take_succ_eq_append_getElem hlt] at hx
                rcases List.mem_append.1 hx with hx | hx
                · exact hN.out x hx
                · simp at hx
                  rw [hx]
                  exact HP2.out
              case measure => simp [intOf]; omega
          · go_wp2
            go_ret
            obtain rfl : k = xs.length := by omega
            have h1 := hN.out
            rw [List.take_of_length_le (Nat.le_refl _)] at h1
            have h2 : allIn 0 ((s.length : Int) - 1) xs = true := by unfold allIn; exact List.all_eq_true.2 h1
            exact ⟨by rw [h2]; rfl, below_drewN HB2.out _⟩
      · have hg : decide ((xs.length : Int) > 60) = true := by simp; omega
        have HP : Hid (takesB m s start xs = false) := by show takesB m s start xs = _; simp [takesB, seqB, q3]
        clear q1 q2 q3
        rw [HP.out]
        go_enter Try.func42, Try.ntmps42
        go_wp2_with fail
        rw [HW.out]
        refine HA.out.mono ?_
        rintro e w2 ⟨rfl, hb2'⟩
        rw [Q1.out]
        have d1 := cell_of_below hb2' hb1
        dsimp only
        go_wp2_with fail
        refine (l1In_any _ _ _ _).mono ?_
        rintro e w' ⟨rfl, rfl⟩
        rw [Q2.out]
        dsimp only
        go_wp2
        go_ret
        exact ⟨rfl, hB.trans (hb2'.mono hB.size)⟩
end Go.Proofs.Ytlhdeofkhajigaa
