/- Problems, by the reference's functions. Conditions: none. -/
import Derived.Test.YtlmhajdhpdpanaaProblem
set_option linter.all false
set_option linter.unusedSimpArgs false
set_option linter.unusedVariables false
namespace Go.Proofs.Ytlmhajdhpdpanaa
open Go.RowKit

def canAny (xs : List Int) (k : Nat) : Bool := (xs.take k).any fun c => decide (0 ≤ c)
theorem canAny_succ (xs : List Int) (k : Nat) (h : k < xs.length) : canAny xs (k + 1) = (canAny xs k || decide (0 ≤ xs[k])) := by
  unfold canAny
  rw [List.take_succ_eq_append_getElem h, List.any_append]
  simp only [List.any_cons, List.any_nil, Bool.or_false]

theorem l8Request_any (w : World) (u : Value) (n : Nat) (xs : List Int) (hn : n ≤ 9223372036854775807) (hx : SlI w u xs) :
    Calls Try.prog 200 #[.int .i64 n, u] w fun e w' => e = .returned (.bool (reqB n xs)) ∧ w = w' := by
  have hlen := hx.len
  obtain ⟨A, c, rfl, hc1, hc2, hcell⟩ := hx.view
  clear hx
  go_enter Try.func200, Try.ntmps200
  go_wp2
  go_loop [5, 6] (fun b i => ∃ k : Nat, k ≤ xs.length ∧ i = .int .i64 k ∧ (∃ bb, b = .bool bb ∧ Hid (bb = canAny xs k)) ∧ Hid (∀ x ∈ xs.take k, rng x (-1) 20 = true)) (fun _ i => xs.length - (intOf i).toNat)
  case atStart => exact ⟨0, Nat.zero_le _, rfl, ⟨_, rfl, rfl⟩, (fun x h => by simp at h)⟩
  case round =>
    obtain ⟨k, hk, rfl, ⟨bb, rfl, hB⟩, hN⟩ := hrel
    by_cases hlt : k < xs.length
    · obtain ⟨ad, rfl, hc⟩ := hcell k hlt
      clear hcell
      cases hp : rng xs[k] (-1) 20
      · have HP := hide hp
        have HF : Hid (reqB n xs = false) := by
          show reqB n xs = false
          unfold reqB
          rw [allIn_no (List.getElem_mem hlt) hp]
          simp
        clear hp
        go_wp2_with (go_at_call 87; refine (l1In_any _ _ _ _).mono ?_; rintro e w' ⟨rfl, rfl⟩; rw [HP.out]; dsimp only)
        go_ret
        exact ⟨by rw [HF.out]; rfl, rfl⟩
      · have HP := hide hp
        have HS := hide (canAny_succ xs k hlt)
        clear hp
        by_cases hge : 0 ≤ xs[k]
        · cases bb
          all_goals
            go_wp2_with (go_at_call 87; refine (l1In_any _ _ _ _).mono ?_; rintro e w' ⟨rfl, rfl⟩; rw [HP.out]; dsimp only)
            go_round
            case rel =>
              refine ⟨k + 1, by omega, by go_num, ⟨_, rfl, by show _ = _; rw [HS.out]; simp [hge]⟩, ?_⟩
              intro x hx
              rw [List.take_succ_eq_append_getElem hlt] at hx
              rcases List.mem_append.1 hx with hx | hx
              · exact hN.out x hx
              · simp at hx
                rw [hx]
                exact HP.out
            case measure => simp [intOf]; omega
        · cases bb
          all_goals
            go_wp2_with (go_at_call 87; refine (l1In_any _ _ _ _).mono ?_; rintro e w' ⟨rfl, rfl⟩; rw [HP.out]; dsimp only)
            go_round
            case rel =>
              refine ⟨k + 1, by omega, by go_num, ⟨_, rfl, by show _ = _; rw [HS.out, ← hB.out]; simp [hge]⟩, ?_⟩
              intro x hx
              rw [List.take_succ_eq_append_getElem hlt] at hx
              rcases List.mem_append.1 hx with hx | hx
              · exact hN.out x hx
              · simp at hx
                rw [hx]
                exact HP.out
            case measure => simp [intOf]; omega
    · obtain rfl : k = xs.length := by omega
      have HF : Hid (reqB n xs = ((xs.length == n) && bb)) := by
        have h1 := hN.out
        have h2 := hB.out
        unfold canAny at h2
        rw [List.take_of_length_le (Nat.le_refl _)] at h1 h2
        show reqB n xs = _
        have h3 : allIn (-1) 20 xs = true := by unfold allIn; exact List.all_eq_true.2 h1
        unfold reqB
        rw [h3, h2]
        simp
      clear hB hN
      by_cases he : xs.length = n
      · have hb : ((xs.length : Int) == (n : Int)) = true := by simp [he]
        have hb' : (xs.length == n) = true := by simp [he]
        rw [hb'] at HF
        clear he
        go_wp2
        go_ret
        exact ⟨by rw [HF.out]; simp, rfl⟩
      · have hb : ((xs.length : Int) == (n : Int)) = false := by simp; omega
        have hb' : (xs.length == n) = false := by simp [he]
        rw [hb'] at HF
        clear he
        go_wp2
        go_ret
        exact ⟨by rw [HF.out]; rfl, rfl⟩

set_option maxHeartbeats 2000000 in
theorem l8Good_any (w : World) (v : Value) (m s : List (List Int)) (hx : ProbIn w v m s) :
    Calls Try.prog 165 #[v] w fun e w' => e = .returned (.bool (probB m s)) ∧ Below w.heap.size w w' := by
  obtain ⟨u1, u2, rfl, h1, h2⟩ := hx
  obtain ⟨W, hW⟩ : ∃ W, (w.alloc (.cells #[u1, u2] 31)) = W := ⟨_, rfl⟩
  have hB : Below w.heap.size w W := by rw [← hW]; exact by repeat (first | exact Below.refl _ _ | apply Below.drew | refine Below.setCell ?_ (by first | (simp; done) | (simp; omega)) _ | refine Below.alloc ?_ (by first | (simp; done) | (simp; omega)) _)
  have hb1 : W.cell? ⟨w.heap.size, 0, none⟩ = some u1 := by rw [← hW]; simp [go_sem]
  have hb2 : W.cell? ⟨w.heap.size, 1, none⟩ = some u2 := by rw [← hW]; simp [go_sem]
  have hlm := SlO.len h1
  have hls := SlO.len h2
  have HM := hide fun W' (hb : Below w.heap.size w W') => l6Good_any W' u1 m (SlII.below h1 hb)
  obtain ⟨A1, c1, rfl, _, _, _⟩ := SlO.view h1
  obtain ⟨A2, c2, rfl, _, _, hcell⟩ := SlO.view h2
  have HW := hide hW
  have HCELL := hide hcell
  clear h1 h2 hW hcell
  cases q1 : rng m.length 1 4
  · rw [probB_1 q1]
    have Q1 := hide q1
    clear q1
    go_enter Try.func165, Try.ntmps165
    go_wp2_with fail
    rw [HW.out]
    refine (l1In_any _ _ _ _).mono ?_
    rintro e w' ⟨rfl, rfl⟩
    rw [Q1.out]
    dsimp only
    go_wp2
    go_ret
    exact ⟨rfl, hB⟩
  · have Q1 := hide q1
    cases q2 : metB m
    · rw [probB_2 q2]
      have Q2 := hide q2
      clear q1 q2
      go_enter Try.func165, Try.ntmps165
      go_wp2_with fail
      rw [HW.out]
      refine (l1In_any _ _ _ _).mono ?_
      rintro e w' ⟨rfl, rfl⟩
      rw [Q1.out]
      dsimp only
      go_wp2_with fail
      refine (HM.out W hB).mono ?_
      rintro e w4 ⟨rfl, hb4⟩
      rw [Q2.out]
      dsimp only
      go_wp2
      go_ret
      exact ⟨rfl, hB.trans (hb4.mono hB.size)⟩
    · have Q2 := hide q2
      cases q3 : rng s.length 1 4
      · rw [probB_3 q3]
        have Q3 := hide q3
        clear q1 q2 q3
        go_enter Try.func165, Try.ntmps165
        go_wp2_with fail
        rw [HW.out]
        refine (l1In_any _ _ _ _).mono ?_
        rintro e w' ⟨rfl, rfl⟩
        rw [Q1.out]
        dsimp only
        go_wp2_with fail
        refine (HM.out W hB).mono ?_
        rintro e w4 ⟨rfl, hb4⟩
        rw [Q2.out]
        have d2 := cell_of_below hb4 hb2
        dsimp only
        go_wp2_with fail
        refine (l1In_any _ _ _ _).mono ?_
        rintro e w' ⟨rfl, rfl⟩
        rw [Q3.out]
        dsimp only
        go_wp2
        go_ret
        exact ⟨rfl, hB.trans (hb4.mono hB.size)⟩
      · have HP := hide (probB_4 q1 q2 q3)
        have Q3 := hide q3
        clear q1 q2 q3
        go_enter Try.func165, Try.ntmps165
        go_wp2_with fail
        rw [HW.out]
        refine (l1In_any _ _ _ _).mono ?_
        rintro e w' ⟨rfl, rfl⟩
        rw [Q1.out]
        dsimp only
        go_wp2_with fail
        refine (HM.out W hB).mono ?_
        rintro e w4 ⟨rfl, hb4⟩
        rw [Q2.out]
        have d1 := cell_of_below hb4 hb1
        have d2 := cell_of_below hb4 hb2
        have B4 := hB.trans (hb4.mono hB.size)
        have HB4 := hide B4
        dsimp only
        go_wp2_with fail
        refine (l1In_any _ _ _ _).mono ?_
        rintro e w' ⟨rfl, rfl⟩
        rw [Q3.out]
        dsimp only
        go_wp2
        go_loopw [3] (fun i wr => ∃ k : Nat, k ≤ s.length ∧ i = .int .i64 k ∧ Hid (∀ x ∈ s.take k, reqB m.length x = true) ∧ Qt w4 wr) (fun i _ => s.length - (intOf i).toNat)
        case atStart => exact ⟨0, Nat.zero_le _, rfl, (fun x h => by simp at h), Qt.refl _⟩
        case round =>
          obtain ⟨k, hk, rfl, hN, n, rfl⟩ := hrel
          by_cases hlt : k < s.length
          · obtain ⟨ad, v, rfl, j1, j2⟩ := HCELL.out k hlt
            have j1' : w4.cell? (ad.add k) = some v := (HB4.out.cell (block_lt j1)).trans j1
            have HR := hide fun a => l8Request_any (w4.drewN a) v m.length s[k] hlm (SlI.below (j2.below HB4.out) (below_of_drewN _ _ _))
            clear j1 j2
            cases hp : reqB m.length s[k]
            · have HP2 := hide hp
              have HF : Hid ((s.all (reqB m.length)) = false) := by
                show _ = false
                rw [Bool.eq_false_iff]
                intro hh
                have := List.all_eq_true.1 hh _ (List.getElem_mem hlt)
                rw [hp] at this
                cases this
              rw [hp] at HR
              clear hp
              go_wp2_with fail
              go_quiet ((go_at_call 200; first | exact quiet3 (HR.out _) | exact quiet2 (HR.out _)))
              go_wp2
              go_ret
              exact ⟨by rw [HP.out, HF.out]; rfl, below_drewN (below_drewN HB4.out _) _⟩
            · have HP2 := hide hp
              rw [hp] at HR
              clear hp
              go_wp2_with fail
              go_quiet ((go_at_call 200; first | exact quiet3 (HR.out _) | exact quiet2 (HR.out _)))
              go_wp2
              go_roundw
              case rel =>
                refine ⟨k + 1, by omega, by go_num, ?_, by first | exact ⟨_, rfl⟩ | exact ⟨_, World.drewN_drewN _ _ _⟩⟩
                intro x hx
                rw [List.take_succ_eq_append_getElem hlt] at hx
                rcases List.mem_append.1 hx with hx | hx
                · exact hN.out x hx
                · simp at hx
                  rw [hx]
                  exact HP2.out
              case measure => simp [intOf]; omega
          · go_wp2
            go_ret
            obtain rfl : k = s.length := by omega
            have h1 := hN.out
            rw [List.take_of_length_le (Nat.le_refl _)] at h1
            exact ⟨by rw [HP.out, List.all_eq_true.2 h1]; rfl, below_drewN HB4.out _⟩
end Go.Proofs.Ytlmhajdhpdpanaa
