/- Is a list a matrix: by the reference's function. Conditions: none. -/
import Derived.Test.YtpihfeganpdjiaaMatrix
set_option linter.all false
set_option linter.unusedSimpArgs false
set_option linter.unusedVariables false
namespace Go.Proofs.Ytpihfeganpdjiaa
open Go.RowKit

theorem matB_first {m : List (List Int)} (h : rng m.length 1 3 = false) : matB m = false := by unfold matB; rw [h]; rfl
theorem matB_head {m : List (List Int)} (hm : 0 < m.length) (h : rng m[0].length 1 3 = false) : matB m = false := by
  cases m with
  | nil => simp at hm
  | cons r m =>
    unfold matB
    have : rowB (headLen (r :: m)) r = false := by unfold rowB areInB; rw [show rng r.length 1 3 = false from h]; simp
    simp [this]
theorem matB_row {m : List (List Int)} {k : Nat} (hk : k < m.length) (h : rowB (headLen m) m[k] = false) : matB m = false := by
  unfold matB
  have : m.all (rowB (headLen m)) = false := by
    rw [List.all_eq_false]
    exact ⟨m[k], List.getElem_mem hk, by simp [h]⟩
  rw [this, Bool.and_false]
theorem matB_all {m : List (List Int)} (h1 : rng m.length 1 3 = true) (h2 : rng (headLen m) 1 3 = true) (h : ∀ r ∈ m, r.length = headLen m ∧ allIn 0 40 r = true) : matB m = true := by
  unfold matB
  rw [h1, Bool.true_and, List.all_eq_true]
  intro r hr
  obtain ⟨h3, h4⟩ := h r hr
  unfold rowB areInB
  rw [h4, h3, h2]
  simp

set_option maxHeartbeats 1000000 in
theorem l11Matrix_any (w : World) (u : Value) (m : List (List Int)) (hx : SlII w u m) :
    Calls Try.prog 15 #[u] w fun e w' => e = .returned (.bool (matB m)) ∧ Qt w w' := by
  have hlen := SlO.len hx
  obtain ⟨A, c, rfl, hc1, hc2, hcell⟩ := SlO.view hx
  cases hr : rng m.length 1 3
  · have HR := hide hr
    rw [matB_first hr]
    clear hx hr hcell
    go_enter Try.func15, Try.ntmps15
    go_wp2_with (go_at_call 30; refine (l1In_any _ _ _ _).mono ?_; rintro e w' ⟨rfl, rfl⟩; rw [HR.out]; dsimp only)
    go_ret
    exact ⟨rfl, Qt.refl _⟩
  · have HR := hide hr
    have hm0 : 0 < m.length := by have := rng_iff.1 hr; omega
    obtain ⟨ad, v0, rfl, hcv, hr0⟩ := hcell 0 hm0
    obtain ⟨A0, c0, rfl, hrc1, hrc2, hrow0⟩ := SlI.view hr0
    have hn2 := SlI.len hr0
    have HH : Hid (headLen m = m[0].length) := by
      show headLen m = _
      cases m with
      | nil => simp at hm0
      | cons r m => rfl
    obtain ⟨n, hn⟩ : ∃ n, m[0].length = n := ⟨_, rfl⟩
    have hcv' : w.cell? ad = some (.slice A0 n c0) := by rw [← hn]; exact hcv
    rw [hn] at hrc1 hn2
    have HN := hide hn
    have hm0i : (0 : Int) < (m.length : Int) := by omega
    cases hr2 : rng n 1 3
    · have HR2 := hide hr2
      rw [matB_head hm0 (by rw [hn]; exact hr2)]
      clear hx hr hr2 hcell hcv hr0 hrow0 hn
      go_enter Try.func15, Try.ntmps15
      go_wp2_with (go_at_call 30; refine (l1In_any _ _ _ _).mono ?_; rintro e w' ⟨rfl, rfl⟩; first | rw [HR.out] | rw [HR2.out]; dsimp only)
      go_ret
      exact ⟨rfl, Qt.refl _⟩
    · have HR2 := hide hr2
      have HCELL := hide hcell
      clear hx hr hr2 hcell hcv hr0 hrow0 hn
      go_enter Try.func15, Try.ntmps15
      go_wp2_with (go_at_call 30; refine (l1In_any _ _ _ _).mono ?_; rintro e w' ⟨rfl, rfl⟩; first | rw [HR.out] | rw [HR2.out]; dsimp only)
      go_loopw [3] (fun i wr => ∃ k : Nat, k ≤ m.length ∧ i = .int .i64 k ∧ Hid (∀ r ∈ m.take k, r.length = headLen m ∧ allIn 0 40 r = true) ∧ Qt w wr) (fun i _ => m.length - (intOf i).toNat)
      case atStart => exact ⟨0, Nat.zero_le _, rfl, (fun r h => by simp at h), Qt.refl _⟩
      case round =>
        obtain ⟨k, hk, rfl, hG, q, rfl⟩ := hrel
        by_cases hlt : k < m.length
        · obtain ⟨ad1, rv, e1, hcr, hrr⟩ := HCELL.out k hlt
          cases e1
          obtain ⟨A1, c1, rfl, hq1, hq2, hrow⟩ := SlI.view hrr
          obtain ⟨row, hrw⟩ : ∃ row, m[k] = row := ⟨_, rfl⟩
          have hln := SlI.len hrr
          rw [hrw] at hcr hq1 hrow hln
          have HRW := hide hrw
          clear hrr hrw
          by_cases hl : row.length = n
          · have HL := hide hl
            rw [hl] at hcr hq1 hln
            have hb : ((n : Int) != (n : Int)) = false := by simp
            clear hl
            go_wp2
            go_quiet (fail)
            go_wp2
            go_loopw [4] (fun i wr => ∃ j : Nat, j ≤ n ∧ i = .int .i64 j ∧ Hid (∀ x ∈ row.take j, rng x 0 40 = true) ∧ Qt w wr) (fun i _ => n - (intOf i).toNat)
            case atStart => exact ⟨0, Nat.zero_le _, rfl, (fun r h => by simp at h), by first | exact ⟨_, rfl⟩ | exact ⟨_, World.drewN_drewN _ _ _⟩⟩
            case round =>
              obtain ⟨j, hj, rfl, hJ, q2, rfl⟩ := hrel
              by_cases hlj : j < n
              · have hjr : j < row.length := by rw [HL.out]; exact hlj
                obtain ⟨ad2, rfl, hcx⟩ := hrow j hjr
                cases hp : rng row[j] 0 40
                · have HP := hide hp
                  have HF : Hid (matB m = false) := by
                    refine matB_row hlt ?_
                    unfold rowB areInB
                    rw [HRW.out, allIn_no (List.getElem_mem hjr) hp]
                    simp
                  clear hp hrow
                  go_wp2_with (go_at_call 30; refine (l1In_any _ _ _ _).mono ?_; rintro e w' ⟨rfl, rfl⟩; rw [HP.out]; dsimp only)
                  go_ret
                  exact ⟨by rw [HF.out]; rfl, by first | exact ⟨_, rfl⟩ | exact ⟨_, World.drewN_drewN _ _ _⟩⟩
                · have HP := hide hp
                  clear hp hrow
                  go_wp2_with (go_at_call 30; refine (l1In_any _ _ _ _).mono ?_; rintro e w' ⟨rfl, rfl⟩; rw [HP.out]; dsimp only)
                  go_roundw
                  case rel =>
                    refine ⟨j + 1, by omega, by go_num, ?_, by first | exact ⟨_, rfl⟩ | exact ⟨_, World.drewN_drewN _ _ _⟩⟩
                    intro x hx
                    rw [List.take_succ_eq_append_getElem hjr] at hx
                    rcases List.mem_append.1 hx with hx | hx
                    · exact hJ.out x hx
                    · simp at hx
                      rw [hx]
                      exact HP.out
                  case measure => simp [intOf]; omega
              · clear hrow
                go_wp2
                go_roundw
                case rel =>
                  refine ⟨k + 1, by omega, by go_num, ?_, by first | exact ⟨_, rfl⟩ | exact ⟨_, World.drewN_drewN _ _ _⟩⟩
                  intro r hr
                  rw [List.take_succ_eq_append_getElem hlt] at hr
                  rcases List.mem_append.1 hr with hr | hr
                  · exact hG.out r hr
                  · simp at hr
                    rw [hr, HRW.out, HL.out, HH.out, HN.out]
                    refine ⟨rfl, ?_⟩
                    have hJ' := hJ.out
                    rw [List.take_of_length_le (by rw [HL.out]; omega)] at hJ'
                    unfold allIn
                    exact List.all_eq_true.2 hJ'
                case measure => simp [intOf]; omega
          · have hb : ((row.length : Int) != (n : Int)) = true := by simp; omega
            have HF : Hid (matB m = false) := by
              refine matB_row hlt ?_
              unfold rowB
              rw [HRW.out, HH.out, HN.out]
              simp [hl]
            clear hl hrow
            go_wp2
            go_quiet (fail)
            go_wp2
            go_ret
            exact ⟨by rw [HF.out]; rfl, by first | exact ⟨_, rfl⟩ | exact ⟨_, World.drewN_drewN _ _ _⟩⟩
        · go_wp2
          go_ret
          obtain rfl : k = m.length := by omega
          have h1 := hG.out
          rw [List.take_of_length_le (Nat.le_refl _)] at h1
          exact ⟨by rw [matB_all HR.out (by rw [HH.out, HN.out]; exact HR2.out) h1]; rfl, by first | exact ⟨_, rfl⟩ | exact ⟨_, World.drewN_drewN _ _ _⟩⟩
end Go.Proofs.Ytpihfeganpdjiaa
