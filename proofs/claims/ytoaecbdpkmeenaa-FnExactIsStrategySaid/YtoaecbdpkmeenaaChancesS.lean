/- Chances, by the reference's functions. Conditions: none. -/
import Derived.Test.YtoaecbdpkmeenaaTakes
import Derived.Test.YtoaecbdpkmeenaaChancesV
import Derived.Lib.QuietBelow
namespace Go.Proofs.Ytoaecbdpkmeenaa
open Go.RowKit

theorem drawnB_takes {m s : List (List Int)} (l : Nat) (xs : List Int) (hp : probB m s = true) (h1 : xs.length = l) (h2 : xs.length ≤ 6) : drawnB s.length l xs = takesB m s 0 xs := by
  have h3 : rng 0 0 ((m.length : Int) - 1) = true := by
    have : rng m.length 1 4 = true := by
      cases q : rng m.length 1 4
      · rw [probB_1 q] at hp; cases hp
      · rfl
    have := rng_iff.1 this
    exact rng_yes (by omega) (by omega)
  unfold drawnB takesB
  rw [hp, h3]
  simp [h1, h1 ▸ h2]

set_option maxRecDepth 100000 in
set_option maxHeartbeats 4000000 in
theorem l11Chances_any (w : World) (v v' : Value) (m s : List (List Int)) (ws : List Int) (qs : List (List Int)) (hp : ProbIn w v m s) (hx : ChIn w v' ws qs) :
    Calls Try.prog 149 #[v, v'] w fun e w' => e = .returned (.bool (probB m s && chB s.length ws qs)) ∧ Below w.heap.size w w' := by
  have hp0 := hp
  obtain ⟨u1, u2, rfl, h1, h2⟩ := hp
  obtain ⟨u3, u4, rfl, h3, h4⟩ := hx
  obtain ⟨W, hW⟩ : ∃ W, (w.alloc (.cells #[u1, u2] 33)).alloc (.cells #[u3, u4] 62) = W := ⟨_, rfl⟩
  have hB : Below w.heap.size w W := by rw [← hW]; exact by repeat (first | exact Below.refl _ _ | apply Below.drew | refine Below.setCell ?_ (by first | (simp; done) | (simp; omega)) _ | refine Below.alloc ?_ (by first | (simp; done) | (simp; omega)) _)
  have hb1 : W.cell? ⟨w.heap.size, 0, none⟩ = some u1 := by rw [← hW]; simp [go_sem]
  have hb2 : W.cell? ⟨w.heap.size, 1, none⟩ = some u2 := by rw [← hW]; simp [go_sem]
  have hb3 : W.cell? ⟨w.heap.size + 1, 0, none⟩ = some u3 := by rw [← hW]; simp [go_sem]
  have hb4 : W.cell? ⟨w.heap.size + 1, 1, none⟩ = some u4 := by rw [← hW]; simp [go_sem]
  have hlw := SlI.len h3
  have hlq := SlO.len h4
  have HG := hide (l8Good_any W _ m s (hp0.below hB))
  have HA := hide fun W' (hb : Below w.heap.size w W') => l11Weights_any W' u3 ws 1 (SlI.below h3 hb)
  have HT := hide fun W' (hb : Below w.heap.size w W') u xs (hu : SlI w u xs) => l8Takes_any W' _ u m s 0 xs (hp0.below hb) (hu.below hb)
  obtain ⟨A1, c1, rfl, -, -, -⟩ := SlO.view h1
  obtain ⟨A2, c2, rfl, -, -, -⟩ := SlO.view h2
  obtain ⟨A3, c3, rfl, -, -, -⟩ := SlI.view h3
  obtain ⟨A4, c4, rfl, -, -, hcell⟩ := SlO.view h4
  have HW := hide hW
  have HCELL := hide hcell
  clear hp0 h1 h2 h3 h4 hW hcell
  cases q0 : probB m s
  · have Q0 := hide q0
    clear q0
    go_enter Try.func149, Try.ntmps149
    go_wp2_with fail
    rw [HW.out]
    refine HG.out.mono ?_
    rintro e w2 ⟨rfl, hb2'⟩
    rw [Q0.out]
    dsimp only
    go_wp2
    go_ret
    exact ⟨rfl, hB.trans (hb2'.mono hB.size)⟩
  have Q0 := hide q0
  cases q1 : rng qs.length 1 12
  · rw [chB_1 q1]
    have Q1 := hide q1
    clear q0 q1
    go_enter Try.func149, Try.ntmps149
    go_wp2_with fail
    rw [HW.out]
    refine HG.out.mono ?_
    rintro e w2 ⟨rfl, hb2'⟩
    rw [Q0.out]
    have d4 := cell_of_below hb2' hb4
    dsimp only
    go_wp2_with fail
    refine (l1In_any _ _ _ _).mono ?_
    rintro e w' ⟨rfl, rfl⟩
    rw [Q1.out]
    dsimp only
    go_wp2
    go_ret
    exact ⟨rfl, hB.trans (hb2'.mono hB.size)⟩
  have Q1 := hide q1
  have hn0 : 0 < qs.length := by have := rng_iff.1 q1; omega
  by_cases q2 : ws.length = qs.length
  rotate_left
  · have hb : ((ws.length : Int) != (qs.length : Int)) = true := by simp; omega
    rw [chB_2 q2]
    clear q0 q1 q2
    go_enter Try.func149, Try.ntmps149
    go_wp2_with fail
    rw [HW.out]
    refine HG.out.mono ?_
    rintro e w2 ⟨rfl, hb2'⟩
    rw [Q0.out]
    have d3 := cell_of_below hb2' hb3
    have d4 := cell_of_below hb2' hb4
    dsimp only
    go_wp2_with fail
    refine (l1In_any _ _ _ _).mono ?_
    rintro e w' ⟨rfl, rfl⟩
    rw [Q1.out]
    dsimp only
    go_wp2
    go_ret
    exact ⟨rfl, hB.trans (hb2'.mono hB.size)⟩
  have hb : ((ws.length : Int) != (qs.length : Int)) = false := by simp [q2]
  cases q3 : allIn 1 9 ws
  · rw [chB_3 q3]
    have Q3 := hide q3
    clear q0 q1 q2 q3
    go_enter Try.func149, Try.ntmps149
    go_wp2_with fail
    rw [HW.out]
    refine HG.out.mono ?_
    rintro e w2 ⟨rfl, hb2'⟩
    rw [Q0.out]
    have d3 := cell_of_below hb2' hb3
    have d4 := cell_of_below hb2' hb4
    have B2 := hB.trans (hb2'.mono hB.size)
    dsimp only
    go_wp2_with fail
    refine (l1In_any _ _ _ _).mono ?_
    rintro e w' ⟨rfl, rfl⟩
    rw [Q1.out]
    dsimp only
    go_wp2_with fail
    refine (HA.out w2 B2).mono ?_
    rintro e w3 ⟨rfl, n3, rfl⟩
    rw [Q3.out]
    dsimp only
    go_wp2
    go_ret
    exact ⟨rfl, below_drewN B2 _⟩
  have HP : Hid ((true && chB s.length ws qs) = qs.all (drawnB s.length (headLen qs))) := by show (true && chB s.length ws qs) = _; rw [chB_4 q1 q2 q3]; simp
  have Q3 := hide q3
  clear q1 q2 q3
  rw [HP.out]
  obtain ⟨ad, vr, rfl, hr1, hr2⟩ := HCELL.out 0 hn0
  have hl0 := SlI.len hr2
  obtain ⟨Ar, cr, rfl, -, -, -⟩ := SlI.view hr2
  have HH := hide (headLen_eq hn0)
  obtain ⟨n0, hn⟩ : ∃ n, (qs[0]).length = n := ⟨_, rfl⟩
  rw [hn] at hr1 hl0 HH
  have hr1' : W.cell? ad = some (.slice Ar n0 cr) := (hB.cell (block_lt hr1)).trans hr1
  clear hr1 hr2 hn
  go_enter Try.func149, Try.ntmps149
  go_wp2_with fail
  rw [HW.out]
  refine HG.out.mono ?_
  rintro e w2 ⟨rfl, hb2'⟩
  rw [Q0.out]
  have d1 := cell_of_below hb2' hb1
  have d2 := cell_of_below hb2' hb2
  have d3 := cell_of_below hb2' hb3
  have d4 := cell_of_below hb2' hb4
  have dr := cell_of_below hb2' hr1'
  have B2 := hB.trans (hb2'.mono hB.size)
  have HB2 := hide B2
  dsimp only
  go_wp2_with fail
  refine (l1In_any _ _ _ _).mono ?_
  rintro e w' ⟨rfl, rfl⟩
  rw [Q1.out]
  dsimp only
  go_wp2_with fail
  refine (HA.out w2 B2).mono ?_
  rintro e w3 ⟨rfl, n3, rfl⟩
  rw [Q3.out]
  dsimp only
  go_wp2
  clear hb2' hb1 hb2 hb3 hb4 hr1' B2
  go_loopw [5] (fun i wr => ∃ k : Nat, k ≤ qs.length ∧ i = .int .i64 k ∧ Hid (∀ x ∈ qs.take k, drawnB s.length n0 x = true) ∧ Below w2.heap.size w2 wr) (fun i _ => qs.length - (intOf i).toNat)
  case atStart => exact ⟨0, Nat.zero_le _, rfl, (fun x h => by simp at h), below_of_drewN _ _ _⟩
  case round =>
    obtain ⟨k, hk, rfl, hN, hbr⟩ := hrel
    obtain ⟨wo, rfl⟩ : ∃ wo, wo = wr := ⟨_, rfl⟩
    have e1 := cell_of_below hbr d1
    have e2 := cell_of_below hbr d2
    have e3 := cell_of_below hbr d3
    have e4 := cell_of_below hbr d4
    have er := cell_of_below hbr dr
    have HBO := hide (HB2.out.trans (hbr.mono HB2.out.size))
    have HBR := hide hbr
    clear hbr d1 d2 d3 d4 dr
    by_cases hlt : k < qs.length
    · obtain ⟨ad', vk, e, j1, j2⟩ := HCELL.out k hlt
      cases e
      have ek : wo.cell? (ad.add k) = some vk := (HBO.out.cell (block_lt j1)).trans j1
      have hlk := SlI.len j2
      have HTK := hide fun W' (hb : Below wo.heap.size wo W') => HT.out W' (HBO.out.trans (hb.mono HBO.out.size)) vk qs[k] j2
      obtain ⟨Ak, ck, rfl, -, -, -⟩ := SlI.view j2
      have f1 := cell_regrown e1
      have f2 := cell_regrown e2
      have f3 := cell_regrown e3
      have f4 := cell_regrown e4
      have fr := cell_regrown er
      have fk := cell_regrown ek
      clear j1 j2
      by_cases p1 : qs[k].length = n0
      rotate_left
      · have hbb : ((qs[k].length : Int) != (n0 : Int)) = true := by simp; omega
        have HF : Hid (qs.all (drawnB s.length (headLen qs)) = false) := by
          show _ = false
          rw [Bool.eq_false_iff]
          intro hh
          have := List.all_eq_true.1 hh _ (List.getElem_mem hlt)
          rw [HH.out] at this
          simp [drawnB, p1] at this
        clear p1
        go_wp2_with fail
        refine wp_region_quiet_below (by kernel_rfl) (by kernel_rfl) ?_
        repeat (go_big_quiet_step (fail))
        refine wpQuiet_nil ?_
        intro _ hw'
        obtain ⟨⟨dq, osq⟩, hw''⟩ := hw'
        subst hw''
        go_wp2
        go_ret
        exact ⟨by rw [HF.out]; rfl, HBO.out.trans ((below_regrown wo dq osq).mono HBO.out.size)⟩
      by_cases p2 : qs[k].length ≤ 6
      rotate_left
      · have hbb : ((qs[k].length : Int) != (n0 : Int)) = false := by simp [p1]
        have hg : decide ((qs[k].length : Int) > 6) = true := by simp; omega
        have HF : Hid (qs.all (drawnB s.length (headLen qs)) = false) := by
          show _ = false
          rw [Bool.eq_false_iff]
          intro hh
          have := List.all_eq_true.1 hh _ (List.getElem_mem hlt)
          simp [drawnB, p2] at this
        clear p1 p2
        go_wp2_with fail
        refine wp_region_quiet_below (by kernel_rfl) (by kernel_rfl) ?_
        repeat (go_big_quiet_step (fail))
        refine wpQuiet_nil ?_
        intro _ hw'
        obtain ⟨⟨dq, osq⟩, hw''⟩ := hw'
        subst hw''
        go_wp2
        go_ret
        exact ⟨by rw [HF.out]; rfl, HBO.out.trans ((below_regrown wo dq osq).mono HBO.out.size)⟩
      have hbb : ((qs[k].length : Int) != (n0 : Int)) = false := by simp [p1]
      have hg : decide ((qs[k].length : Int) > 6) = false := by simp; omega
      have HD := hide (drawnB_takes (s := s) n0 qs[k] q0 p1 p2)
      have cT := hide fun d os => Calls.regrown_of (w := wo) (d := d) (os := os) (HTK.out _ (below_regrown wo d os))
      cases hp : takesB m s 0 qs[k]
      · have HF : Hid (qs.all (drawnB s.length (headLen qs)) = false) := by
          show _ = false
          rw [Bool.eq_false_iff]
          intro hh
          have := List.all_eq_true.1 hh _ (List.getElem_mem hlt)
          rw [HH.out, HD.out, hp] at this
          cases this
        rw [hp] at cT
        clear p1 p2 hp
        go_wp2_with fail
        refine wp_region_quiet_below (by kernel_rfl) (by kernel_rfl) ?_
        repeat (go_big_quiet_step ((go_at_call 78; exact cT.out _ _)))
        refine wpQuiet_nil ?_
        intro _ hw'
        obtain ⟨⟨dq, osq⟩, hw''⟩ := hw'
        subst hw''
        go_wp2
        go_ret
        exact ⟨by rw [HF.out]; rfl, HBO.out.trans ((below_regrown wo dq osq).mono HBO.out.size)⟩
      · rw [hp] at cT
        have HP2 := hide (HD.out.trans hp)
        clear p1 p2 hp
        go_wp2_with fail
        refine wp_region_quiet_below (by kernel_rfl) (by kernel_rfl) ?_
        repeat (go_big_quiet_step ((go_at_call 78; exact cT.out _ _)))
        refine wpQuiet_nil ?_
        intro _ hw'
        obtain ⟨⟨dq, osq⟩, hw''⟩ := hw'
        subst hw''
        go_wp2
        go_roundw
        case rel =>
          refine ⟨k + 1, by omega, by go_num, ?_, HBR.out.trans ((below_regrown wo dq osq).mono HBR.out.size)⟩
          intro x hx
          rw [List.take_succ_eq_append_getElem hlt] at hx
          rcases List.mem_append.1 hx with hx | hx
          · exact hN.out x hx
          · simp at hx
            rw [hx]
            exact HP2.out
        case measure => simp [intOf]; omega
    · go_wp2
      go_ret
      obtain rfl : k = qs.length := by omega
      have h1 := hN.out
      rw [List.take_of_length_le (Nat.le_refl _)] at h1
      exact ⟨by rw [HH.out, List.all_eq_true.2 h1]; rfl, HBO.out⟩

end Go.Proofs.Ytoaecbdpkmeenaa
