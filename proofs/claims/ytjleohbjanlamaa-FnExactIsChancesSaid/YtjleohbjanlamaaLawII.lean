/- The law's helpers on slices of slices of ints, and on fractions. Conditions: none. -/
import Derived.Test.YtjleohbjanlamaaLawI
namespace Go.Proofs.Ytjleohbjanlamaa
open Go.RowKit

/-- what is left of a size, or -1 -/
def szR (l n : Int) : Int := if l < n then -1 else l - n
theorem szR_no {l n : Int} (h : l < n) : szR l n = -1 := if_pos h
theorem szR_yes {l n : Int} (h : n ≤ l) : szR l n = l - n := if_neg (by omega)
def lenSum (xss : List (List Int)) : Int := (xss.map fun xs => (xs.length : Int)).sum
def size2 (xss : List (List Int)) : Int := xss.length + lenSum xss
theorem lenSum_nonneg : ∀ xss : List (List Int), 0 ≤ lenSum xss
  | [] => by simp [lenSum]
  | xs :: xss => by
    have := lenSum_nonneg xss
    simp only [lenSum, List.map_cons, List.sum_cons] at *
    omega
theorem lenSum_succ (xss : List (List Int)) (k : Nat) (h : k < xss.length) : lenSum (xss.take (k + 1)) = lenSum (xss.take k) + xss[k].length := by
  unfold lenSum
  rw [List.take_succ_eq_append_getElem h, List.map_append, List.sum_append]
  simp
theorem lenSum_append (a b : List (List Int)) : lenSum (a ++ b) = lenSum a + lenSum b := by
  unfold lenSum
  rw [List.map_append, List.sum_append]
theorem lenSum_take_le (xss : List (List Int)) (k : Nat) : lenSum (xss.take k) ≤ lenSum xss := by
  conv => rhs; rw [← List.take_append_drop k xss, lenSum_append]
  have := lenSum_nonneg (xss.drop k)
  omega
theorem len_le_lenSum {xss : List (List Int)} {xs : List Int} (h : xs ∈ xss) : (xs.length : Int) ≤ lenSum xss := by
  induction xss with
  | nil => simp at h
  | cons ys xss ih =>
    have h1 := lenSum_nonneg xss
    simp only [lenSum, List.map_cons, List.sum_cons] at *
    rcases List.mem_cons.1 h with rfl | h
    · omega
    · have := ih h
      omega
theorem size2_fits {xss : List (List Int)} {l : Int} (h : size2 xss ≤ l) (hl : l ≤ 1048576) : xss.length ≤ 1048576 ∧ ∀ xs ∈ xss, xs.length ≤ 1048576 := by
  have h1 := lenSum_nonneg xss
  unfold size2 at h
  exact ⟨by omega, fun xs hx => by have := len_le_lenSum hx; omega⟩

theorem szI_any (w : World) (u : Value) (xs : List Int) (l : Int) (hx : SlI w u xs) (h0 : 0 ≤ l) (h1 : l ≤ 1048576) :
    Calls Try.prog 52 #[u, .int .i64 l] w fun e w' => e = .returned (.int .i64 (szR l xs.length)) ∧ w = w' := szIntS_any w u xs l hx h0 h1

set_option maxHeartbeats 1000000 in
theorem szIntSS_any (w : World) (u : Value) (xss : List (List Int)) (l : Int) (hx : SlII w u xss) (h0 : 0 ≤ l) (h1 : l ≤ 1048576) :
    Calls Try.prog 23 #[u, .int .i64 l] w fun e w' => e = .returned (.int .i64 (szR l (size2 xss))) ∧ Qt w w' := by
  have hlen := SlO.len hx
  obtain ⟨A, c, rfl, hc1, hc2, hcell⟩ := SlO.view hx
  have hn0 := lenSum_nonneg xss
  by_cases hs : l < xss.length
  · have HP : Hid (szR l (size2 xss) = -1) := szR_no (by unfold size2; omega)
    clear hx hcell hn0
    rw [HP.out]
    go_enter Try.func23, Try.ntmps23
    go_wp2
    go_ret
    exact ⟨rfl, Qt.refl _⟩
  · have HCELL := hide hcell
    have HN0 := hide hn0
    clear hx hcell hn0
    go_enter Try.func23, Try.ntmps23
    go_wp2
    go_loopw [1, 5] (fun t i wr => ∃ (k : Nat) (r : Int), k ≤ xss.length ∧ i = .int .i64 k ∧ t = .int .i64 r ∧ 0 ≤ r ∧ r ≤ 1048576 ∧ Hid (r = l - xss.length - lenSum (xss.take k)) ∧ Qt w wr) (fun _ i _ => xss.length - (intOf i).toNat)
    case atStart => exact ⟨0, l - xss.length, Nat.zero_le _, rfl, rfl, by omega, by omega, by show _ = _; simp [lenSum], Qt.refl _⟩
    case round =>
      obtain ⟨k, r, hk, rfl, rfl, hr0, hr1, hR, n, rfl⟩ := hrel
      by_cases hlt : k < xss.length
      · obtain ⟨ad, v, rfl, hcv, hv⟩ := HCELL.out k hlt
        have H3 := hide (lenSum_succ xss k hlt)
        have hv' : SlI (w.drewN n) v xss[k] := hv
        by_cases hq : r < (xss[k].length : Int)
        · have HE := hide (szR_no hq)
          have HP : Hid (szR l (size2 xss) = -1) := by
            refine szR_no ?_
            have h2 := lenSum_take_le xss (k + 1)
            rw [H3.out] at h2
            have := hR.out
            unfold size2
            omega
          clear hv hq
          go_wp2_with (go_at_call 52; refine (szI_any _ _ _ _ hv' hr0 hr1).mono ?_; rintro e w' ⟨rfl, rfl⟩; rw [HE.out]; dsimp only)
          go_ret
          exact ⟨by rw [HP.out]; rfl, by first | exact ⟨_, rfl⟩ | exact ⟨_, World.drewN_drewN _ _ _⟩⟩
        · have HE := hide (szR_yes (Int.not_lt.1 hq))
          have hq' : (xss[k].length : Int) ≤ r := by omega
          obtain ⟨m, hm⟩ : ∃ m, xss[k].length = m := ⟨_, rfl⟩
          rw [hm] at HE H3 hq'
          have HM := hide hm
          clear hv hq hm
          go_wp2_with (go_at_call 52; refine (szI_any _ _ _ _ hv' hr0 hr1).mono ?_; rintro e w' ⟨rfl, rfl⟩; rw [HM.out, HE.out]; dsimp only)
          go_roundw
          case rel => exact ⟨k + 1, r - m, by omega, by go_num, rfl, by omega, by omega, by show _ = _; rw [H3.out, hR.out]; omega, by first | exact ⟨_, rfl⟩ | exact ⟨_, World.drewN_drewN _ _ _⟩⟩
          case measure => simp [intOf]; omega
      · go_wp2
        go_ret
        obtain rfl : k = xss.length := by omega
        have h2 := hR.out
        rw [List.take_of_length_le (Nat.le_refl _)] at h2
        refine ⟨?_, by first | exact ⟨_, rfl⟩ | exact ⟨_, World.drewN_drewN _ _ _⟩⟩
        rw [szR_yes (by unfold size2; omega)]
        show Ending.returned (.int .i64 r) = _
        rw [h2]
        unfold size2
        congr 2
        omega

set_option maxHeartbeats 1000000 in
theorem eqIntSS_any (w : World) (u u' : Value) (xs ys : List (List Int)) (hx : SlII w u xs) (hy : SlII w u' ys) :
    Calls Try.prog 29 #[u, u'] w fun e w' => e = .returned (.bool (decide (xs = ys))) ∧ Qt w w' := by
  have hlx := SlO.len hx
  have hly := SlO.len hy
  obtain ⟨A, c, rfl, hc1, hc2, hcx⟩ := SlO.view hx
  obtain ⟨A', c', rfl, hd1, hd2, hcy⟩ := SlO.view hy
  clear hx hy
  by_cases hl : xs.length = ys.length
  · have hl' : ((xs.length : Int) != (ys.length : Int)) = false := by simp [hl]
    have HL := hide hl
    have HCX := hide hcx
    have HCY := hide hcy
    clear hl hcx hcy
    go_enter Try.func29, Try.ntmps29
    go_wp2
    go_loopw [5] (fun i wr => ∃ k : Nat, k ≤ xs.length ∧ i = .int .i64 k ∧ Qt w wr ∧ Hid (xs.take k = ys.take k)) (fun i _ => xs.length - (intOf i).toNat)
    case atStart => exact ⟨0, Nat.zero_le _, rfl, Qt.refl _, rfl⟩
    case round =>
      obtain ⟨k, hk, rfl, ⟨n, rfl⟩, hT⟩ := hrel
      by_cases hlt : k < xs.length
      · obtain ⟨ad, v, rfl, c1, hv⟩ := HCX.out k hlt
        have hk2 : k < ys.length := by rw [← HL.out]; omega
        obtain ⟨ad', v', rfl, c2, hv'⟩ := HCY.out k hk2
        have hi2 : (k : Int) < (ys.length : Int) := by omega
        have HE := hide fun m => eqIntS_any (w.drewN m) v v' xs[k] ys[k] hv hv'
        obtain ⟨A1, c1, rfl, _, _, _⟩ := SlI.view hv
        obtain ⟨A2, c2, rfl, _, _, _⟩ := SlI.view hv'
        cases hb : decide (xs[k] = ys[k])
        · have HB := hide hb
          have h2 : Hid (decide (xs = ys) = false) := by
            show decide (xs = ys) = false
            have h3 : xs[k] ≠ ys[k] := by simpa using hb
            simp only [decide_eq_false_iff_not]
            rintro rfl
            exact h3 rfl
          clear hb
          rw [HB.out] at HE
          go_wp2_with fail
          go_quiet ((go_at_call 30; first | exact quiet4 (HE.out _) | exact quiet5 (HE.out _)))
          go_wp2
          go_ret
          exact ⟨by rw [h2.out]; rfl, by first | exact ⟨_, rfl⟩ | exact ⟨_, World.drewN_drewN _ _ _⟩⟩
        · have HB := hide hb
          have h3 : Hid (xs[k] = ys[k]) := by show xs[k] = ys[k]; simpa using hb
          clear hb
          rw [HB.out] at HE
          go_wp2_with fail
          go_quiet ((go_at_call 30; first | exact quiet4 (HE.out _) | exact quiet5 (HE.out _)))
          go_wp2
          go_roundw
          case rel =>
            refine ⟨k + 1, by omega, by go_num, by first | exact ⟨_, rfl⟩ | exact ⟨_, World.drewN_drewN _ _ _⟩, ?_⟩
            show xs.take (k + 1) = ys.take (k + 1)
            rw [List.take_succ_eq_append_getElem hlt, List.take_succ_eq_append_getElem hk2, hT.out, h3.out]
          case measure => simp [intOf]; omega
      · go_wp2
        go_ret
        refine ⟨?_, by first | exact ⟨_, rfl⟩ | exact ⟨_, World.drewN_drewN _ _ _⟩⟩
        have h := hT.out
        rw [List.take_of_length_le (by omega), List.take_of_length_le (by rw [← HL.out]; omega)] at h
        simp [h]
  · have hl' : ((xs.length : Int) != (ys.length : Int)) = true := by simp; omega
    have h2 : xs ≠ ys := by rintro rfl; exact hl rfl
    have hP : decide (xs = ys) = false := by simp [h2]
    go_enter Try.func29, Try.ntmps29
    go_wp2
    go_ret
    exact ⟨by simp [hP], Qt.refl _⟩

theorem eqIntSS_same (w : World) (u u' : Value) (xs : List (List Int)) (hx : SlII w u xs) (hy : SlII w u' xs) :
    Calls Try.prog 29 #[u, u'] w fun e w' => e = .returned (.bool true) ∧ Qt w w' :=
  (eqIntSS_any w u u' xs xs hx hy).mono fun _ _ ⟨h, h'⟩ => ⟨by rw [h]; simp, h'⟩
theorem eqIntS_same (w : World) (u u' : Value) (xs : List Int) (hx : SlI w u xs) (hy : SlI w u' xs) :
    Calls Try.prog 30 #[u, u'] w fun e w' => e = .returned (.bool true) ∧ Qt w w' :=
  (eqIntS_any w u u' xs xs hx hy).mono fun _ _ ⟨h, h'⟩ => ⟨by rw [h]; simp, h'⟩
theorem eqFrac_same (w : World) (p q : Int) : Calls Try.prog 28 #[.agg #[.int .i64 p, .int .i64 q], .agg #[.int .i64 p, .int .i64 q]] w fun e w' => e = .returned (.bool true) ∧ Below w.heap.size w w' := by
  have h1 : (p != p) = false := by simp
  have h2 : (q != q) = false := by simp
  go_enter Try.func28, Try.ntmps28
  go_wp2
  all_goals first
    | (go_ret; exact ⟨rfl, by repeat (first | exact Below.refl _ _ | apply Below.drew | refine Below.setCell ?_ (by first | (simp; done) | (simp; omega)) _ | refine Below.alloc ?_ (by first | (simp; done) | (simp; omega)) _)⟩)
    | (go_quiet (fail); go_wp2; try go_quiet (fail); go_wp2; go_ret; exact ⟨rfl, by repeat (first | exact Below.refl _ _ | apply below_drewN | refine Below.alloc ?_ (by first | (simp; done) | (simp; omega)) _)⟩)
end Go.Proofs.Ytjleohbjanlamaa
