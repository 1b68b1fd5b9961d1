/- A matrix turned, and least numbers, by the program's and the reference's functions. Conditions: rows of one length, at most 2^20 of them and in them. -/
import Derived.Test.YtjleohbjanlamaaSums
import Derived.Test.YtjleohbjanlamaaApp
import Derived.Test.YtjleohbjanlamaaTurnP
namespace Go.Proofs.Ytjleohbjanlamaa
open Go.RowKit

theorem l1Least_any (w : World) (a b : Int) : Calls Try.prog 91 #[.int .i64 a, .int .i64 b] w fun e w' => e = .returned (.int .i64 (min a b)) ∧ w = w' := by
  by_cases h : a < b
  · have e : min a b = a := Int.min_eq_left (by omega)
    rw [e]
    go_enter Try.func91, Try.ntmps91
    go_wp2
    go_ret
    exact ⟨rfl, rfl⟩
  · have e : min a b = b := Int.min_eq_right (by omega)
    rw [e]
    go_enter Try.func91, Try.ntmps91
    go_wp2
    go_ret
    exact ⟨rfl, rfl⟩
theorem sliceMin_any (w : World) (u : Value) (x : Int) (xs : List Int) (hx : SlI w u (x :: xs)) :
    Calls Try.prog 68 #[u] w fun e w' => e = .returned (.int .i64 (leastOf x xs)) ∧ Qt w w' := by
  have hlen := hx.len
  obtain ⟨A, c, rfl, hc1, hc2, hcell⟩ := hx.view
  obtain ⟨ad, rfl, hc0⟩ := hcell 0 (by simp)
  have hl : (1 : Int) ≤ ((x :: xs).length : Int) := by simp; omega
  have hl0 : (0 : Int) < ((x :: xs).length : Int) := by omega
  obtain ⟨n, hn⟩ : ∃ n, n = (x :: xs).length := ⟨_, rfl⟩
  have hl2 : n = xs.length + 1 := by rw [hn]; rfl
  rw [← hn] at hl hlen hc1 hl0
  have hc0' : w.cell? ad = some (.int .i64 x) := hc0
  have hcell' : ∀ k (h : k < xs.length), w.cell? (ad.add (k + 1)) = some (.int .i64 xs[k]) := fun k h => by
    obtain ⟨ad', e, hc⟩ := hcell (k + 1) (by simp; omega)
    cases e
    simpa using hc
  have HL := hide hl2
  rw [← hn]
  clear hc0 hcell hx hl2 hn
  go_enter Try.func68, Try.ntmps68
  go_wp2
  go_loopw [3, 4] (fun t i wr => ∃ k : Nat, k ≤ xs.length ∧ i = .int .i64 (k + 1 : Nat) ∧ t = .int .i64 (leastOf x (xs.take k)) ∧ Qt w wr) (fun _ i _ => n - (intOf i).toNat)
  case atStart => exact ⟨0, Nat.zero_le _, rfl, rfl, Qt.refl _⟩
  case round =>
    obtain ⟨k, hk, rfl, rfl, m, rfl⟩ := hrel
    have hnk := HL.out
    by_cases hlt : k < xs.length
    · have hc : w.cell? ⟨ad.block, ad.off + (k + 1), none⟩ = some (.int .i64 xs[k]) := by simpa [Addr.add] using hcell' k hlt
      have hlt2 : ((k + 1 : Nat) : Int) < n := by omega
      have H3 := hide (leastOf_take x xs k hlt)
      clear hcell' hnk
      go_wp2
      go_roundw
      case rel => exact ⟨k + 1, by omega, by go_num, by first | (rw [H3.out]; done) | (rw [H3.out]; congr 1; rw [Int.min_def]; split <;> split <;> omega), by first | exact ⟨_, rfl⟩ | exact ⟨_, World.drewN_drewN _ _ _⟩⟩
      case measure => simp [intOf]; omega
    · have hge : ¬ ((k + 1 : Nat) : Int) < n := by omega
      clear hnk
      go_wp2
      go_ret
      obtain rfl : k = xs.length := by omega
      exact ⟨by rw [List.take_of_length_le (Nat.le_refl _)]; rfl, by first | exact ⟨_, rfl⟩ | exact ⟨_, World.drewN_drewN _ _ _⟩⟩
theorem l7Least_any (w : World) (u : Value) (x : Int) (xs : List Int) (hx : SlI w u (x :: xs)) :
    Calls Try.prog 65 #[u] w fun e w' => e = .returned (.int .i64 (leastOf x xs)) ∧ Qt w w' := by
  have hlen := hx.len
  obtain ⟨A, c, rfl, hc1, hc2, hcell⟩ := hx.view
  obtain ⟨ad, rfl, hc0⟩ := hcell 0 (by simp)
  have hl : (1 : Int) ≤ ((x :: xs).length : Int) := by simp; omega
  have hl0 : (0 : Int) < ((x :: xs).length : Int) := by omega
  obtain ⟨n, hn⟩ : ∃ n, n = (x :: xs).length := ⟨_, rfl⟩
  have hl2 : n = xs.length + 1 := by rw [hn]; rfl
  rw [← hn] at hl hlen hc1 hl0
  have hc0' : w.cell? ad = some (.int .i64 x) := hc0
  have hcell' : ∀ k (h : k < xs.length), w.cell? (ad.add (k + 1)) = some (.int .i64 xs[k]) := fun k h => by
    obtain ⟨ad', e, hc⟩ := hcell (k + 1) (by simp; omega)
    cases e
    simpa using hc
  have HL := hide hl2
  rw [← hn]
  clear hc0 hcell hx hl2 hn
  go_enter Try.func65, Try.ntmps65
  go_wp2
  go_loopw [3, 4] (fun t i wr => ∃ k : Nat, k ≤ xs.length ∧ i = .int .i64 (k + 1 : Nat) ∧ t = .int .i64 (leastOf x (xs.take k)) ∧ Qt w wr) (fun _ i _ => n - (intOf i).toNat)
  case atStart => exact ⟨0, Nat.zero_le _, rfl, rfl, Qt.refl _⟩
  case round =>
    obtain ⟨k, hk, rfl, rfl, m, rfl⟩ := hrel
    have hnk := HL.out
    by_cases hlt : k < xs.length
    · have hc : w.cell? ⟨ad.block, ad.off + (k + 1), none⟩ = some (.int .i64 xs[k]) := by simpa [Addr.add] using hcell' k hlt
      have hlt2 : ((k + 1 : Nat) : Int) < n := by omega
      have H3 := hide (leastOf_take x xs k hlt)
      clear hcell' hnk
      go_wp2_with (go_at_call 91; refine (l1Least_any _ _ _).mono ?_; rintro e w' ⟨rfl, rfl⟩; dsimp only)
      go_roundw
      case rel => exact ⟨k + 1, by omega, by go_num, by first | (rw [H3.out]; done) | (rw [H3.out]; congr 1; rw [Int.min_def]; split <;> split <;> omega), by first | exact ⟨_, rfl⟩ | exact ⟨_, World.drewN_drewN _ _ _⟩⟩
      case measure => simp [intOf]; omega
    · have hge : ¬ ((k + 1 : Nat) : Int) < n := by omega
      clear hnk
      go_wp2
      go_ret
      obtain rfl : k = xs.length := by omega
      exact ⟨by rw [List.take_of_length_le (Nat.le_refl _)]; rfl, by first | exact ⟨_, rfl⟩ | exact ⟨_, World.drewN_drewN _ _ _⟩⟩

set_option maxRecDepth 100000 in
set_option maxHeartbeats 2000000 in
theorem turned_any (w : World) (u : Value) (m : List (List Int)) (n : Nat) (hx : SlII w u m) (hm0 : 0 < m.length) (hm1 : m.length ≤ 1048576) (hn1 : n ≤ 1048576) (hrow : ∀ r ∈ m, r.length = n) :
    Calls Try.prog 67 #[u] w (RetII w (colsOf n m)) := by
  obtain ⟨A, c, rfl, hc1, hc2, hcell⟩ := SlO.view hx
  obtain ⟨i0, hi, hz0, hz1, hz2⟩ := info_parts infoIntS
  obtain ⟨ad, v0, rfl, hcv0, hr0⟩ := hcell 0 hm0
  obtain ⟨A0, c0, rfl, _, _, _⟩ := SlI.view hr0
  have hl0 := hrow _ (List.getElem_mem hm0)
  rw [hl0] at hcv0
  have hcv : w.cell? ad = some (.slice A0 n c0) := hcv0
  have HR := hide (fun k (h : k < m.length) => hrow _ (List.getElem_mem h))
  have HCELL := hide hcell
  clear hx hr0 hl0 hcv0 hcell hrow
  go_enter Try.func67, Try.ntmps67
  go_wp2_with (at_make; refine wpList_make_full _ rfl _ _ 46 rfl 0 30 i0 (.slice none 0 0) 1 Try.underlying46 hi hz0 hz1 .i64 .i64 _ _ n rfl rfl (by simp) (by simp) (by rw [hz2]; omega) (by simp [maxLen]; omega) (Nat.zero_le _) ?_; intro w1 hown1 hgrow1)
  have hB1 : Below w.heap.size w w1 := (Below.refl _ _).grown hgrow1 (Nat.le_refl _) (by simp)
  have hs1 : w.heap.size < w1.heap.size := ownsRow_lt hown1 rfl
  have hO1 : OwII w1 w.heap.size (w.heap.size + 1) (.slice (some ⟨w.heap.size, 0, none⟩) n n) (colsOf n (m.take 0)) := by
    have e : colsOf n (m.take 0) = List.replicate n [] := by
      unfold colsOf
      rw [List.take_zero]
      exact List.eq_replicate_iff.2 ⟨by simp, fun b hb => by simp [colOf] at hb; exact hb.2.symm ▸ rfl⟩
    rw [e]
    exact OwO.made (by simpa [toList_madeCells_one, Value.cells] using hown1) RowI.nil_ ⟨Nat.le_refl _, Nat.lt_succ_self _⟩
  clear hown1 hgrow1
  go_loopw [15] (fun i wr => ∃ k : Nat, k ≤ m.length ∧ i = .int .i64 k ∧ OwII wr w.heap.size wr.heap.size (.slice (some ⟨w.heap.size, 0, none⟩) n n) (colsOf n (m.take k)) ∧ Below w.heap.size w wr) (fun i _ => m.length - (intOf i).toNat)
  case atStart => exact ⟨0, Nat.zero_le _, rfl, hO1.mono (Nat.le_refl _) hs1, hB1⟩
  case round =>
    obtain ⟨k, hk, rfl, hO, hB⟩ := hrel
    clear hs1 hO1 hB1
    by_cases hlt : k < m.length
    · obtain ⟨wo, rfl⟩ : ∃ wo : World, wo = wr := ⟨_, rfl⟩
      obtain ⟨ad1, rv, e1, hcr, hrr⟩ := HCELL.out k hlt
      cases e1
      obtain ⟨A1, c1, rfl, hrc1, hrc2, hrow⟩ := SlI.view hrr
      obtain ⟨row, hrw⟩ : ∃ row, m[k] = row := ⟨_, rfl⟩
      have hrl := HR.out k hlt
      have HT : Hid (m.take (k + 1) = m.take k ++ [row]) := by show m.take (k + 1) = _; rw [List.take_succ_eq_append_getElem hlt, hrw]
      have hlk : (m.take k).length ≤ 1048576 := by simp; omega
      obtain ⟨mk, hmk⟩ : ∃ mk, m.take k = mk := ⟨_, rfl⟩
      rw [hrw] at hcr hrc1 hrow hrl
      rw [hrl] at hcr hrc1
      rw [hmk] at hO HT hlk
      have HROW : Hid (∀ j (hj : j < row.length), ∃ ad, A1 = some ad ∧ w.cell? (ad.add j) = some (.int .i64 row[j])) := hrow
      have HRL := hide hrl
      have hcr' := (hB.cell (block_lt hcr)).trans hcr
      have hO' : OwII wo w.heap.size wo.heap.size (.slice (some ⟨w.heap.size, 0, none⟩) n n) (turnTo n mk row 0) := by rw [turnTo_zero]; exact hO
      clear hrr hrw hrl hrow hO hmk hcr
      go_wp2
      go_loopw [21] (fun i wr => ∃ j : Nat, j ≤ n ∧ i = .int .i64 j ∧ OwII wr w.heap.size wr.heap.size (.slice (some ⟨w.heap.size, 0, none⟩) n n) (turnTo n mk row j) ∧ Below w.heap.size w wr) (fun i _ => n - (intOf i).toNat)
      case atStart => exact ⟨0, Nat.zero_le _, rfl, hO', hB⟩
      case round =>
        obtain ⟨j, hj, rfl, hO2, hB2⟩ := hrel
        clear hO' hB hcr'
        by_cases hlj : j < n
        · have HTL := hide (turnTo_len n mk row j hj)
          have HSET := hide (turnTo_set n mk row j hlj)
          obtain ⟨adr, rfl, hx⟩ := HROW.out j (by rw [HRL.out]; exact hlj)
          have f5 := (hB2.cell (block_lt hx)).trans hx
          obtain ⟨x, hxx⟩ : ∃ x, row[j]'(by rw [HRL.out]; exact hlj) = x := ⟨_, rfl⟩
          have HX : Hid (row.getD j 0 = x) := by
            show row.getD j 0 = x
            rw [← hxx, List.getD_eq_getElem?_getD, List.getElem?_eq_getElem (by rw [HRL.out]; exact hlj)]
            rfl
          rw [hxx] at f5
          obtain ⟨v1, f1, hv1, hin⟩ := OwO.elem hO2 HTL.out.symm (j := j) (by rw [HTL.out]; exact hlj)
          rw [turnTo_at n mk row j hlj] at hv1
          have hlc : (colOf mk j).length ≤ 1048576 := by simpa [colOf] using hlk
          obtain ⟨A2, c2, rfl⟩ := hv1.shape
          have hA : Below wr.heap.size wr (wr.alloc (.cells #[.int .i64 x] 3)) := by repeat (first | exact Below.refl _ _ | apply Below.drew | refine Below.setCell ?_ (by first | (simp; done) | (simp; omega)) _ | refine Below.alloc ?_ (by first | (simp; done) | (simp; omega)) _)
          have hO3 := OwO.below oneI hO2 hA
          have hv2 := oneI.keep (w' := wr.alloc (.cells #[.int .i64 x] 3)) hv1 (fun g hg => Below.heap_alloc _ _ _ (oneI.lt hv1 hg))
          have f1a := (World.cell?_alloc_lt wr (.cells #[.int .i64 x] 3) _ (block_lt f1)).trans f1
          have HO3 := hide hO3
          have HV2 := hide hv2
          have HF1 := hide f1a
          have HSZ := hB2.size
          clear hxx hx hO2 hv1 hO3 hv2 f1a
          go_wp2_with (at_builtin; refine wpl_app (y := .int .i64 x) rfl _ _ 30 3 8 (.int .i64 0) rfl Try.underlying30 infoInt rfl (by omega) rfl rfl (by simp [go_sem]) rfl HV2.out (by omega) ?_; intro v2 w2 hr2 hg2 hat2; have hx2 := RowI.snoc hr2; obtain ⟨A3, c3, rfl⟩ := hx2.shape; have HP := hide (OwO.put oneI HO3.out HTL.out.symm (by rw [HTL.out]; exact hlj) HF1.out hg2 hx2 hat2 (by simp) HSZ); obtain ⟨old, hs⟩ := HP.out.2.1; have hf := HP.out.2.2; have HG := hide hg2; clear hr2 hat2 hg2)
          go_roundw
          case rel =>
            refine ⟨j + 1, by omega, by go_num, ?_, ?_⟩
            · rw [← HSET.out, HX.out]
              simpa using HP.out.1
            · refine Below.setCell (p := ⟨w.heap.size, j, none⟩) ?_ (Nat.le_refl _) _
              exact below_app (hB2.trans (hA.mono HSZ)) HG.out hin (Nat.le_refl _) (by simp; omega)
          case measure => simp [intOf]; omega
        · go_wp2
          go_roundw
          case rel =>
            refine ⟨k + 1, by omega, by go_num, ?_, hB2⟩
            obtain rfl : j = n := by omega
            rw [HT.out, ← turnTo_all]
            exact hO2
          case measure => simp [intOf]; omega
    · go_wp2
      go_ret
      obtain rfl : k = m.length := by omega
      rw [List.take_of_length_le (Nat.le_refl _)] at hO
      exact ⟨_, rfl, hO, hB⟩

set_option maxRecDepth 100000 in
set_option maxHeartbeats 2000000 in
theorem l11Turned_any (w : World) (u : Value) (m : List (List Int)) (n : Nat) (hx : SlII w u m) (hm0 : 0 < m.length) (hm1 : m.length ≤ 1048576) (hn1 : n ≤ 1048576) (hrow : ∀ r ∈ m, r.length = n) :
    Calls Try.prog 66 #[u] w (RetII w (colsOf n m)) := by
  obtain ⟨A, c, rfl, hc1, hc2, hcell⟩ := SlO.view hx
  obtain ⟨ad, v0, rfl, hcv0, hr0⟩ := hcell 0 hm0
  obtain ⟨A0, c0, rfl, _, _, _⟩ := SlI.view hr0
  have hl0 := hrow _ (List.getElem_mem hm0)
  rw [hl0] at hcv0
  have hcv : w.cell? ad = some (.slice A0 n c0) := hcv0
  have HR := hide (fun k (h : k < m.length) => hrow _ (List.getElem_mem h))
  have HCELL := hide hcell
  have hm0i : (0 : Int) < (m.length : Int) := by omega
  clear hx hr0 hl0 hcv0 hcell hrow
  go_enter Try.func66, Try.ntmps66
  go_wp2
  go_loopw [3, 4] (fun v i wr => ∃ k : Nat, k ≤ n ∧ i = .int .i64 k ∧ OwII wr w.heap.size wr.heap.size v ((colsOf n m).take k) ∧ Below w.heap.size w wr) (fun _ i _ => n - (intOf i).toNat)
  case atStart => exact ⟨0, Nat.zero_le _, rfl, by simpa using OwO.lit0 w, by repeat (first | exact Below.refl _ _ | apply Below.drew | refine Below.setCell ?_ (by first | (simp; done) | (simp; omega)) _ | refine Below.alloc ?_ (by first | (simp; done) | (simp; omega)) _)⟩
  case round =>
    obtain ⟨k, hk, rfl, hO, hB⟩ := hrel
    have hcv' := (hB.cell (block_lt hcv)).trans hcv
    by_cases hlt : k < n
    · obtain ⟨wo, rfl⟩ : ∃ wo : World, wo = wr := ⟨_, rfl⟩
      have HT := hide (colsOf_take n m k hlt)
      have hA : Below wo.heap.size wo (wo.alloc (.cells #[] 3)) := by repeat (first | exact Below.refl _ _ | apply Below.drew | refine Below.setCell ?_ (by first | (simp; done) | (simp; omega)) _ | refine Below.alloc ?_ (by first | (simp; done) | (simp; omega)) _)
      have HSZ := hide hB.size
      obtain ⟨xs, hxs⟩ : ∃ xs, (colsOf n m).take k = xs := ⟨_, rfl⟩
      have hxl : xs.length ≤ 1048576 := by rw [← hxs]; simp [colsOf_len]; omega
      rw [hxs] at hO HT
      obtain ⟨A5, c5, e5⟩ := OwO.shape hO
      subst e5
      have HO := hide hO
      clear hO hxs
      go_wp2
      go_loopw [5, 6] (fun v i wr => ∃ q : Nat, q ≤ m.length ∧ i = .int .i64 q ∧ OwI wr wo.heap.size wr.heap.size v (colOf (m.take q) k) ∧ Below (wo.heap.size) (wo) wr) (fun _ i _ => m.length - (intOf i).toNat)
      case atStart => exact ⟨0, Nat.zero_le _, rfl, by simpa [colOf] using OwI.lit0 wo, hA⟩
      case round =>
        obtain ⟨q, hq, rfl, hI, hB2⟩ := hrel
        clear hcv'
        by_cases hlq : q < m.length
        · obtain ⟨ad1, rv, e1, hcr, hrr⟩ := HCELL.out q hlq
          cases e1
          obtain ⟨A1, c1, rfl, hrc1, hrc2, hrow⟩ := SlI.view hrr
          obtain ⟨row, hrw⟩ : ∃ row, m[q] = row := ⟨_, rfl⟩
          have hrl := HR.out q hlq
          have HTQ : Hid (m.take (q + 1) = m.take q ++ [row]) := by show m.take (q + 1) = _; rw [List.take_succ_eq_append_getElem hlq, hrw]
          rw [hrw] at hcr hrc1 hrow hrl
          rw [hrl] at hcr hrc1
          obtain ⟨adr, rfl, hx⟩ := hrow k (by rw [hrl]; exact hlt)
          obtain ⟨x, hxx⟩ : ∃ x, row[k]'(by rw [hrl]; exact hlt) = x := ⟨_, rfl⟩
          have HX : Hid (row.getD k 0 = x) := by
            show row.getD k 0 = x
            rw [← hxx, List.getD_eq_getElem?_getD, List.getElem?_eq_getElem (by rw [hrl]; exact hlt)]
            rfl
          rw [hxx] at hx
          have HB3 := hB.trans (hB2.mono hB.size)
          have hcr' := (HB3.cell (block_lt hcr)).trans hcr
          have hx' := (HB3.cell (block_lt hx)).trans hx
          have hki : (k : Int) < (n : Int) := by omega
          obtain ⟨A2, c2, rfl⟩ := hI.1.shape
          have hlc : (colOf (m.take q) k).length ≤ 1048576 := by simp [colOf]; omega
          have hA2 : Below wr.heap.size wr (wr.alloc (.cells #[.int .i64 x] 3)) := by repeat (first | exact Below.refl _ _ | apply Below.drew | refine Below.setCell ?_ (by first | (simp; done) | (simp; omega)) _ | refine Below.alloc ?_ (by first | (simp; done) | (simp; omega)) _)
          have HI := hide (hI.below hA2)
          have HSZ2 := hide hB2.size
          have HBB := hide hB2
          have HA2 := hide hA2
          clear hxx hx hrr hrw hrl hrow hI hcr HB3 hB2 hA2
          go_wp2_with (at_builtin; refine wpl_app (y := .int .i64 x) rfl _ _ 30 3 8 (.int .i64 0) rfl Try.underlying30 infoInt rfl (by omega) rfl rfl (by simp [go_sem]) rfl HI.out.1 (by omega) ?_; intro v2 w2 hr2 hg2 hat2; have HP := hide (HI.out.app (RowI.snoc hr2) hat2 HSZ2.out (by simp)); have HG := hide hg2; clear hr2 hat2 hg2)
          go_roundw
          case rel =>
            refine ⟨q + 1, by omega, by go_num, ?_, ?_⟩
            · rw [HTQ.out, colOf_snoc, HX.out]
              exact HP.out
            · exact below_app (HBB.out.trans (HA2.out.mono HSZ2.out)) HG.out HI.out.2 (Nat.le_refl _) (by have := HSZ2.out; simp; omega)
          case measure => simp [intOf]; omega
        · obtain rfl : q = m.length := by omega
          rw [List.take_of_length_le (Nat.le_refl _)] at hI
          obtain ⟨A2, c2, rfl⟩ := hI.1.shape
          have hO2 := OwO.keep (w' := wr) oneI HO.out fun g _ h2 _ => hB2.block g h2
          have hA3 : Below wr.heap.size wr (wr.alloc (.cells #[.slice A2 (colOf m k).length c2] 30)) := by repeat (first | exact Below.refl _ _ | apply Below.drew | refine Below.setCell ?_ (by first | (simp; done) | (simp; omega)) _ | refine Below.alloc ?_ (by first | (simp; done) | (simp; omega)) _)
          obtain ⟨us, hus⟩ := OwO.parts (OwO.below oneI hO2 hA3)
          have hI3 := hI.below hA3
          have hxl2 : xs.length ≤ 1073741824 := by omega
          have HUS := hide hus
          have HI := hide hI3
          have HB3 := hide (hB.trans (hB2.mono hB.size))
          have HA3 := hide hA3
          have HSZ2 := hide hB2.size
          clear hO2 hus hI hI3 hA3 hB2 hB hxl
          go_wp2_with (at_builtin; refine wpl_app (y := .slice A2 (colOf m k).length c2) rfl _ _ 46 30 24 (.slice none 0 0) rfl Try.underlying46 infoIntS rfl (by omega) rfl rfl (by simp [go_sem]) rfl HUS.out.own (by omega) ?_; intro v2 w2 hr2 hg2 hat2; have HP := hide (OwOAt.grow oneI HUS.out HI.out.1 HI.out.2 hg2 hr2 hat2 HSZ.out HSZ2.out (by simp)); have HG := hide hg2; clear hr2 hat2 hg2)
          go_roundw
          case rel =>
            refine ⟨k + 1, by omega, by go_num, ?_, ?_⟩
            · rw [HT.out]
              exact HP.out
            · exact below_app (hi := wo.heap.size) (HB3.out.trans (HA3.out.mono (Nat.le_trans HSZ.out HSZ2.out))) HG.out (HUS.out.2.2.2.2 (.slice A5 xs.length c5) (List.mem_cons_self ..)) (Nat.le_refl _) (by have := HSZ2.out; have := HSZ.out; simp; omega)
          case measure => simp [intOf]; omega
    · go_wp2
      go_ret
      obtain rfl : k = n := by omega
      rw [List.take_of_length_le (by rw [colsOf_len]; exact Nat.le_refl _)] at hO
      exact ⟨_, rfl, hO, hB⟩
end Go.Proofs.Ytjleohbjanlamaa
