/- The least mean of a row: 'ColumnsWorst' of the program and of the reference give the same. Conditions: weights of at most 2^20. -/
import Derived.Test.YtjleohbjanlamaaRowsWorstV
import Derived.Test.YtjleohbjanlamaaTurned
namespace Go.Proofs.Ytjleohbjanlamaa
open Go.RowKit

def colProds (m : List (List Int)) (ws : List Int) : List Int := prods (List.replicate m.length 0) (colsOf (headLen m) m) ws
def leastL : List Int → Int
  | [] => 0
  | x :: xs => leastOf x xs
def columnsWorst (m : List (List Int)) (ws : List Int) : (Int × Int) × Bool :=
  if matB m && wtB (headLen m) ws then (mkFr (leastL (colProds m ws)) ws.sum, mkOk (leastL (colProds m ws)) ws.sum) else ((0, 0), false)

theorem cols_facts {m : List (List Int)} (h : matB m = true) : (colsOf (headLen m) m).length = headLen m ∧ ∀ r ∈ colsOf (headLen m) m, r.length = m.length ∧ ∀ x ∈ r, 0 ≤ x ∧ x ≤ 40 := by
  obtain ⟨h1, h2, h3, h4, h5⟩ := matB_facts h
  refine ⟨colsOf_len _ _, fun r hr => ?_⟩
  unfold colsOf at hr
  obtain ⟨j, hj, rfl⟩ := List.mem_map.1 hr
  have hj' : j < headLen m := by simpa using hj
  refine ⟨by simp [colOf], fun x hx => ?_⟩
  unfold colOf at hx
  obtain ⟨row, hrow, rfl⟩ := List.mem_map.1 hx
  obtain ⟨k1, k2⟩ := h5 row hrow
  rw [List.getD_eq_getElem?_getD, List.getElem?_eq_getElem (by omega)]
  exact k2 _ (List.getElem_mem _)
theorem matInC_of {m : List (List Int)} {ws : List Int} (h : matB m = true) (hw : wtB (headLen m) ws = true) : MatIn (colsOf (headLen m) m) ws m.length := by
  obtain ⟨h1, h2, h3, h4, h5⟩ := matB_facts h
  obtain ⟨c1, c2⟩ := cols_facts h
  obtain ⟨g1, g2, g3⟩ := wtB_iff.1 hw
  exact ⟨by omega, by omega, by omega, fun r hr => (c2 r hr).1, fun r hr => (c2 r hr).2, by omega, fun c hc => by have := g2 c hc; omega⟩
theorem colProds_facts {m : List (List Int)} {ws : List Int} (h : matB m = true) (hw : wtB (headLen m) ws = true) :
    (colProds m ws).length = m.length ∧ (∀ a ∈ colProds m ws, 0 ≤ a ∧ a ≤ 120000000000) := by
  have hm := matInC_of h hw
  refine ⟨by rw [colProds, prods_len _ _ _ (fun r hr => by rw [hm.row r hr]; simp)]; simp, fun a ha => ⟨?_, ?_⟩⟩
  · exact prods_nonneg _ _ _ (fun b hb => by rw [List.eq_of_mem_replicate hb]; omega) (fun r hr x hx => (hm.ent r hr x hx).1) (fun c hc => ((wtB_iff.1 hw).2.1 c hc).1) a ha
  · have hb := hm.bound (Nat.le_refl _) a (by
      have e : prodsTo (List.replicate m.length 0) (colsOf (headLen m) m) ws (colsOf (headLen m) m).length = colProds m ws := by
        unfold prodsTo colProds
        rw [List.take_of_length_le (Nat.le_refl _), List.take_of_length_le (by rw [hm.len]; exact Nat.le_refl _)]
      rw [e]; exact ha)
    exact hb.2


set_option maxHeartbeats 1000000 in
theorem colsI_no (w : World) (u v : Value) (m : List (List Int)) (ws : List Int) (hx : SlII w u m) (hy : SlI w v ws) (hl : ws.length ≤ 1048576) (h : (matB m && wtB (headLen m) ws) = false) :
    Calls Try.prog 32 #[u, v] w (FrRet w ((0, 0), false)) := by
  have B0 : Below w.heap.size w (w.alloc (.cells #[.int .i64 0, .int .i64 0] 49)) := by repeat (first | exact Below.refl _ _ | apply Below.drew | refine Below.setCell ?_ (by first | (simp; done) | (simp; omega)) _ | refine Below.alloc ?_ (by first | (simp; done) | (simp; omega)) _)
  have H1 := hide (isMatrix_any (w.alloc (.cells #[.int .i64 0, .int .i64 0] 49)) u m (SlII.below hx B0))
  have H2 := hide fun (hm : matB m = true) W (hb : Below w.heap.size w W) => turned_any W u m (headLen m) (SlII.below hx hb) (matB_facts hm).1 (by have := (matB_facts hm).2.1; omega) (by have := (matB_facts hm).2.2.2.1; omega) (fun r hr => ((matB_facts hm).2.2.2.2 r hr).1)
  have H3 := hide fun W (hb : Below w.heap.size w W) u' (hu : SlII W u' (colsOf (headLen m) m)) => isWeighted_any W u' v (colsOf (headLen m) m) ws hu (hy.below hb) hl
  have HL := hide (colsOf_len (headLen m) m)
  cases hm : matB m
  · have HM := hide hm
    clear hx hy h hm
    go_enter Try.func32, Try.ntmps32
    go_wp2_with ((with_reducible refine H1.out.mono ?_); rintro e w1 ⟨rfl, hb1⟩; rw [HM.out]; have hF := (FrBox.new w).next hb1; have hcs := hF.cells; clear hF; dsimp only)
    have r0 := stored2 (x := .int .i64 0) (y := .int .i64 0) hcs.1.1 hcs.1.2
    exact bodyPost_ret (v := .tuple #[.agg #[.int .i64 0, .int .i64 0], .bool false]) (by simp [results, Try.results32, go_sem, r0.1, r0.2]) rfl ⟨rfl, by repeat (first | exact below_trans B0 hb1 (by simp) | refine Below.setCell ?_ (by simp) _)⟩
  · have hw : wtB (headLen m) ws = false := by rw [hm] at h; simpa using h
    have HM := hide hm
    have HW := hide hw
    clear hx hy h hm hw
    go_enter Try.func32, Try.ntmps32
    go_wp2_with fail
    refine H1.out.mono ?_
    rintro e w1 ⟨rfl, hb1⟩
    rw [HM.out]
    have B1 := below_trans B0 hb1 (by simp)
    dsimp only
    go_wp2_with fail
    refine (H2.out HM.out w1 B1).mono ?_
    rintro e w2 ⟨u2, rfl, hO2, hb2⟩
    have B2 := below_trans B1 hb2 (Nat.le_refl _)
    dsimp only
    go_wp2_with fail
    refine (H3.out w2 B2 u2 (OwII.sl hO2)).mono ?_
    rintro e w3 ⟨rfl, hb3⟩
    rw [HL.out, HW.out]
    have hcs := ((((FrBox.new w).next hb1).next hb2).next hb3).cells
    dsimp only
    go_wp2
    have r0 := stored2 (x := .int .i64 0) (y := .int .i64 0) hcs.1.1 hcs.1.2
    exact bodyPost_ret (v := .tuple #[.agg #[.int .i64 0, .int .i64 0], .bool false]) (by simp [results, Try.results32, go_sem, r0.1, r0.2]) rfl ⟨rfl, by repeat (first | exact below_trans B2 hb3 (Nat.le_refl _) | refine Below.setCell ?_ (by simp) _)⟩

set_option maxHeartbeats 1000000 in
theorem colsS_no (w : World) (u v : Value) (m : List (List Int)) (ws : List Int) (hx : SlII w u m) (hy : SlI w v ws) (hl : ws.length ≤ 1048576) (h : (matB m && wtB (headLen m) ws) = false) :
    Calls Try.prog 31 #[u, v] w (FrRet w ((0, 0), false)) := by
  have B0 : Below w.heap.size w (w.alloc (.cells #[.int .i64 0, .int .i64 0] 49)) := by repeat (first | exact Below.refl _ _ | apply Below.drew | refine Below.setCell ?_ (by first | (simp; done) | (simp; omega)) _ | refine Below.alloc ?_ (by first | (simp; done) | (simp; omega)) _)
  have H1 := hide (l11Matrix_any (w.alloc (.cells #[.int .i64 0, .int .i64 0] 49)) u m (SlII.below hx B0))
  have hlm := SlO.len hx
  cases hm : matB m
  · have HM := hide hm
    obtain ⟨A, c, rfl, hc1, hc2, _⟩ := SlO.view hx
    clear hx hy h hm
    go_enter Try.func31, Try.ntmps31
    go_wp2_with ((with_reducible refine H1.out.mono ?_); rintro e w1 ⟨rfl, hq1⟩; rw [HM.out]; have hb1 := hq1.below (w.alloc (.cells #[.int .i64 0, .int .i64 0] 49)).heap.size; have hF := (FrBox.new w).next hb1; have hcs := hF.cells; clear hF hq1; dsimp only)
    have r0 := stored2 (x := .int .i64 0) (y := .int .i64 0) hcs.1.1 hcs.1.2
    exact bodyPost_ret (v := .tuple #[.agg #[.int .i64 0, .int .i64 0], .bool false]) (by simp [results, Try.results31, go_sem, r0.1, r0.2]) rfl ⟨rfl, by repeat (first | exact below_trans B0 hb1 (by simp) | refine Below.setCell ?_ (by simp) _)⟩
  · have hw : wtB (headLen m) ws = false := by rw [hm] at h; simpa using h
    have HM := hide hm
    have HW := hide hw
    have hfa := matB_facts hm
    have hn9 : headLen m ≤ 9223372036854775807 := by have := hfa.2.2.2.1; omega
    have H2 := hide fun W (hb : Below w.heap.size w W) => l11Mixed_any W u v m ws (SlII.below hx hb) (hy.below hb) hl (headLen m) hn9
    obtain ⟨A, c, rfl, hc1, hc2, hcell⟩ := SlO.view hx
    obtain ⟨ad, v0, rfl, hcv, hr0⟩ := hcell 0 hfa.1
    obtain ⟨A0, c0, rfl, k1, k2, k3⟩ := SlI.view hr0
    clear k1 k2 k3
    rw [(hfa.2.2.2.2 _ (List.getElem_mem hfa.1)).1] at hcv
    have hcv' : w.cell? ad = some (.slice A0 (headLen m) c0) := hcv
    have hm0 : (0 : Int) < (m.length : Int) := by have := hfa.1; omega
    clear hx hy h hm hw hfa hcell hcv hr0
    go_enter Try.func31, Try.ntmps31
    go_wp2_with fail
    refine H1.out.mono ?_
    rintro e w1 ⟨rfl, hq1⟩
    rw [HM.out]
    have hb1 := hq1.below (w.alloc (.cells #[.int .i64 0, .int .i64 0] 49)).heap.size
    have B1 := below_trans B0 hb1 (by simp)
    have hcv1 := (B1.cell (block_lt hcv')).trans hcv'
    clear hq1
    dsimp only
    go_wp2_with fail
    refine (H2.out w1 B1).mono ?_
    rintro e w2 ⟨rfl, hb2⟩
    rw [HW.out]
    have hcs := (((FrBox.new w).next hb1).next hb2).cells
    dsimp only
    go_wp2
    have r0 := stored2 (x := .int .i64 0) (y := .int .i64 0) hcs.1.1 hcs.1.2
    exact bodyPost_ret (v := .tuple #[.agg #[.int .i64 0, .int .i64 0], .bool false]) (by simp [results, Try.results31, go_sem, r0.1, r0.2]) rfl ⟨rfl, by repeat (first | exact below_trans B1 hb2 (Nat.le_refl _) | refine Below.setCell ?_ (by simp) _)⟩


set_option maxHeartbeats 1000000 in
theorem colsI_yes (w : World) (u v : Value) (m : List (List Int)) (ws : List Int) (hx : SlII w u m) (hy : SlI w v ws) (hl : ws.length ≤ 1048576) (hm : matB m = true) (hw : wtB (headLen m) ws = true) :
    Calls Try.prog 32 #[u, v] w (FrRet w (mkFr (leastL (colProds m ws)) ws.sum, mkOk (leastL (colProds m ws)) ws.sum)) := by
  have B0 : Below w.heap.size w (w.alloc (.cells #[.int .i64 0, .int .i64 0] 49)) := by repeat (first | exact Below.refl _ _ | apply Below.drew | refine Below.setCell ?_ (by first | (simp; done) | (simp; omega)) _ | refine Below.alloc ?_ (by first | (simp; done) | (simp; omega)) _)
  have hfa := matB_facts hm
  have HM := hide hm
  have HW := hide hw
  have H3 := hide fun W (hb : Below w.heap.size w W) => turned_any W u m (headLen m) (SlII.below hx hb) hfa.1 (by have := hfa.2.1; omega) (by have := hfa.2.2.2.1; omega) (fun r hr => (hfa.2.2.2.2 r hr).1)
  have H4 := hide fun W (hb : Below w.heap.size w W) u' (hu : SlII W u' (colsOf (headLen m) m)) => means_any W u' v (colsOf (headLen m) m) ws m.length (matInC_of hm hw) hu (hy.below hb)
  have H6 := hide fun W (hb : Below w.heap.size w W) => total_any W v ws (hy.below hb) (sumFits_wt (allIn_iff.2 (wtB_iff.1 hw).2.1) hl)
  have hp := colProds_facts hm hw
  have hs := sum_wt_le hw hfa.2.2.2.1
  obtain ⟨x, xs, hxs⟩ : ∃ x xs, colProds m ws = x :: xs := by
    have h1 := hfa.1
    cases hq : colProds m ws with
    | nil => rw [hq] at hp; simp at hp; omega
    | cons x xs => exact ⟨x, xs, rfl⟩
  have hg0 : leastL (colProds m ws) ≤ 120000000000 := by
    rw [hxs]
    exact Int.le_trans (leastOf_le xs x) (hp.2 x (by rw [hxs]; simp)).2
  have hg1 : 0 ≤ leastL (colProds m ws) := by
    rw [hxs]
    exact leastOf_ge xs x (hp.2 x (by rw [hxs]; simp)).1 fun y hy => (hp.2 y (by rw [hxs]; simp [hy])).1
  obtain ⟨G, hG⟩ : ∃ G, leastL (colProds m ws) = G := ⟨_, rfl⟩
  obtain ⟨s, hsum⟩ : ∃ s, ws.sum = s := ⟨_, rfl⟩
  have HGx : Hid (leastOf x xs = G) := by show leastOf x xs = G; rw [← hG, hxs]; rfl
  rw [hG] at hg0 hg1 ⊢
  rw [hsum] at hs ⊢
  obtain ⟨hs1, hs2⟩ := hs
  have HS := hide hsum
  have HXS := hide hxs
  obtain ⟨p, q, hpq⟩ : ∃ p q, mkFr G s = (p, q) := ⟨_, _, rfl⟩
  obtain ⟨ok, hok⟩ : ∃ ok, mkOk G s = ok := ⟨_, rfl⟩
  have H7 := hide fun W => makeFrac_any W G s (by omega) (by omega) (by omega) (by omega)
  have HPQ := hide hpq
  have HOK := hide hok
  rw [hpq, hok]
  have H1 := hide (isMatrix_any (w.alloc (.cells #[.int .i64 0, .int .i64 0] 49)) u m (SlII.below hx B0))
  have H2 := hide fun W (hb : Below w.heap.size w W) u' (hu : SlII W u' (colsOf (headLen m) m)) => isWeighted_any W u' v (colsOf (headLen m) m) ws hu (hy.below hb) hl
  have HL := hide (colsOf_len (headLen m) m)
  clear hx hy hp hm hw hG hsum hxs hpq hok hfa
  go_enter Try.func32, Try.ntmps32
  go_wp2_with fail
  refine H1.out.mono ?_
  rintro e w1 ⟨rfl, hb1⟩
  rw [HM.out]
  have B1 := below_trans B0 hb1 (by simp)
  dsimp only
  go_wp2_with fail
  refine (H3.out w1 B1).mono ?_
  rintro e w2 ⟨u2, rfl, hO2, hb2⟩
  have B2 := below_trans B1 hb2 (Nat.le_refl _)
  dsimp only
  go_wp2_with fail
  refine (H2.out w2 B2 u2 (OwII.sl hO2)).mono ?_
  rintro e w3 ⟨rfl, hb3⟩
  rw [HL.out, HW.out]
  have B3 := below_trans B2 hb3 (Nat.le_refl _)
  dsimp only
  go_wp2_with fail
  refine (H3.out w3 B3).mono ?_
  rintro e w4 ⟨u4, rfl, hO4, hb4⟩
  have B4 := below_trans B3 hb4 (Nat.le_refl _)
  dsimp only
  go_wp2_with fail
  refine (H4.out w4 B4 u4 (OwII.sl hO4)).mono ?_
  rintro e w5 ⟨v5, rfl, hO5, hb5⟩
  have B5 := below_trans B4 hb5 (Nat.le_refl _)
  have hsl : SlI w5 v5 (x :: xs) := by have h := hO5.sl; unfold colProds at HXS; rw [HXS.out] at h; exact h
  dsimp only
  go_wp2_with fail
  refine (sliceMin_any w5 v5 x xs hsl).mono ?_
  rintro e w6 ⟨rfl, n6, rfl⟩
  rw [HGx.out]
  dsimp only
  go_wp2_with fail
  refine (H6.out (w5.drewN n6) (below_drewN B5 n6)).mono ?_
  rintro e w7 ⟨rfl, n7, rfl⟩
  rw [HS.out]
  dsimp only
  go_wp2_with fail
  refine (H7.out _).mono ?_
  rintro e w8 ⟨rfl, hb8⟩
  rw [HPQ.out, HOK.out]
  have hcs := ((((((FrBox.new w).next hb1).next hb2 |>.next hb3).next hb4).next hb5).drewN (n6 + n7)).next hb8 |>.cells
  unfold frV
  dsimp only
  go_wp2
  have r0 := stored2 (x := .int .i64 p) (y := .int .i64 q) hcs.1.1 hcs.1.2
  exact bodyPost_ret (v := .tuple #[.agg #[.int .i64 p, .int .i64 q], .bool ok]) (by simp [results, Try.results32, go_sem, r0.1, r0.2]) rfl ⟨rfl, by repeat (first | exact below_trans (below_drewN B5 _) hb8 (Nat.le_refl _) | refine Below.setCell ?_ (by simp) _)⟩

set_option maxHeartbeats 1000000 in
theorem colsS_yes (w : World) (u v : Value) (m : List (List Int)) (ws : List Int) (hx : SlII w u m) (hy : SlI w v ws) (hl : ws.length ≤ 1048576) (hm : matB m = true) (hw : wtB (headLen m) ws = true) :
    Calls Try.prog 31 #[u, v] w (FrRet w (mkFr (leastL (colProds m ws)) ws.sum, mkOk (leastL (colProds m ws)) ws.sum)) := by
  have B0 : Below w.heap.size w (w.alloc (.cells #[.int .i64 0, .int .i64 0] 49)) := by repeat (first | exact Below.refl _ _ | apply Below.drew | refine Below.setCell ?_ (by first | (simp; done) | (simp; omega)) _ | refine Below.alloc ?_ (by first | (simp; done) | (simp; omega)) _)
  have hfa := matB_facts hm
  have HM := hide hm
  have HW := hide hw
  have H3 := hide fun W (hb : Below w.heap.size w W) => l11Turned_any W u m (headLen m) (SlII.below hx hb) hfa.1 (by have := hfa.2.1; omega) (by have := hfa.2.2.2.1; omega) (fun r hr => (hfa.2.2.2.2 r hr).1)
  have H4 := hide fun W (hb : Below w.heap.size w W) u' (hu : SlII W u' (colsOf (headLen m) m)) => l11Products_any W u' v (colsOf (headLen m) m) ws m.length (matInC_of hm hw) hu (hy.below hb)
  have H6 := hide fun W (hb : Below w.heap.size w W) => l11Sum_any W v ws (hy.below hb) (sumFits_wt (allIn_iff.2 (wtB_iff.1 hw).2.1) hl)
  have hp := colProds_facts hm hw
  have hs := sum_wt_le hw hfa.2.2.2.1
  obtain ⟨x, xs, hxs⟩ : ∃ x xs, colProds m ws = x :: xs := by
    have h1 := hfa.1
    cases hq : colProds m ws with
    | nil => rw [hq] at hp; simp at hp; omega
    | cons x xs => exact ⟨x, xs, rfl⟩
  have hg0 : leastL (colProds m ws) ≤ 120000000000 := by
    rw [hxs]
    exact Int.le_trans (leastOf_le xs x) (hp.2 x (by rw [hxs]; simp)).2
  have hg1 : 0 ≤ leastL (colProds m ws) := by
    rw [hxs]
    exact leastOf_ge xs x (hp.2 x (by rw [hxs]; simp)).1 fun y hy => (hp.2 y (by rw [hxs]; simp [hy])).1
  obtain ⟨G, hG⟩ : ∃ G, leastL (colProds m ws) = G := ⟨_, rfl⟩
  obtain ⟨s, hsum⟩ : ∃ s, ws.sum = s := ⟨_, rfl⟩
  have HGx : Hid (leastOf x xs = G) := by show leastOf x xs = G; rw [← hG, hxs]; rfl
  rw [hG] at hg0 hg1 ⊢
  rw [hsum] at hs ⊢
  obtain ⟨hs1, hs2⟩ := hs
  have HS := hide hsum
  have HXS := hide hxs
  obtain ⟨p, q, hpq⟩ : ∃ p q, mkFr G s = (p, q) := ⟨_, _, rfl⟩
  obtain ⟨ok, hok⟩ : ∃ ok, mkOk G s = ok := ⟨_, rfl⟩
  have H7 := hide fun W => l2Make_any W G s (by omega) (by omega) (by omega) (by omega)
  have HPQ := hide hpq
  have HOK := hide hok
  rw [hpq, hok]
  have H1 := hide (l11Matrix_any (w.alloc (.cells #[.int .i64 0, .int .i64 0] 49)) u m (SlII.below hx B0))
  have hn9 : headLen m ≤ 9223372036854775807 := by have := hfa.2.2.2.1; omega
  have H2 := hide fun W (hb : Below w.heap.size w W) => l11Mixed_any W u v m ws (SlII.below hx hb) (hy.below hb) hl (headLen m) hn9
  have hlm := SlO.len hx
  obtain ⟨A, c, rfl, hc1, hc2, hcell⟩ := SlO.view hx
  obtain ⟨ad, v0, rfl, hcv, hr0⟩ := hcell 0 hfa.1
  obtain ⟨A0, c0, rfl, k1, k2, k3⟩ := SlI.view hr0
  clear k1 k2 k3
  rw [(hfa.2.2.2.2 _ (List.getElem_mem hfa.1)).1] at hcv
  have hcv' : w.cell? ad = some (.slice A0 (headLen m) c0) := hcv
  have hm0 : (0 : Int) < (m.length : Int) := by have := hfa.1; omega
  clear hx hy hp hm hw hG hsum hxs hpq hok hcell hcv hr0 hfa
  go_enter Try.func31, Try.ntmps31
  go_wp2_with fail
  refine H1.out.mono ?_
  rintro e w1 ⟨rfl, hq1⟩
  rw [HM.out]
  have hb1 := hq1.below (w.alloc (.cells #[.int .i64 0, .int .i64 0] 49)).heap.size
  have B1 := below_trans B0 hb1 (by simp)
  have hcv1 := (B1.cell (block_lt hcv')).trans hcv'
  clear hq1
  dsimp only
  go_wp2_with fail
  refine (H2.out w1 B1).mono ?_
  rintro e w3 ⟨rfl, hb3⟩
  rw [HW.out]
  have B3 := below_trans B1 hb3 (Nat.le_refl _)
  dsimp only
  go_wp2_with fail
  refine (H3.out w3 B3).mono ?_
  rintro e w4 ⟨u4, rfl, hO4, hb4⟩
  have B4 := below_trans B3 hb4 (Nat.le_refl _)
  dsimp only
  go_wp2_with fail
  refine (H4.out w4 B4 u4 (OwII.sl hO4)).mono ?_
  rintro e w5 ⟨v5, rfl, hO5, hb5⟩
  have B5 := below_trans B4 hb5 (Nat.le_refl _)
  have hsl : SlI w5 v5 (x :: xs) := by have h := hO5.sl; unfold colProds at HXS; rw [HXS.out] at h; exact h
  dsimp only
  go_wp2_with fail
  refine (l7Least_any w5 v5 x xs hsl).mono ?_
  rintro e w6 ⟨rfl, n6, rfl⟩
  rw [HGx.out]
  dsimp only
  go_wp2_with fail
  refine (H6.out (w5.drewN n6) (below_drewN B5 n6)).mono ?_
  rintro e w7 ⟨rfl, n7, rfl⟩
  rw [HS.out]
  dsimp only
  go_wp2_with fail
  refine (H7.out _).mono ?_
  rintro e w8 ⟨rfl, hb8⟩
  rw [HPQ.out, HOK.out]
  have hcs := ((((((FrBox.new w).next hb1).next hb3).next hb4).next hb5).drewN (n6 + n7)).next hb8 |>.cells
  unfold frV
  dsimp only
  go_wp2
  have r0 := stored2 (x := .int .i64 p) (y := .int .i64 q) hcs.1.1 hcs.1.2
  exact bodyPost_ret (v := .tuple #[.agg #[.int .i64 p, .int .i64 q], .bool ok]) (by simp [results, Try.results31, go_sem, r0.1, r0.2]) rfl ⟨rfl, by repeat (first | exact below_trans (below_drewN B5 _) hb8 (Nat.le_refl _) | refine Below.setCell ?_ (by simp) _)⟩

theorem colsI_any (w : World) (u v : Value) (m : List (List Int)) (ws : List Int) (hx : SlII w u m) (hy : SlI w v ws) (hl : ws.length ≤ 1048576) :
    Calls Try.prog 32 #[u, v] w (FrRet w (columnsWorst m ws)) := by
  unfold columnsWorst
  cases h : (matB m && wtB (headLen m) ws)
  · exact colsI_no w u v m ws hx hy hl h
  · rw [Bool.and_eq_true] at h
    exact colsI_yes w u v m ws hx hy hl h.1 h.2
theorem colsS_any (w : World) (u v : Value) (m : List (List Int)) (ws : List Int) (hx : SlII w u m) (hy : SlI w v ws) (hl : ws.length ≤ 1048576) :
    Calls Try.prog 31 #[u, v] w (FrRet w (columnsWorst m ws)) := by
  unfold columnsWorst
  cases h : (matB m && wtB (headLen m) ws)
  · exact colsS_no w u v m ws hx hy hl h
  · rw [Bool.and_eq_true] at h
    exact colsS_yes w u v m ws hx hy hl h.1 h.2
end Go.Proofs.Ytjleohbjanlamaa
