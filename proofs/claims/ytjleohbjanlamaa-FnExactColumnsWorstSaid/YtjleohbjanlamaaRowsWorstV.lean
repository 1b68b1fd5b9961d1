/- The greatest mean of a column: 'RowsWorst' of the program and of the reference give the same. Conditions: weights of at most 2^20. -/
import Derived.Test.YtjleohbjanlamaaRowsWorstW
namespace Go.Proofs.Ytjleohbjanlamaa
open Go.RowKit

/-- a result that is a fraction and a bool -/
def FrRet (w : World) (x : (Int × Int) × Bool) (e : Ending) (w' : World) : Prop := e = .returned (.tuple #[frV x.1, .bool x.2]) ∧ Below w.heap.size w w'
def prodsOf (m : List (List Int)) (ws : List Int) : List Int := prods (List.replicate (headLen m) 0) m ws
def rowsWorst (m : List (List Int)) (ws : List Int) : (Int × Int) × Bool :=
  if matB m && wtB m.length ws then (mkFr (greatest 0 (prodsOf m ws)) ws.sum, mkOk (greatest 0 (prodsOf m ws)) ws.sum) else ((0, 0), false)

theorem matB_facts {m : List (List Int)} (h : matB m = true) : 0 < m.length ∧ m.length ≤ 3 ∧ 1 ≤ headLen m ∧ headLen m ≤ 3 ∧ ∀ r ∈ m, r.length = headLen m ∧ ∀ x ∈ r, 0 ≤ x ∧ x ≤ 40 := by
  unfold matB at h
  rw [Bool.and_eq_true, rng_iff, List.all_eq_true] at h
  obtain ⟨⟨h1, h2⟩, h3⟩ := h
  have hr : ∀ r ∈ m, r.length = headLen m ∧ (1 ≤ r.length ∧ r.length ≤ 3) ∧ ∀ x ∈ r, 0 ≤ x ∧ x ≤ 40 := fun r hr => by
    have := h3 r hr
    simp only [rowB, areInB, Bool.and_eq_true, beq_iff_eq, rng_iff, allIn_iff] at this
    exact ⟨this.1, by omega, this.2.2⟩
  have hh : 1 ≤ headLen m ∧ headLen m ≤ 3 := by
    cases m with
    | nil => simp at h1
    | cons r m =>
      have := (hr r (by simp)).2.1
      exact this
  exact ⟨by omega, by omega, hh.1, hh.2, fun r h => ⟨(hr r h).1, (hr r h).2.2⟩⟩
theorem matIn_of {m : List (List Int)} {ws : List Int} (h : matB m = true) (hw : wtB m.length ws = true) : MatIn m ws (headLen m) := by
  obtain ⟨h1, h2, h3, h4, h5⟩ := matB_facts h
  obtain ⟨g1, g2, g3⟩ := wtB_iff.1 hw
  exact ⟨h1, h2, by omega, fun r hr => (h5 r hr).1, fun r hr => (h5 r hr).2, g1, fun c hc => by have := g2 c hc; omega⟩
theorem prods_nonneg : ∀ (z : List Int) (m : List (List Int)) (ws : List Int), (∀ a ∈ z, 0 ≤ a) → (∀ r ∈ m, ∀ x ∈ r, 0 ≤ x) → (∀ c ∈ ws, 0 ≤ c) → ∀ a ∈ prods z m ws, 0 ≤ a
  | z, [], ws, hz, _, _ => by simpa [prods] using hz
  | z, row :: m, [], hz, _, _ => by simpa [prods] using hz
  | z, row :: m, c :: ws, hz, hm, hw => by
    rw [prods]
    refine prods_nonneg _ m ws (fun a ha => ?_) (fun r hr => hm r (by simp [hr])) (fun d hd => hw d (by simp [hd]))
    unfold addRow at ha
    rw [List.mem_iff_getElem] at ha
    obtain ⟨i, hi, rfl⟩ := ha
    rw [List.getElem_zipWith]
    have h1 := hz _ (List.getElem_mem (show i < z.length by simp at hi; omega))
    have h2 := hm row (by simp) _ (List.getElem_mem (show i < row.length by simp at hi; omega))
    have h3 := Int.mul_nonneg (hw c (by simp)) h2
    omega
theorem greatest_bound {B : Int} : ∀ (xs : List Int) (a : Int), a ≤ B → (∀ x ∈ xs, x ≤ B) → greatest a xs ≤ B
  | [], a, h, _ => h
  | x :: xs, a, h, hx => greatest_bound xs (max a x) (Int.max_le.2 ⟨h, hx x (by simp)⟩) fun y hy => hx y (by simp [hy])
theorem sum_wt_le {ws : List Int} {n : Nat} (h : wtB n ws = true) (hn : n ≤ 3) : 1 ≤ ws.sum ∧ ws.sum ≤ 27 := by
  obtain ⟨g1, g2, g3⟩ := wtB_iff.1 h
  have := (sum_bounds g2).2
  omega
theorem prodsOf_facts {m : List (List Int)} {ws : List Int} (h : matB m = true) (hw : wtB m.length ws = true) :
    (prodsOf m ws).length = headLen m ∧ (∀ a ∈ prodsOf m ws, 0 ≤ a ∧ a ≤ 120000000000) := by
  have hm := matIn_of h hw
  refine ⟨by rw [prodsOf, prods_len _ _ _ (fun r hr => by rw [hm.row r hr]; simp)]; simp, fun a ha => ⟨?_, ?_⟩⟩
  · exact prods_nonneg _ _ _ (fun b hb => by rw [List.eq_of_mem_replicate hb]; omega) (fun r hr x hx => (hm.ent r hr x hx).1) (fun c hc => ((wtB_iff.1 hw).2.1 c hc).1) a ha
  · have hb := hm.bound (Nat.le_refl m.length) a (by
      have e : prodsTo (List.replicate (headLen m) 0) m ws m.length = prodsOf m ws := by
        unfold prodsTo prodsOf
        rw [List.take_of_length_le (Nat.le_refl _), List.take_of_length_le (by rw [hm.len]; exact Nat.le_refl _)]
      rw [e]; exact ha)
    exact hb.2

set_option maxHeartbeats 1000000 in
theorem rowsI_no (w : World) (u v : Value) (m : List (List Int)) (ws : List Int) (hx : SlII w u m) (hy : SlI w v ws) (hl : ws.length ≤ 1048576) (h : (matB m && wtB m.length ws) = false) :
    Calls Try.prog 27 #[u, v] w (FrRet w ((0, 0), false)) := by
  have B0 : Below w.heap.size w (w.alloc (.cells #[.int .i64 0, .int .i64 0] 49)) := by repeat (first | exact Below.refl _ _ | apply Below.drew | refine Below.setCell ?_ (by first | (simp; done) | (simp; omega)) _ | refine Below.alloc ?_ (by first | (simp; done) | (simp; omega)) _)
  have H1 := hide (isMatrix_any (w.alloc (.cells #[.int .i64 0, .int .i64 0] 49)) u m (SlII.below hx B0))
  have H2 := hide fun W (hb : Below w.heap.size w W) => isWeighted_any W u v m ws (SlII.below hx hb) (hy.below hb) hl 
  have hlm := SlO.len hx
  obtain ⟨A, c, rfl, hc1, hc2, _⟩ := SlO.view hx
  cases hm : matB m
  · have HM := hide hm
    clear hx hy h hm
    go_enter Try.func27, Try.ntmps27
    go_wp2_with ((with_reducible refine H1.out.mono ?_); rintro e w1 ⟨rfl, hb1⟩; rw [HM.out]; have hb1 := hb1; have hF := (FrBox.new w).next hb1; have hcs := hF.cells; clear hF; dsimp only)
    have r0 := stored2 (x := .int .i64 0) (y := .int .i64 0) hcs.1.1 hcs.1.2
    exact bodyPost_ret (v := .tuple #[.agg #[.int .i64 0, .int .i64 0], .bool false]) (by simp [results, Try.results27, go_sem, r0.1, r0.2]) rfl ⟨rfl, by repeat (first | exact below_trans B0 hb1 (by simp) | refine Below.setCell ?_ (by simp) _)⟩
  · have hw : wtB m.length ws = false := by rw [hm] at h; simpa using h
    have HM := hide hm
    have HW := hide hw
    clear hx hy h hm hw
    go_enter Try.func27, Try.ntmps27
    go_wp2_with fail
    refine H1.out.mono ?_
    rintro e w1 ⟨rfl, hb1⟩
    rw [HM.out]
    have hb1 := hb1
    dsimp only
    go_wp2_with fail
    refine (H2.out w1 (below_trans B0 hb1 (by simp))).mono ?_
    rintro e w2 ⟨rfl, hb2⟩
    rw [HW.out]
    have hcs := (((FrBox.new w).next hb1).next hb2).cells
    dsimp only
    go_wp2
    have r0 := stored2 (x := .int .i64 0) (y := .int .i64 0) hcs.1.1 hcs.1.2
    exact bodyPost_ret (v := .tuple #[.agg #[.int .i64 0, .int .i64 0], .bool false]) (by simp [results, Try.results27, go_sem, r0.1, r0.2]) rfl ⟨rfl, by repeat (first | exact below_trans (below_trans B0 hb1 (by simp)) hb2 (Nat.le_refl _) | refine Below.setCell ?_ (by simp) _)⟩
set_option maxHeartbeats 1000000 in
theorem rowsS_no (w : World) (u v : Value) (m : List (List Int)) (ws : List Int) (hx : SlII w u m) (hy : SlI w v ws) (hl : ws.length ≤ 1048576) (h : (matB m && wtB m.length ws) = false) :
    Calls Try.prog 24 #[u, v] w (FrRet w ((0, 0), false)) := by
  have B0 : Below w.heap.size w (w.alloc (.cells #[.int .i64 0, .int .i64 0] 49)) := by repeat (first | exact Below.refl _ _ | apply Below.drew | refine Below.setCell ?_ (by first | (simp; done) | (simp; omega)) _ | refine Below.alloc ?_ (by first | (simp; done) | (simp; omega)) _)
  have H1 := hide (l11Matrix_any (w.alloc (.cells #[.int .i64 0, .int .i64 0] 49)) u m (SlII.below hx B0))
  have H2 := hide fun W (hb : Below w.heap.size w W) => l11Mixed_any W u v m ws (SlII.below hx hb) (hy.below hb) hl m.length (SlO.len hx)
  have hlm := SlO.len hx
  obtain ⟨A, c, rfl, hc1, hc2, _⟩ := SlO.view hx
  cases hm : matB m
  · have HM := hide hm
    clear hx hy h hm
    go_enter Try.func24, Try.ntmps24
    go_wp2_with ((with_reducible refine H1.out.mono ?_); rintro e w1 ⟨rfl, hb1⟩; rw [HM.out]; have hb1 := (hb1.below (w.alloc (.cells #[.int .i64 0, .int .i64 0] 49)).heap.size); have hF := (FrBox.new w).next hb1; have hcs := hF.cells; clear hF; dsimp only)
    have r0 := stored2 (x := .int .i64 0) (y := .int .i64 0) hcs.1.1 hcs.1.2
    exact bodyPost_ret (v := .tuple #[.agg #[.int .i64 0, .int .i64 0], .bool false]) (by simp [results, Try.results24, go_sem, r0.1, r0.2]) rfl ⟨rfl, by repeat (first | exact below_trans B0 hb1 (by simp) | refine Below.setCell ?_ (by simp) _)⟩
  · have hw : wtB m.length ws = false := by rw [hm] at h; simpa using h
    have HM := hide hm
    have HW := hide hw
    clear hx hy h hm hw
    go_enter Try.func24, Try.ntmps24
    go_wp2_with fail
    refine H1.out.mono ?_
    rintro e w1 ⟨rfl, hb1⟩
    rw [HM.out]
    have hb1 := (hb1.below (w.alloc (.cells #[.int .i64 0, .int .i64 0] 49)).heap.size)
    dsimp only
    go_wp2_with fail
    refine (H2.out w1 (below_trans B0 hb1 (by simp))).mono ?_
    rintro e w2 ⟨rfl, hb2⟩
    rw [HW.out]
    have hcs := (((FrBox.new w).next hb1).next hb2).cells
    dsimp only
    go_wp2
    have r0 := stored2 (x := .int .i64 0) (y := .int .i64 0) hcs.1.1 hcs.1.2
    exact bodyPost_ret (v := .tuple #[.agg #[.int .i64 0, .int .i64 0], .bool false]) (by simp [results, Try.results24, go_sem, r0.1, r0.2]) rfl ⟨rfl, by repeat (first | exact below_trans (below_trans B0 hb1 (by simp)) hb2 (Nat.le_refl _) | refine Below.setCell ?_ (by simp) _)⟩

set_option maxHeartbeats 1000000 in
theorem rowsI_yes (w : World) (u v : Value) (m : List (List Int)) (ws : List Int) (hx : SlII w u m) (hy : SlI w v ws) (hl : ws.length ≤ 1048576) (hm : matB m = true) (hw : wtB m.length ws = true) :
    Calls Try.prog 27 #[u, v] w (FrRet w (mkFr (greatest 0 (prodsOf m ws)) ws.sum, mkOk (greatest 0 (prodsOf m ws)) ws.sum)) := by
  have B0 : Below w.heap.size w (w.alloc (.cells #[.int .i64 0, .int .i64 0] 49)) := by repeat (first | exact Below.refl _ _ | apply Below.drew | refine Below.setCell ?_ (by first | (simp; done) | (simp; omega)) _ | refine Below.alloc ?_ (by first | (simp; done) | (simp; omega)) _)
  have H1 := hide (isMatrix_any (w.alloc (.cells #[.int .i64 0, .int .i64 0] 49)) u m (SlII.below hx B0))
  have H2 := hide fun W (hb : Below w.heap.size w W) => isWeighted_any W u v m ws (SlII.below hx hb) (hy.below hb) hl 
  have H3 := hide fun W (hb : Below w.heap.size w W) => means_any W u v m ws (headLen m) (matIn_of hm hw) (SlII.below hx hb) (hy.below hb)
  have H5 := hide fun W (hb : Below w.heap.size w W) => total_any W v ws (hy.below hb) (sumFits_wt (allIn_iff.2 (wtB_iff.1 hw).2.1) hl)
  have hp := prodsOf_facts hm hw
  have hs := sum_wt_le hw (matB_facts hm).2.1
  have hg0 := greatest_mono (prodsOf m ws) 0
  have hg1 := greatest_bound (B := 120000000000) (prodsOf m ws) 0 (by omega) fun x hx => (hp.2 x hx).2
  obtain ⟨x, xs, hxs⟩ : ∃ x xs, prodsOf m ws = x :: xs := by
    have h1 := (matB_facts hm).2.2.1
    cases hq : prodsOf m ws with
    | nil => rw [hq] at hp; simp at hp; omega
    | cons x xs => exact ⟨x, xs, rfl⟩
  have hx0 : 0 ≤ x := (hp.2 x (by rw [hxs]; simp)).1
  obtain ⟨G, hG⟩ : ∃ G, greatest 0 (prodsOf m ws) = G := ⟨_, rfl⟩
  obtain ⟨s, hsum⟩ : ∃ s, ws.sum = s := ⟨_, rfl⟩
  have HGx : Hid (greatest x xs = G) := by show greatest x xs = G; rw [greatest_zero hx0, ← hxs]; exact hG
  rw [hG] at hg0 hg1 ⊢
  rw [hsum] at hs ⊢
  obtain ⟨hs1, hs2⟩ := hs
  have HG := hide hG
  have HS := hide hsum
  have HXS := hide hxs
  have HM := hide hm
  have HW := hide hw
  obtain ⟨p, q, hpq⟩ : ∃ p q, mkFr G s = (p, q) := ⟨_, _, rfl⟩
  obtain ⟨ok, hok⟩ : ∃ ok, mkOk G s = ok := ⟨_, rfl⟩
  have H6 := hide fun W => makeFrac_any W G s (by omega) (by omega) (by omega) (by omega)
  have HPQ := hide hpq
  have HOK := hide hok
  rw [hpq, hok]
  have hlm := SlO.len hx
  obtain ⟨A, c, rfl, hc1, hc2, _⟩ := SlO.view hx
  clear hx hy hp hm hw hG hsum hxs hx0 hpq hok
  go_enter Try.func27, Try.ntmps27
  go_wp2_with fail
  refine H1.out.mono ?_
  rintro e w1 ⟨rfl, hb1⟩
  rw [HM.out]
  have hb1 := hb1
  have B1 := below_trans B0 hb1 (by simp)
  dsimp only
  go_wp2_with fail
  refine (H2.out w1 B1).mono ?_
  rintro e w2 ⟨rfl, hb2⟩
  rw [HW.out]
  have B2 := below_trans B1 hb2 (Nat.le_refl _)
  dsimp only
  go_wp2_with fail
  refine (H3.out w2 B2).mono ?_
  rintro e w3 ⟨v3, rfl, hO3, hb3⟩
  have B3 := below_trans B2 hb3 (Nat.le_refl _)
  have hsl : SlI w3 v3 (x :: xs) := by have h := hO3.sl; unfold prodsOf at HXS; rw [HXS.out] at h; exact h
  dsimp only
  go_wp2_with fail
  refine (sliceMax_any w3 v3 x xs hsl).mono ?_
  rintro e w4 ⟨rfl, n4, rfl⟩
  rw [HGx.out]
  dsimp only
  go_wp2_with fail
  refine (H5.out (w3.drewN n4) (below_drewN B3 n4)).mono ?_
  rintro e w5 ⟨rfl, n5, rfl⟩
  rw [HS.out]
  dsimp only
  go_wp2_with fail
  refine (H6.out _).mono ?_
  rintro e w6 ⟨rfl, hb6⟩
  rw [HPQ.out, HOK.out]
  have hcs := (((((FrBox.new w).next hb1).next hb2).next hb3).drewN (n4 + n5)).next hb6 |>.cells
  unfold frV
  dsimp only
  go_wp2
  have r0 := stored2 (x := .int .i64 p) (y := .int .i64 q) hcs.1.1 hcs.1.2
  exact bodyPost_ret (v := .tuple #[.agg #[.int .i64 p, .int .i64 q], .bool ok]) (by simp [results, Try.results27, go_sem, r0.1, r0.2]) rfl ⟨rfl, by repeat (first | exact below_trans (below_drewN B3 _) hb6 (Nat.le_refl _) | refine Below.setCell ?_ (by simp) _)⟩
set_option maxHeartbeats 1000000 in
theorem rowsS_yes (w : World) (u v : Value) (m : List (List Int)) (ws : List Int) (hx : SlII w u m) (hy : SlI w v ws) (hl : ws.length ≤ 1048576) (hm : matB m = true) (hw : wtB m.length ws = true) :
    Calls Try.prog 24 #[u, v] w (FrRet w (mkFr (greatest 0 (prodsOf m ws)) ws.sum, mkOk (greatest 0 (prodsOf m ws)) ws.sum)) := by
  have B0 : Below w.heap.size w (w.alloc (.cells #[.int .i64 0, .int .i64 0] 49)) := by repeat (first | exact Below.refl _ _ | apply Below.drew | refine Below.setCell ?_ (by first | (simp; done) | (simp; omega)) _ | refine Below.alloc ?_ (by first | (simp; done) | (simp; omega)) _)
  have H1 := hide (l11Matrix_any (w.alloc (.cells #[.int .i64 0, .int .i64 0] 49)) u m (SlII.below hx B0))
  have H2 := hide fun W (hb : Below w.heap.size w W) => l11Mixed_any W u v m ws (SlII.below hx hb) (hy.below hb) hl m.length (SlO.len hx)
  have H3 := hide fun W (hb : Below w.heap.size w W) => l11Products_any W u v m ws (headLen m) (matIn_of hm hw) (SlII.below hx hb) (hy.below hb)
  have H5 := hide fun W (hb : Below w.heap.size w W) => l11Sum_any W v ws (hy.below hb) (sumFits_wt (allIn_iff.2 (wtB_iff.1 hw).2.1) hl)
  have hp := prodsOf_facts hm hw
  have hs := sum_wt_le hw (matB_facts hm).2.1
  have hg0 := greatest_mono (prodsOf m ws) 0
  have hg1 := greatest_bound (B := 120000000000) (prodsOf m ws) 0 (by omega) fun x hx => (hp.2 x hx).2
  obtain ⟨x, xs, hxs⟩ : ∃ x xs, prodsOf m ws = x :: xs := by
    have h1 := (matB_facts hm).2.2.1
    cases hq : prodsOf m ws with
    | nil => rw [hq] at hp; simp at hp; omega
    | cons x xs => exact ⟨x, xs, rfl⟩
  have hx0 : 0 ≤ x := (hp.2 x (by rw [hxs]; simp)).1
  obtain ⟨G, hG⟩ : ∃ G, greatest 0 (prodsOf m ws) = G := ⟨_, rfl⟩
  obtain ⟨s, hsum⟩ : ∃ s, ws.sum = s := ⟨_, rfl⟩
  have HGx : Hid (greatest x xs = G) := by show greatest x xs = G; rw [greatest_zero hx0, ← hxs]; exact hG
  rw [hG] at hg0 hg1 ⊢
  rw [hsum] at hs ⊢
  obtain ⟨hs1, hs2⟩ := hs
  have HG := hide hG
  have HS := hide hsum
  have HXS := hide hxs
  have HM := hide hm
  have HW := hide hw
  obtain ⟨p, q, hpq⟩ : ∃ p q, mkFr G s = (p, q) := ⟨_, _, rfl⟩
  obtain ⟨ok, hok⟩ : ∃ ok, mkOk G s = ok := ⟨_, rfl⟩
  have H6 := hide fun W => l2Make_any W G s (by omega) (by omega) (by omega) (by omega)
  have HPQ := hide hpq
  have HOK := hide hok
  rw [hpq, hok]
  have hlm := SlO.len hx
  obtain ⟨A, c, rfl, hc1, hc2, _⟩ := SlO.view hx
  clear hx hy hp hm hw hG hsum hxs hx0 hpq hok
  go_enter Try.func24, Try.ntmps24
  go_wp2_with fail
  refine H1.out.mono ?_
  rintro e w1 ⟨rfl, hb1⟩
  rw [HM.out]
  have hb1 := (hb1.below (w.alloc (.cells #[.int .i64 0, .int .i64 0] 49)).heap.size)
  have B1 := below_trans B0 hb1 (by simp)
  dsimp only
  go_wp2_with fail
  refine (H2.out w1 B1).mono ?_
  rintro e w2 ⟨rfl, hb2⟩
  rw [HW.out]
  have B2 := below_trans B1 hb2 (Nat.le_refl _)
  dsimp only
  go_wp2_with fail
  refine (H3.out w2 B2).mono ?_
  rintro e w3 ⟨v3, rfl, hO3, hb3⟩
  have B3 := below_trans B2 hb3 (Nat.le_refl _)
  have hsl : SlI w3 v3 (prodsOf m ws) := by have h := hO3.sl; unfold prodsOf at HXS; rw [show prods (List.replicate (headLen m) 0) m ws = prodsOf m ws from rfl] at h; exact h
  dsimp only
  go_wp2_with fail
  refine (l7Greatest_any w3 v3 (prodsOf m ws) hsl).mono ?_
  rintro e w4 ⟨rfl, n4, rfl⟩
  rw [HG.out]
  dsimp only
  go_wp2_with fail
  refine (H5.out (w3.drewN n4) (below_drewN B3 n4)).mono ?_
  rintro e w5 ⟨rfl, n5, rfl⟩
  rw [HS.out]
  dsimp only
  go_wp2_with fail
  refine (H6.out _).mono ?_
  rintro e w6 ⟨rfl, hb6⟩
  rw [HPQ.out, HOK.out]
  have hcs := (((((FrBox.new w).next hb1).next hb2).next hb3).drewN (n4 + n5)).next hb6 |>.cells
  unfold frV
  dsimp only
  go_wp2
  have r0 := stored2 (x := .int .i64 p) (y := .int .i64 q) hcs.1.1 hcs.1.2
  exact bodyPost_ret (v := .tuple #[.agg #[.int .i64 p, .int .i64 q], .bool ok]) (by simp [results, Try.results24, go_sem, r0.1, r0.2]) rfl ⟨rfl, by repeat (first | exact below_trans (below_drewN B3 _) hb6 (Nat.le_refl _) | refine Below.setCell ?_ (by simp) _)⟩

theorem rowsI_any (w : World) (u v : Value) (m : List (List Int)) (ws : List Int) (hx : SlII w u m) (hy : SlI w v ws) (hl : ws.length ≤ 1048576) :
    Calls Try.prog 27 #[u, v] w (FrRet w (rowsWorst m ws)) := by
  unfold rowsWorst
  cases h : (matB m && wtB m.length ws)
  · exact rowsI_no w u v m ws hx hy hl h
  · rw [Bool.and_eq_true] at h
    exact rowsI_yes w u v m ws hx hy hl h.1 h.2
theorem rowsS_any (w : World) (u v : Value) (m : List (List Int)) (ws : List Int) (hx : SlII w u m) (hy : SlI w v ws) (hl : ws.length ≤ 1048576) :
    Calls Try.prog 24 #[u, v] w (FrRet w (rowsWorst m ws)) := by
  unfold rowsWorst
  cases h : (matB m && wtB m.length ws)
  · exact rowsS_no w u v m ws hx hy hl h
  · rw [Bool.and_eq_true] at h
    exact rowsS_yes w u v m ws hx hy hl h.1 h.2
end Go.Proofs.Ytjleohbjanlamaa
