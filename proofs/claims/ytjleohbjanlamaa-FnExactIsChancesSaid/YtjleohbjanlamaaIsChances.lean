/- For every problem and chances, 'IsChances' of the program and of the reference give the same, no argument is turned, and the law returns true. Conditions: none. -/
import Derived.Test.YtjleohbjanlamaaRows
import Derived.Test.YtjleohbjanlamaaChancesS
import Derived.Test.YtjleohbjanlamaaLawP
import Derived.Test.YtjleohbjanlamaaOpen
import Derived.Deep.RegionHeld3
namespace Go.Proofs.Ytjleohbjanlamaa.fnExactIsChances
open Go.ChangeShapes Go.WideShapes Go.ChangeAt Go.RowKit

theorem tp (w : World) (u1 u2 : Value) (m s : List (List Int)) (h1 : SlII w u1 m) (h2 : SlII w u2 s) (l1 : m.length ≤ 1048576) (l2 : ∀ q ∈ m, q.length ≤ 1048576) (l3 : s.length ≤ 1048576) (l4 : ∀ q ∈ s, q.length ≤ 1048576) :
    Calls Try.prog 36 #[.agg #[u1, u2]] w fun e w' => ∃ A c A' c', e = .returned (.agg #[.slice A m.length c, .slice A' s.length c']) ∧ ProbIn w' (.agg #[.slice A m.length c, .slice A' s.length c']) m s ∧ Below w.heap.size w w' :=
  (toProblem_any w u1 u2 m s h1 h2 l1 l2 l3 l4).mono fun e w' ⟨v1, v2, k, he, hO1, hO2, hb⟩ => by
    obtain ⟨A, c, rfl, -, -, -⟩ := SlO.view hO1.sl
    obtain ⟨A', c', rfl, -, -, -⟩ := SlO.view hO2.sl
    exact ⟨A, c, A', c', he, ⟨_, _, rfl, OwII.sl hO1, OwII.sl hO2⟩, hb⟩
theorem tc (w : World) (u1 u2 : Value) (ws : List Int) (qs : List (List Int)) (h1 : SlI w u1 ws) (h2 : SlII w u2 qs) (l1 : ws.length ≤ 1048576) (l3 : qs.length ≤ 1048576) (l4 : ∀ q ∈ qs, q.length ≤ 1048576) :
    Calls Try.prog 37 #[.agg #[u1, u2]] w fun e w' => ∃ A c A' c', e = .returned (.agg #[.slice A ws.length c, .slice A' qs.length c']) ∧ ChIn w' (.agg #[.slice A ws.length c, .slice A' qs.length c']) ws qs ∧ Below w.heap.size w w' :=
  (toChances_any w u1 u2 ws qs h1 h2 l1 l3 l4).mono fun e w' ⟨v1, v2, k, he, hO1, hO2, hb⟩ => by
    obtain ⟨A, c, rfl, -, -, -⟩ := SlI.view hO1.sl
    obtain ⟨A', c', rfl, -, -, -⟩ := SlO.view hO2.sl
    exact ⟨A, c, A', c', he, ⟨_, _, rfl, hO1.sl, OwII.sl hO2⟩, hb⟩
theorem ep (w : World) (v v' : Value) (m s : List (List Int)) (h : ProbIn w v m s) (h' : ProbIn w v' m s) : Calls Try.prog 39 #[v, v'] w fun e w' => e = .returned (.bool true) ∧ Below w.heap.size w w' := by
  obtain ⟨u1, u2, rfl, h1, h2⟩ := h
  obtain ⟨u3, u4, rfl, h3, h4⟩ := h'
  exact eqProblem_same w u1 u2 u3 u4 m s h1 h2 h3 h4
theorem ec (w : World) (v v' : Value) (m : List Int) (s : List (List Int)) (h : ChIn w v m s) (h' : ChIn w v' m s) : Calls Try.prog 40 #[v, v'] w fun e w' => e = .returned (.bool true) ∧ Below w.heap.size w w' := by
  obtain ⟨u1, u2, rfl, h1, h2⟩ := h
  obtain ⟨u3, u4, rfl, h3, h4⟩ := h'
  exact eqChances_same w u1 u2 u3 u4 m s h1 h2 h3 h4

set_option maxHeartbeats 4000000 in
theorem walk (w : World) (u1 u2 u3 u4 : Value) (m s : List (List Int)) (ws : List Int) (qs : List (List Int)) (h1 : SlII w u1 m) (h2 : SlII w u2 s) (h3 : SlI w u3 ws) (h4 : SlII w u4 qs) :
    Calls Try.prog 8 #[.agg #[u1, u2], .agg #[u3, u4]] w fun e w' => e = .returned (.bool true) ∧ Below w.heap.size w w' := by
  obtain ⟨W, hW⟩ : ∃ W, (w.alloc (.cells #[u1, u2] 59)).alloc (.cells #[u3, u4] 61) = W := ⟨_, rfl⟩
  have hB : Below w.heap.size w W := by rw [← hW]; exact by repeat (first | exact Below.refl _ _ | apply Below.drew | refine Below.setCell ?_ (by first | (simp; done) | (simp; omega)) _ | refine Below.alloc ?_ (by first | (simp; done) | (simp; omega)) _)
  have hcs : W.cell? ⟨w.heap.size, 0, none⟩ = some u1 ∧ W.cell? ⟨w.heap.size, 1, none⟩ = some u2 ∧ W.cell? ⟨w.heap.size + 1, 0, none⟩ = some u3 ∧ W.cell? ⟨w.heap.size + 1, 1, none⟩ = some u4 := by
    rw [← hW]
    exact ⟨by simp [go_sem], by simp [go_sem], by simp [go_sem], by simp [go_sem]⟩
  have HS1 := hide (szProblem_any W u1 u2 m s 1048576 (SlII.below h1 hB) (SlII.below h2 hB) (by omega) (by omega))
  have hn1 : 0 ≤ lenSum m := lenSum_nonneg m
  have hn2 : 0 ≤ lenSum s := lenSum_nonneg s
  have hn3 : 0 ≤ lenSum qs := lenSum_nonneg qs
  have hz1 : 0 ≤ size2 m := by unfold size2; omega
  have hz2 : 0 ≤ size2 s := by unfold size2; omega
  have hz3 : 0 ≤ size2 qs := by unfold size2; omega
  have HS2 := hide fun W' (hb : Below w.heap.size w W') l (h0 : 0 ≤ l) (h1 : l ≤ 1048576) => szChances_any W' u3 u4 ws qs l (SlI.below h3 hb) (SlII.below h4 hb) h0 h1
  by_cases q1 : (1048576 : Int) < size2 m + size2 s
  · have E1 := hide (szR_no q1)
    obtain ⟨A1, c1, rfl, -, -, -⟩ := SlO.view h1
    obtain ⟨A2, c2, rfl, -, -, -⟩ := SlO.view h2
    obtain ⟨A3, c3, rfl, -, -, -⟩ := SlI.view h3
    obtain ⟨A4, c4, rfl, -, -, -⟩ := SlO.view h4
    have HW := hide hW
    obtain ⟨g1, g2, g3, g4⟩ := hcs
    clear h1 h2 h3 h4 hW q1
    go_enter Try.func8, Try.ntmps8
    go_wp2_with fail
    rw [HW.out]
    refine HS1.out.mono ?_
    rintro e w1 ⟨rfl, hb1⟩
    rw [E1.out]
    dsimp only
    go_wp2
    go_ret
    exact ⟨rfl, hB.trans (hb1.mono hB.size)⟩
  have E1 := hide (szR_yes (Int.not_lt.1 q1))
  obtain ⟨l, hl⟩ : ∃ l, 1048576 - (size2 m + size2 s) = l := ⟨_, rfl⟩
  rw [hl] at E1
  have hl0 : 0 ≤ l := by omega
  have hl1 : l ≤ 1048576 := by omega
  by_cases q2 : l < (ws.length : Int) + size2 qs
  · have E2 := hide (szR_no q2)
    obtain ⟨A1, c1, rfl, -, -, -⟩ := SlO.view h1
    obtain ⟨A2, c2, rfl, -, -, -⟩ := SlO.view h2
    obtain ⟨A3, c3, rfl, -, -, -⟩ := SlI.view h3
    obtain ⟨A4, c4, rfl, -, -, -⟩ := SlO.view h4
    have HW := hide hW
    obtain ⟨g1, g2, g3, g4⟩ := hcs
    clear h1 h2 h3 h4 hW q1 q2 hl
    go_enter Try.func8, Try.ntmps8
    go_wp2_with fail
    rw [HW.out]
    refine HS1.out.mono ?_
    rintro e w1 ⟨rfl, hb1⟩
    rw [E1.out]
    have k3 := cell_of_below hb1 g3
    have k4 := cell_of_below hb1 g4
    have B1 := hB.trans (hb1.mono hB.size)
    dsimp only
    go_wp2_with fail
    refine (HS2.out w1 B1 l hl0 hl1).mono ?_
    rintro e w2 ⟨rfl, hb2⟩
    rw [E2.out]
    dsimp only
    go_wp2
    go_ret
    exact ⟨rfl, B1.trans (hb2.mono B1.size)⟩
  have E2 := hide (szR_yes (Int.not_lt.1 q2))
  obtain ⟨l', hl'⟩ : ∃ l', l - ((ws.length : Int) + size2 qs) = l' := ⟨_, rfl⟩
  rw [hl'] at E2
  have hl0' : 0 ≤ l' := by omega
  have f1 := size2_fits (xss := m) (l := 1048576) (by omega) (by omega)
  have f2 := size2_fits (xss := s) (l := 1048576) (by omega) (by omega)
  have f3 := size2_fits (xss := qs) (l := 1048576) (by omega) (by omega)
  have HTP := hide fun W' (hb : Below w.heap.size w W') => tp W' u1 u2 m s (SlII.below h1 hb) (SlII.below h2 hb) f1.1 f1.2 f2.1 f2.2
  have HTC := hide fun W' (hb : Below w.heap.size w W') => tc W' u3 u4 ws qs (SlI.below h3 hb) (SlII.below h4 hb) (by omega) f3.1 f3.2
  obtain ⟨A1, c1, rfl, -, -, -⟩ := SlO.view h1
  obtain ⟨A2, c2, rfl, -, -, -⟩ := SlO.view h2
  obtain ⟨A3, c3, rfl, -, -, -⟩ := SlI.view h3
  obtain ⟨A4, c4, rfl, -, -, -⟩ := SlO.view h4
  obtain ⟨r1, hr1⟩ : ∃ r1, probB m s = r1 := ⟨_, rfl⟩
  obtain ⟨r0, hr0⟩ : ∃ r0, (probB m s && chB s.length ws qs) = r0 := ⟨_, rfl⟩
  have HSPEC := hide fun W' v v' (hP : ProbIn W' v m s) (hC : ChIn W' v' ws qs) => show Calls Try.prog 35 #[v, v'] W' fun e w' => e = .returned (.tuple #[.bool r0, .bool r1]) ∧ Below W'.heap.size W' w' from by
    rw [← hr0, ← hr1]
    exact specIsChances_any W' v v' m s ws qs hP hC
  have HIMPL := hide fun W' v v' (hP : ProbIn W' v m s) (hC : ChIn W' v' ws qs) => show Calls Try.prog 38 #[v, v'] W' fun e w' => e = .returned (.tuple #[.bool r0, .bool r1]) ∧ Below W'.heap.size W' w' from by
    rw [← hr0, ← hr1]
    exact implIsChances_any W' v v' m s ws qs hP hC
  have hk0 : (r0 != r0) = false := by simp
  have hk1 : (r1 != r1) = false := by simp
  clear hr0 hr1
  have HW := hide hW
  have LW : Live W [(⟨w.heap.size, 0, none⟩, .slice A1 m.length c1), (⟨w.heap.size, 1, none⟩, .slice A2 s.length c2), (⟨w.heap.size + 1, 0, none⟩, .slice A3 ws.length c3), (⟨w.heap.size + 1, 1, none⟩, .slice A4 qs.length c4)] := by
    intro p hp
    simp only [List.mem_cons, List.not_mem_nil, or_false] at hp
    rcases hp with rfl | rfl | rfl | rfl
    · exact hcs.1
    · exact hcs.2.1
    · exact hcs.2.2.1
    · exact hcs.2.2.2
  obtain ⟨g1, g2, g3, g4⟩ := hcs
  clear h1 h2 h3 h4 hW q1 q2 hl hl' hn1 hn2 hn3 hz1 hz2 hz3 f1 f2 f3
  go_enter Try.func8, Try.ntmps8
  go_wp2_with fail
  rw [HW.out]
  refine HS1.out.mono ?_
  rintro e w1 ⟨rfl, hb1⟩
  rw [E1.out]
  have k3 := cell_of_below hb1 g3
  have k4 := cell_of_below hb1 g4
  have B1 := hB.trans (hb1.mono hB.size)
  have L1 := LW.next hb1
  dsimp only
  go_wp2_with fail
  refine (HS2.out w1 B1 l hl0 hl1).mono ?_
  rintro e w2 ⟨rfl, hb2⟩
  rw [E2.out]
  have B2 := B1.trans (hb2.mono B1.size)
  have L2 := L1.next hb2
  clear g1 g2 g3 g4 k3 k4 LW L1
  have c := L2.cells; have z := L2.lts; simp only [boxed, List.cons_append, List.nil_append, List.append_nil, List.foldr_cons, List.foldr_nil, and_true, Nat.reduceAdd] at c z
  dsimp only
  go_wp2_with fail
  have B2d := B2.drew
  have L2d : Live w2.drew _ := fun p hp => L2 p hp
  go_region_held3 (fun w' => w'.cell? ⟨w.heap.size, 0, none⟩ = some (.slice A1 m.length c1) ∧ w'.cell? ⟨w.heap.size, 1, none⟩ = some (.slice A2 s.length c2) ∧ w'.cell? ⟨w.heap.size + 1, 0, none⟩ = some (.slice A3 ws.length c3) ∧ w'.cell? ⟨w.heap.size + 1, 1, none⟩ = some (.slice A4 qs.length c4)) (first | exact c | exact ⟨c.1, c.2.1, c.2.2.1, c.2.2.2.1⟩ | go_keep) ((first
    | (go_at_call 36; refine (HTP.out _ B2d).mono ?_; rintro e wa ⟨a1, b1, a2, b2, rfl, hP, hba⟩; have Ba := below_trans B2d hba (Nat.le_refl _); have La := L2d.next hba; have c := La.cells; dsimp only)
    | (go_at_call 37; refine (HTC.out _ Ba).mono ?_; rintro e wb ⟨a3, b3, a4, b4, rfl, hC, hbb⟩; have Bb := below_trans Ba hbb (Nat.le_refl _); have Lb := La.next hbb; have c := Lb.cells; have hP := ProbIn.below hP hbb; dsimp only)
    | (go_at_call 35; refine (HSPEC.out _ _ _ hP hC).mono ?_; rintro e wc ⟨rfl, hbc⟩; have Bc := below_trans Bb hbc (Nat.le_refl _); have Lc := Lb.next hbc; have c := Lc.cells; dsimp only)))
  clear L2 L2d B2 B2d La Lb Ba Bb c z hP hC
  have c := Lc.cells; have z := Lc.lts; simp only [boxed, List.cons_append, List.nil_append, List.append_nil, List.foldr_cons, List.foldr_nil, and_true, Nat.reduceAdd] at c z
  go_wp2_with fail
  refine (HTP.out wc Bc).mono ?_
  rintro e wd ⟨a5, b5, a6, b6, rfl, hP, hbd⟩
  have Bd := below_trans Bc hbd (Nat.le_refl _)
  have Ld := Lc.next hbd
  clear c z Lc
  have c := Ld.cells; have z := Ld.lts; simp only [boxed, List.cons_append, List.nil_append, List.append_nil, List.foldr_cons, List.foldr_nil, and_true, Nat.reduceAdd] at c z
  dsimp only
  go_wp2_with fail
  have Bd' := Bd.alloc Bd.size (.cells #[.slice a5 m.length b5, .slice a6 s.length b6] 66)
  have Ld' := Ld.box [.slice a5 m.length b5, .slice a6 s.length b6] 66
  refine (HTC.out _ Bd').mono ?_
  rintro e we ⟨a7, b7, a8, b8, rfl, hC, hbe⟩
  have Be := below_trans Bd' hbe (Nat.le_refl _)
  have Le := Ld'.next hbe
  have hPe := ProbIn.below (ProbIn.below hP (by repeat (first | exact Below.refl _ _ | apply Below.drew | refine Below.setCell ?_ (by first | (simp; done) | (simp; omega)) _ | refine Below.alloc ?_ (by first | (simp; done) | (simp; omega)) _))) hbe
  have Be' := Be.alloc Be.size (.cells #[.slice a7 ws.length b7, .slice a8 qs.length b8] 68)
  have Le' := Le.box [.slice a7 ws.length b7, .slice a8 qs.length b8] 68
  have hPe' := ProbIn.below hPe (show Below we.heap.size we (we.alloc (.cells #[.slice a7 ws.length b7, .slice a8 qs.length b8] 68)) from by repeat (first | exact Below.refl _ _ | apply Below.drew | refine Below.setCell ?_ (by first | (simp; done) | (simp; omega)) _ | refine Below.alloc ?_ (by first | (simp; done) | (simp; omega)) _))
  have hCe' := ChIn.below hC (show Below we.heap.size we (we.alloc (.cells #[.slice a7 ws.length b7, .slice a8 qs.length b8] 68)) from by repeat (first | exact Below.refl _ _ | apply Below.drew | refine Below.setCell ?_ (by first | (simp; done) | (simp; omega)) _ | refine Below.alloc ?_ (by first | (simp; done) | (simp; omega)) _))
  clear c z Ld Ld' Le hP hC hPe
  have c := Le'.cells; have z := Le'.lts; simp only [boxed, List.cons_append, List.nil_append, List.append_nil, List.foldr_cons, List.foldr_nil, and_true, Nat.reduceAdd] at c z
  dsimp only
  go_wp2_with fail
  refine (HIMPL.out _ _ _ hPe' hCe').mono ?_
  rintro e wf ⟨rfl, hbf⟩
  have Bf := below_trans Be' hbf (Nat.le_refl _)
  have Lf := Le'.next hbf
  have hPf := ProbIn.below hPe' hbf
  have hCf := ChIn.below hCe' hbf
  clear c z Le' hPe' hCe'
  have c := Lf.cells; have z := Lf.lts; simp only [boxed, List.cons_append, List.nil_append, List.append_nil, List.foldr_cons, List.foldr_nil, and_true, Nat.reduceAdd] at c z
  dsimp only
  go_wp2_with fail
  have Bfd := Bf.drew
  have Lfd : Live wf.drew _ := fun p hp => Lf p hp
  have hPfd : ProbIn wf.drew _ m s := hPf
  go_region_held3 (fun w' => w'.cell? ⟨wd.heap.size, 0, none⟩ = some (.slice a5 m.length b5) ∧ w'.cell? ⟨wd.heap.size, 1, none⟩ = some (.slice a6 s.length b6) ∧ w'.cell? ⟨w.heap.size, 0, none⟩ = some (.slice A1 m.length c1) ∧ w'.cell? ⟨w.heap.size, 1, none⟩ = some (.slice A2 s.length c2) ∧ w'.cell? ⟨w.heap.size + 1, 0, none⟩ = some (.slice A3 ws.length c3) ∧ w'.cell? ⟨w.heap.size + 1, 1, none⟩ = some (.slice A4 qs.length c4)) (first | exact ⟨c.2.2.1, c.2.2.2.1, c.2.2.2.2.2.2.1, c.2.2.2.2.2.2.2.1, c.2.2.2.2.1, c.2.2.2.2.2.1⟩ | go_keep) ((first
    | (go_at_call 36; refine (HTP.out _ Bfd).mono ?_; rintro e wa ⟨a1, b1, a2, b2, rfl, hP, hba⟩; have Ba := below_trans Bfd hba (Nat.le_refl _); have La := Lfd.next hba; have hPg := ProbIn.below hPfd hba; have c := La.cells; simp only [boxed, List.cons_append, List.nil_append, List.append_nil, List.foldr_cons, List.foldr_nil, and_true, Nat.reduceAdd] at c; dsimp only)
    | (go_at_call 39; refine (ep _ _ _ m s hPg hP).mono ?_; rintro e wc ⟨rfl, hbc⟩; have Bc := below_trans Ba hbc (Nat.le_refl _); have Lc := La.next hbc; have hCg := ChIn.below (ChIn.below (w := wf.drew) hCf hba) hbc; have c := Lc.cells; simp only [boxed, List.cons_append, List.nil_append, List.append_nil, List.foldr_cons, List.foldr_nil, and_true, Nat.reduceAdd] at c; dsimp only)))
  clear c z Lf Lfd La Bf Bfd Ba hPf hPfd hCf hPg hP
  have c := Lc.cells; have z := Lc.lts; simp only [boxed, List.cons_append, List.nil_append, List.append_nil, List.foldr_cons, List.foldr_nil, and_true, Nat.reduceAdd] at c z
  go_wp2_with fail
  have Bcd := Bc.drew
  have Lcd : Live wc.drew _ := fun p hp => Lc p hp
  go_region_held3 (fun w' => w'.cell? ⟨we.heap.size, 0, none⟩ = some (.slice a7 ws.length b7) ∧ w'.cell? ⟨we.heap.size, 1, none⟩ = some (.slice a8 qs.length b8) ∧ w'.cell? ⟨w.heap.size, 0, none⟩ = some (.slice A1 m.length c1) ∧ w'.cell? ⟨w.heap.size, 1, none⟩ = some (.slice A2 s.length c2) ∧ w'.cell? ⟨w.heap.size + 1, 0, none⟩ = some (.slice A3 ws.length c3) ∧ w'.cell? ⟨w.heap.size + 1, 1, none⟩ = some (.slice A4 qs.length c4)) (first | exact ⟨c.1, c.2.1, c.2.2.2.2.2.2.1, c.2.2.2.2.2.2.2.1, c.2.2.2.2.1, c.2.2.2.2.2.1⟩ | exact ⟨c.1, c.2.1, c.2.2.2.2.1, c.2.2.2.2.2.1, c.2.2.2.2.2.2.1, c.2.2.2.2.2.2.2⟩ | go_keep) ((first
    | (go_at_call 37; refine (HTC.out _ Bcd).mono ?_; rintro e wa ⟨a1, b1, a2, b2, rfl, hC, hba⟩; have Ba := below_trans Bcd hba (Nat.le_refl _); have La := Lcd.next hba; have hCh := ChIn.below (ChIn.below (w := wc) (w' := wc.drew) hCg (Below.refl _ _).drew) hba; have c := La.cells; simp only [boxed, List.cons_append, List.nil_append, List.append_nil, List.foldr_cons, List.foldr_nil, and_true, Nat.reduceAdd] at c; dsimp only)
    | (go_at_call 40; refine (ec _ _ _ ws qs hCh hC).mono ?_; rintro e wg ⟨rfl, hbg⟩; have Bg := below_trans Ba hbg (Nat.le_refl _); have Lg := La.next hbg; have c := Lg.cells; simp only [boxed, List.cons_append, List.nil_append, List.append_nil, List.foldr_cons, List.foldr_nil, and_true, Nat.reduceAdd] at c; dsimp only)))
  go_wp2
  go_ret
  exact ⟨rfl, Bg⟩

theorem own : ownKnob Try.prog.godebug = none := by kernel_rfl
theorem c30 : Try.prog.cellsOf 30 = 1 := by kernel_rfl
theorem c46 : Try.prog.cellsOf 46 = 1 := by kernel_rfl
theorem c3 : Try.prog.cellsOf 3 = 1 := by kernel_rfl
theorem cP : Try.prog.cellsOf 59 = 2 := by kernel_rfl
theorem cC : Try.prog.cellsOf 61 = 2 := by kernel_rfl
theorem two {cs : Array Value} {u1 u2 : Value} (h : cs.size = 2) (h1 : ((cs.toList).drop 0).take 1 = [u1]) (h2 : ((cs.toList).drop 1).take 1 = [u2]) : cs = #[u1, u2] := by
  obtain ⟨l⟩ := cs
  match l, h with
  | [a, b], _ =>
    simp at h1 h2
    rw [h1, h2]
set_option maxRecDepth 100000 in
theorem lifted (os : Os) (started : os.Started) (H : Type) (enc : TypeId × Value → H) :
    ReturnsInHanded {} Try.checked os 8 .any (Rows.fnExactIsChancesSpec.pre6 enc Try.prog Try.f8 Rows.fnExactIsChancesRow.domain false) (Rows.fnExactIsChancesSpec.post enc Try.prog Try.f8 false true false false) := by
  refine returnsInHanded_of_change (C := Try.checked) own started (by kernel_rfl) Try.func8
    (ChangeSpec.witness6 (enc := enc) (C := Try.checked) false ⟨#[], #[.agg #[.slice none 0 0, .slice none 0 0], .agg #[.slice none 0 0, .slice none 0 0]], []⟩ 8 (by kernel_rfl) (by kernel_rfl) (by kernel_rfl) (by kernel_rfl)) ?_
  intro W base args ds gs before hval0 hW hcnd _
  have hval : ∀ (j : Nat) t v, Try.f8.params[j]? = some t → args[j]? = some v → Value.okWide Try.prog W .any base t v := hval0
  have hW' := hW
  obtain ⟨p, q, hA0, hV, rfl, hfz, hnd⟩ := hW
  have hA : DataW.TrodAll enc Try.prog W 0 (fun _ => true) true Try.f8.params.toList args.toList ds p := hA0
  rw [Try.params8] at hA hval
  obtain ⟨v0, vs0, d0, ds0, p0, q0, hargs, rfl, rfl, ⟨f0, h0⟩, r0⟩ := trodAll_cons hA
  obtain ⟨v1, vs1, d1, ds1, p1, q1, rfl, rfl, rfl, ⟨f1, h1⟩, r1⟩ := trodAll_cons r0
  obtain ⟨rfl, rfl, rfl⟩ := trodAll_nil r1
  obtain rfl : args = #[v0, v1] := by cases args; simp_all
  obtain ⟨rfl, rfl⟩ := trodVars_none hV
  obtain ⟨cs0, rfl, z0⟩ := okWide_struct Try.underlying59 (hval 0 59 v0 rfl rfl)
  obtain ⟨cs1, rfl, z1⟩ := okWide_struct Try.underlying61 (hval 1 61 v1 rfl rfl)
  obtain ⟨y0, y1, n0, _, _, k0, k1⟩ := trod_struct2 Try.underlying59 h0
  obtain ⟨y2, y3, n1, _, _, k2, k3⟩ := trod_struct2 Try.underlying61 h1
  obtain ⟨u1, m, e1, hm, _⟩ := openO (R := SlI) (Q := fun xs => ∀ n ∈ xs, I64 n) Try.underlying46 c30 (fun _ _ _ h => openI Try.underlying30 Try.underlying3 c3 h) k0
  obtain ⟨u2, s, e2, hs, _⟩ := openO (R := SlI) (Q := fun xs => ∀ n ∈ xs, I64 n) Try.underlying46 c30 (fun _ _ _ h => openI Try.underlying30 Try.underlying3 c3 h) k1
  obtain ⟨u3, ws, e3, hws, _⟩ := openI Try.underlying30 Try.underlying3 c3 k2
  obtain ⟨u4, qs, e4, hqs, _⟩ := openO (R := SlI) (Q := fun xs => ∀ n ∈ xs, I64 n) Try.underlying46 c30 (fun _ _ _ h => openI Try.underlying30 Try.underlying3 c3 h) k3
  rw [cP] at z0
  rw [cC] at z1
  obtain rfl := two z0 e1 e2
  obtain rfl := two z1 e3 e4
  refine (walk W u1 u2 u3 u4 m s ws qs hm hs hws hqs).mono fun e W' ⟨he, hg⟩ => ⟨.bool true, he, ?_⟩
  exact law_post (by kernel_rfl) (by rw [Try.params8]; intro t ht; simp at ht; rcases ht with rfl | rfl <;> exact ⟨by kernel_rfl, of_decide_eq_true (by kernel_rfl)⟩) rfl (by kernel_rfl) Try.underlying4 hW' rfl hg
theorem over : Rows.fnExactIsChancesRow.holds Try.pinned (OpenSpec.ofChange Rows.fnExactIsChancesSpec) :=
  OpenClaim.holds_of_wide 8 Try.f8 rfl rfl rfl rfl rfl rfl rfl ⟨rfl, rfl, rfl, rfl, rfl⟩ rfl rfl rfl rfl rfl (by kernel_rfl) Try.func8 (by kernel_rfl)
    (of_decide_eq_true (by kernel_rfl)) (by unfold Func.isWrapper; first | (rw [if_pos (by decide +kernel)]; kernel_rfl) | (rw [if_neg (by decide +kernel)]; exact ⟨rfl, rfl⟩))
    (fun os started H enc _ => lifted os started H enc)
/-- THE STATEMENT -/
theorem proved : Rows.FnExactIsChancesSaid := over
end Go.Proofs.Ytjleohbjanlamaa.fnExactIsChances
