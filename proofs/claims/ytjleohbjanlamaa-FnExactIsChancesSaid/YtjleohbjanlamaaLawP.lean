/- Copies, sizes and equality of structs of two slices (problems, chances), as the laws make them. Conditions: the sizes' bounds. -/
import Derived.Test.YtjleohbjanlamaaLawII
import Derived.Test.YtjleohbjanlamaaChances
namespace Go.Proofs.Ytjleohbjanlamaa
open Go.RowKit

def RetProb (w : World) (xs : List (List Int)) (ys : List (List Int)) (e : Ending) (w' : World) : Prop := ∃ v1 v2 k, e = .returned (.agg #[v1, v2]) ∧ OwII w' w.heap.size k v1 xs ∧ OwII w' k w'.heap.size v2 ys ∧ Below w.heap.size w w'
def RetCh (w : World) (xs : List Int) (ys : List (List Int)) (e : Ending) (w' : World) : Prop := ∃ v1 v2 k, e = .returned (.agg #[v1, v2]) ∧ OwI w' w.heap.size k v1 xs ∧ OwII w' k w'.heap.size v2 ys ∧ Below w.heap.size w w'

theorem keep_set {w : World} {a : Addr} {v : Value} {lo : Nat} (h : a.block < lo) : ∀ g, lo ≤ g → (w.setCell a v).heap[g]? = w.heap[g]? := fun g hg => Below.heap_setCell w a v g (by omega)

set_option maxHeartbeats 1000000 in
theorem toProblem_any (w : World) (u1 u2 : Value) (xs : List (List Int)) (ys : List (List Int)) (h1 : SlII w u1 xs) (h2 : SlII w u2 ys) (hn1 : xs.length ≤ 1048576) (hn2 : ∀ q ∈ xs, q.length ≤ 1048576) (hn3 : ys.length ≤ 1048576) (hn4 : ∀ q ∈ ys, q.length ≤ 1048576) :
    Calls Try.prog 36 #[.agg #[u1, u2]] w (RetProb w xs ys) := by
  obtain ⟨W, hW⟩ : ∃ W, ((w.alloc (.cells #[u1, u2] 59)).alloc (.cells #[.slice none 0 0, .slice none 0 0] 66)).alloc (.cells #[.slice none 0 0, .slice none 0 0] 66) = W := ⟨_, rfl⟩
  have hB : Below w.heap.size w W := by rw [← hW]; exact by repeat (first | exact Below.refl _ _ | apply Below.drew | refine Below.setCell ?_ (by first | (simp; done) | (simp; omega)) _ | refine Below.alloc ?_ (by first | (simp; done) | (simp; omega)) _)
  have hz : W.heap.size = w.heap.size + 3 := by rw [← hW]; simp
  have hb2 : W.cell? ⟨w.heap.size, 1, none⟩ = some u2 := by rw [← hW]; simp [go_sem]
  have hc1 : W.cell? ⟨w.heap.size + 1, 0, none⟩ = some (.slice none 0 0) := by rw [← hW]; simp [go_sem]
  have hc2 : W.cell? ⟨w.heap.size + 1, 1, none⟩ = some (.slice none 0 0) := by rw [← hW]; simp [go_sem]
  have hc3 : W.cell? ⟨w.heap.size + 2, 0, none⟩ = some (.slice none 0 0) := by rw [← hW]; simp [go_sem]
  have hc4 : W.cell? ⟨w.heap.size + 2, 1, none⟩ = some (.slice none 0 0) := by rw [← hW]; simp [go_sem]
  have hf1 : W.frozen? ⟨w.heap.size + 1, 0, none⟩ = false := by rw [← hW]; simp [go_sem]
  have hf2 : W.frozen? ⟨w.heap.size + 1, 1, none⟩ = false := by rw [← hW]; simp [go_sem]
  have hf3 : W.frozen? ⟨w.heap.size + 2, 0, none⟩ = false := by rw [← hW]; simp [go_sem]
  have hf4 : W.frozen? ⟨w.heap.size + 2, 1, none⟩ = false := by rw [← hW]; simp [go_sem]
  have H1 := hide (toIntSS_any W u1 xs (SlII.below h1 hB) hn1 hn2)
  have H2 := hide fun W' (hb : Below w.heap.size w W') => toIntSS_any W' u2 ys (SlII.below h2 hb) hn3 hn4
  obtain ⟨A1, c1, rfl, -, -, -⟩ := h1.view
  obtain ⟨A2, c2, rfl, -, -, -⟩ := SlO.view h2
  have HW := hide hW
  clear h1 h2 hW hn3 hn4
  go_enter Try.func36, Try.ntmps36
  go_wp2_with fail
  rw [HW.out]
  refine H1.out.mono ?_
  rintro e w1 ⟨v1, rfl, hO1, hb1⟩
  have hs1 := hb1.size
  obtain ⟨B1, d1, rfl, -, -, -⟩ := (OwII.sl hO1).view
  have d2 := cell_of_below hb1 hb2
  have e1 := cell_of_below hb1 hc1
  have e2 := cell_of_below hb1 hc2
  have e3 := cell_of_below hb1 hc3
  have e4 := cell_of_below hb1 hc4
  have f1 := (hb1.frozen (p := ⟨w.heap.size + 1, 0, none⟩) (by rw [hz]; simp)).trans hf1
  have f2 := (hb1.frozen (p := ⟨w.heap.size + 1, 1, none⟩) (by rw [hz]; simp)).trans hf2
  have f3 := (hb1.frozen (p := ⟨w.heap.size + 2, 0, none⟩) (by rw [hz]; simp)).trans hf3
  have f4 := (hb1.frozen (p := ⟨w.heap.size + 2, 1, none⟩) (by rw [hz]; simp)).trans hf4
  have HB1 := hide (hB.trans (hb1.mono hB.size))
  have HO1 := hide hO1
  clear hb2 hc1 hc2 hc3 hc4 hf1 hf2 hf3 hf4 hO1 hb1 hB
  dsimp only
  go_wp2_with fail
  obtain ⟨W1, hW1⟩ : ∃ W1, w1.setCell ⟨w.heap.size + 2, 0, none⟩ (.slice B1 xs.length d1) = W1 := ⟨_, rfl⟩
  rw [hW1]
  have hz1 : W1.heap.size = w1.heap.size := by rw [← hW1]; simp
  have BB : Below w.heap.size w W1 := by rw [← hW1]; exact HB1.out.setCell (by simp) _
  have KO1 := OwO.keep oneI HO1.out (w' := W1) (fun g h1 h2 h3 => by rw [← hW1]; exact keep_set (lo := W.heap.size) (by simp [hz]) g h1)
  have d2' : W1.cell? ⟨w.heap.size, 1, none⟩ = some (.slice A2 ys.length c2) := by rw [← hW1, World.cell?_setCell_other _ _ _ _ (by simp)]; exact d2
  have e1' : W1.cell? ⟨w.heap.size + 1, 0, none⟩ = some (.slice none 0 0) := by rw [← hW1, World.cell?_setCell_other _ _ _ _ (by simp)]; exact e1
  have e2' : W1.cell? ⟨w.heap.size + 1, 1, none⟩ = some (.slice none 0 0) := by rw [← hW1, World.cell?_setCell_other _ _ _ _ (by simp)]; exact e2
  have e3' : W1.cell? ⟨w.heap.size + 2, 0, none⟩ = some (.slice B1 xs.length d1) := by rw [← hW1]; exact World.cell?_setCell_same _ _ _ e3
  have e4' : W1.cell? ⟨w.heap.size + 2, 1, none⟩ = some (.slice none 0 0) := by rw [← hW1, World.cell?_setCell_other _ _ _ _ (by simp)]; exact e4
  have f1' : W1.frozen? ⟨w.heap.size + 1, 0, none⟩ = false := by rw [← hW1, World.frozen?_setCell]; exact f1
  have f2' : W1.frozen? ⟨w.heap.size + 1, 1, none⟩ = false := by rw [← hW1, World.frozen?_setCell]; exact f2
  have f4' : W1.frozen? ⟨w.heap.size + 2, 1, none⟩ = false := by rw [← hW1, World.frozen?_setCell]; exact f4
  clear d2 e1 e2 e3 e4 f1 f2 f3 f4 hW1
  refine (H2.out W1 BB).mono ?_
  rintro e w2 ⟨v2, rfl, hO2, hb2⟩
  have hs2 := hb2.size
  obtain ⟨B2, d2, rfl, -, -, -⟩ := SlO.view hO2.sl
  have g1 := cell_of_below hb2 e1'
  have g2 := cell_of_below hb2 e2'
  have g3 := cell_of_below hb2 e3'
  have g4 := cell_of_below hb2 e4'
  have k1 := (hb2.frozen (p := ⟨w.heap.size + 1, 0, none⟩) (block_lt e1')).trans f1'
  have k2 := (hb2.frozen (p := ⟨w.heap.size + 1, 1, none⟩) (block_lt e2')).trans f2'
  have k4 := (hb2.frozen (p := ⟨w.heap.size + 2, 1, none⟩) (block_lt e4')).trans f4'
  have B2' := below_trans BB hb2 (Nat.le_refl _)
  have KO2 := hide ((OwO.below oneI KO1 hb2).mono (Nat.le_of_eq rfl) (Nat.le_refl _))
  have HO2 := hide hO2
  clear d2' e1' e2' e3' e4' f1' f2' f4' KO1 hO2 hb2 BB
  dsimp only
  go_wp2
  have g3' : (w2.setCell ⟨w.heap.size + 2, 1, none⟩ (.slice B2 ys.length d2)).cell? ⟨w.heap.size + 1, 0, none⟩ = some (.slice none 0 0) := by rw [World.cell?_setCell_other _ _ _ _ (by simp)]; exact g1
  have g4' : (w2.setCell ⟨w.heap.size + 2, 1, none⟩ (.slice B2 ys.length d2)).cell? ⟨w.heap.size + 1, 1, none⟩ = some (.slice none 0 0) := by rw [World.cell?_setCell_other _ _ _ _ (by simp)]; exact g2
  have r0 := stored2 (x := .slice B1 xs.length d1) (y := .slice B2 ys.length d2) g3' g4'
  refine bodyPost_ret (v := .agg #[.slice B1 xs.length d1, .slice B2 ys.length d2]) (by simp [results, Try.results36, go_sem, r0.1, r0.2]) rfl ⟨_, _, w1.heap.size, rfl, ?_, ?_, ((B2'.setCell (by first | (simp; done) | (simp; omega)) _).setCell (by first | (simp; done) | (simp; omega)) _).setCell (by first | (simp; done) | (simp; omega)) _⟩
  · exact OwO.mono (OwO.keep oneI KO2.out (fun g h1 h2 h3 => by skip; exact (Below.heap_setCell _ _ _ g (by simp; omega)).trans ((Below.heap_setCell _ _ _ g (by simp; omega)).trans (Below.heap_setCell _ _ _ g (by simp; omega))))) (by omega) (Nat.le_refl _)
  · exact OwO.mono (OwO.keep oneI HO2.out (fun g h1 h2 h3 => (Below.heap_setCell _ _ _ g (by simp; omega)).trans ((Below.heap_setCell _ _ _ g (by simp; omega)).trans (Below.heap_setCell _ _ _ g (by simp; omega))))) (by omega) (by simp)
set_option maxHeartbeats 1000000 in
theorem toChances_any (w : World) (u1 u2 : Value) (xs : List Int) (ys : List (List Int)) (h1 : SlI w u1 xs) (h2 : SlII w u2 ys) (hn1 : xs.length ≤ 1048576) (hn3 : ys.length ≤ 1048576) (hn4 : ∀ q ∈ ys, q.length ≤ 1048576) :
    Calls Try.prog 37 #[.agg #[u1, u2]] w (RetCh w xs ys) := by
  obtain ⟨W, hW⟩ : ∃ W, ((w.alloc (.cells #[u1, u2] 61)).alloc (.cells #[.slice none 0 0, .slice none 0 0] 68)).alloc (.cells #[.slice none 0 0, .slice none 0 0] 68) = W := ⟨_, rfl⟩
  have hB : Below w.heap.size w W := by rw [← hW]; exact by repeat (first | exact Below.refl _ _ | apply Below.drew | refine Below.setCell ?_ (by first | (simp; done) | (simp; omega)) _ | refine Below.alloc ?_ (by first | (simp; done) | (simp; omega)) _)
  have hz : W.heap.size = w.heap.size + 3 := by rw [← hW]; simp
  have hb2 : W.cell? ⟨w.heap.size, 1, none⟩ = some u2 := by rw [← hW]; simp [go_sem]
  have hc1 : W.cell? ⟨w.heap.size + 1, 0, none⟩ = some (.slice none 0 0) := by rw [← hW]; simp [go_sem]
  have hc2 : W.cell? ⟨w.heap.size + 1, 1, none⟩ = some (.slice none 0 0) := by rw [← hW]; simp [go_sem]
  have hc3 : W.cell? ⟨w.heap.size + 2, 0, none⟩ = some (.slice none 0 0) := by rw [← hW]; simp [go_sem]
  have hc4 : W.cell? ⟨w.heap.size + 2, 1, none⟩ = some (.slice none 0 0) := by rw [← hW]; simp [go_sem]
  have hf1 : W.frozen? ⟨w.heap.size + 1, 0, none⟩ = false := by rw [← hW]; simp [go_sem]
  have hf2 : W.frozen? ⟨w.heap.size + 1, 1, none⟩ = false := by rw [← hW]; simp [go_sem]
  have hf3 : W.frozen? ⟨w.heap.size + 2, 0, none⟩ = false := by rw [← hW]; simp [go_sem]
  have hf4 : W.frozen? ⟨w.heap.size + 2, 1, none⟩ = false := by rw [← hW]; simp [go_sem]
  have H1 := hide (toIntS_any W u1 xs (SlI.below h1 hB) hn1)
  have H2 := hide fun W' (hb : Below w.heap.size w W') => toIntSS_any W' u2 ys (SlII.below h2 hb) hn3 hn4
  obtain ⟨A1, c1, rfl, -, -, -⟩ := h1.view
  obtain ⟨A2, c2, rfl, -, -, -⟩ := SlO.view h2
  have HW := hide hW
  clear h1 h2 hW hn3 hn4
  go_enter Try.func37, Try.ntmps37
  go_wp2_with fail
  rw [HW.out]
  refine H1.out.mono ?_
  rintro e w1 ⟨v1, rfl, hO1, hb1⟩
  have hs1 := hb1.size
  obtain ⟨B1, d1, rfl, -, -, -⟩ := hO1.sl.view
  have d2 := cell_of_below hb1 hb2
  have e1 := cell_of_below hb1 hc1
  have e2 := cell_of_below hb1 hc2
  have e3 := cell_of_below hb1 hc3
  have e4 := cell_of_below hb1 hc4
  have f1 := (hb1.frozen (p := ⟨w.heap.size + 1, 0, none⟩) (by rw [hz]; simp)).trans hf1
  have f2 := (hb1.frozen (p := ⟨w.heap.size + 1, 1, none⟩) (by rw [hz]; simp)).trans hf2
  have f3 := (hb1.frozen (p := ⟨w.heap.size + 2, 0, none⟩) (by rw [hz]; simp)).trans hf3
  have f4 := (hb1.frozen (p := ⟨w.heap.size + 2, 1, none⟩) (by rw [hz]; simp)).trans hf4
  have HB1 := hide (hB.trans (hb1.mono hB.size))
  have HO1 := hide hO1
  clear hb2 hc1 hc2 hc3 hc4 hf1 hf2 hf3 hf4 hO1 hb1 hB
  dsimp only
  go_wp2_with fail
  obtain ⟨W1, hW1⟩ : ∃ W1, w1.setCell ⟨w.heap.size + 2, 0, none⟩ (.slice B1 xs.length d1) = W1 := ⟨_, rfl⟩
  rw [hW1]
  have hz1 : W1.heap.size = w1.heap.size := by rw [← hW1]; simp
  have BB : Below w.heap.size w W1 := by rw [← hW1]; exact HB1.out.setCell (by simp) _
  have KO1 := OwI.keep HO1.out (w' := W1) (fun g h1 => by rw [← hW1]; exact keep_set (lo := W.heap.size) (by simp [hz]) g (HO1.out.2 g h1).1)
  have d2' : W1.cell? ⟨w.heap.size, 1, none⟩ = some (.slice A2 ys.length c2) := by rw [← hW1, World.cell?_setCell_other _ _ _ _ (by simp)]; exact d2
  have e1' : W1.cell? ⟨w.heap.size + 1, 0, none⟩ = some (.slice none 0 0) := by rw [← hW1, World.cell?_setCell_other _ _ _ _ (by simp)]; exact e1
  have e2' : W1.cell? ⟨w.heap.size + 1, 1, none⟩ = some (.slice none 0 0) := by rw [← hW1, World.cell?_setCell_other _ _ _ _ (by simp)]; exact e2
  have e3' : W1.cell? ⟨w.heap.size + 2, 0, none⟩ = some (.slice B1 xs.length d1) := by rw [← hW1]; exact World.cell?_setCell_same _ _ _ e3
  have e4' : W1.cell? ⟨w.heap.size + 2, 1, none⟩ = some (.slice none 0 0) := by rw [← hW1, World.cell?_setCell_other _ _ _ _ (by simp)]; exact e4
  have f1' : W1.frozen? ⟨w.heap.size + 1, 0, none⟩ = false := by rw [← hW1, World.frozen?_setCell]; exact f1
  have f2' : W1.frozen? ⟨w.heap.size + 1, 1, none⟩ = false := by rw [← hW1, World.frozen?_setCell]; exact f2
  have f4' : W1.frozen? ⟨w.heap.size + 2, 1, none⟩ = false := by rw [← hW1, World.frozen?_setCell]; exact f4
  clear d2 e1 e2 e3 e4 f1 f2 f3 f4 hW1
  refine (H2.out W1 BB).mono ?_
  rintro e w2 ⟨v2, rfl, hO2, hb2⟩
  have hs2 := hb2.size
  obtain ⟨B2, d2, rfl, -, -, -⟩ := SlO.view hO2.sl
  have g1 := cell_of_below hb2 e1'
  have g2 := cell_of_below hb2 e2'
  have g3 := cell_of_below hb2 e3'
  have g4 := cell_of_below hb2 e4'
  have k1 := (hb2.frozen (p := ⟨w.heap.size + 1, 0, none⟩) (block_lt e1')).trans f1'
  have k2 := (hb2.frozen (p := ⟨w.heap.size + 1, 1, none⟩) (block_lt e2')).trans f2'
  have k4 := (hb2.frozen (p := ⟨w.heap.size + 2, 1, none⟩) (block_lt e4')).trans f4'
  have B2' := below_trans BB hb2 (Nat.le_refl _)
  have KO2 := hide ((OwI.below KO1 hb2).mono (Nat.le_of_eq rfl) (Nat.le_refl _))
  have HO2 := hide hO2
  clear d2' e1' e2' e3' e4' f1' f2' f4' KO1 hO2 hb2 BB
  dsimp only
  go_wp2
  have g3' : (w2.setCell ⟨w.heap.size + 2, 1, none⟩ (.slice B2 ys.length d2)).cell? ⟨w.heap.size + 1, 0, none⟩ = some (.slice none 0 0) := by rw [World.cell?_setCell_other _ _ _ _ (by simp)]; exact g1
  have g4' : (w2.setCell ⟨w.heap.size + 2, 1, none⟩ (.slice B2 ys.length d2)).cell? ⟨w.heap.size + 1, 1, none⟩ = some (.slice none 0 0) := by rw [World.cell?_setCell_other _ _ _ _ (by simp)]; exact g2
  have r0 := stored2 (x := .slice B1 xs.length d1) (y := .slice B2 ys.length d2) g3' g4'
  refine bodyPost_ret (v := .agg #[.slice B1 xs.length d1, .slice B2 ys.length d2]) (by simp [results, Try.results37, go_sem, r0.1, r0.2]) rfl ⟨_, _, w1.heap.size, rfl, ?_, ?_, ((B2'.setCell (by first | (simp; done) | (simp; omega)) _).setCell (by first | (simp; done) | (simp; omega)) _).setCell (by first | (simp; done) | (simp; omega)) _⟩
  · exact OwI.mono (OwI.keep KO2.out (fun g h1 => by (have h5 := KO2.out.2 g h1); exact (Below.heap_setCell _ _ _ g (by simp; omega)).trans ((Below.heap_setCell _ _ _ g (by simp; omega)).trans (Below.heap_setCell _ _ _ g (by simp; omega))))) (by omega) (Nat.le_refl _)
  · exact OwO.mono (OwO.keep oneI HO2.out (fun g h1 h2 h3 => (Below.heap_setCell _ _ _ g (by simp; omega)).trans ((Below.heap_setCell _ _ _ g (by simp; omega)).trans (Below.heap_setCell _ _ _ g (by simp; omega))))) (by omega) (by simp)

set_option maxHeartbeats 1000000 in
theorem szProblem_any (w : World) (u1 u2 : Value) (xs : List (List Int)) (ys : List (List Int)) (l : Int) (h1 : SlII w u1 xs) (h2 : SlII w u2 ys) (hl0 : 0 ≤ l) (hl1 : l ≤ 1048576) :
    Calls Try.prog 33 #[.agg #[u1, u2], .int .i64 l] w fun e w' => e = .returned (.int .i64 (szR l (size2 xs + size2 ys))) ∧ Below w.heap.size w w' := by
  obtain ⟨W, hW⟩ : ∃ W, w.alloc (.cells #[u1, u2] 59) = W := ⟨_, rfl⟩
  have hB : Below w.heap.size w W := by rw [← hW]; exact by repeat (first | exact Below.refl _ _ | apply Below.drew | refine Below.setCell ?_ (by first | (simp; done) | (simp; omega)) _ | refine Below.alloc ?_ (by first | (simp; done) | (simp; omega)) _)
  have hb1 : W.cell? ⟨w.heap.size, 0, none⟩ = some u1 := by rw [← hW]; simp [go_sem]
  have hb2 : W.cell? ⟨w.heap.size, 1, none⟩ = some u2 := by rw [← hW]; simp [go_sem]
  have hn1 : 0 ≤ size2 ys := by have := lenSum_nonneg ys; unfold size2; omega
  have hn2 : (0 : Int) ≤ size2 xs := by (have := lenSum_nonneg xs; unfold size2; omega)
  have H1 := hide (szIntSS_any W u1 xs l (SlII.below h1 hB) hl0 hl1)
  have H2 := hide fun W' (hb : Below w.heap.size w W') l (h0 : 0 ≤ l) (h1 : l ≤ 1048576) => szIntSS_any W' u2 ys l (SlII.below h2 hb) h0 h1
  obtain ⟨A1, c1, rfl, -, -, -⟩ := h1.view
  obtain ⟨A2, c2, rfl, -, -, -⟩ := SlO.view h2
  have HW := hide hW
  clear h1 h2 hW
  obtain ⟨a, ha⟩ : ∃ a : Int, size2 xs = a := ⟨_, rfl⟩
  obtain ⟨b, hb⟩ : ∃ b : Int, size2 ys = b := ⟨_, rfl⟩
  rw [hb] at H2 hn1
  rw [ha] at H1 hn2
  rw [ha, hb]
  clear ha hb
  by_cases q1 : l < a
  · have E1 := hide (szR_no q1)
    have E2 := hide (szR_no (l := l) (n := a + b) (by omega))
    clear q1
    rw [E2.out]
    go_enter Try.func33, Try.ntmps33
    go_wp2_with fail
    rw [HW.out]
    refine H1.out.mono ?_
    rintro e w1 ⟨rfl, n1, rfl⟩
    rw [E1.out]
    dsimp only
    go_wp2
    go_ret
    exact ⟨rfl, by first | exact hB | exact below_drewN hB _⟩
  · have E1 := hide (szR_yes (l := l) (n := a) (by omega))
    by_cases q2 : l - a < b
    · have E2 := hide (szR_no (l := l) (n := a + b) (by omega))
      have E3 := hide (szR_no q2)
      rw [E2.out]
      go_enter Try.func33, Try.ntmps33
      go_wp2_with fail
      rw [HW.out]
      refine H1.out.mono ?_
      rintro e w1 ⟨rfl, n1, rfl⟩
      rw [E1.out]
      dsimp only
      go_wp2_with fail
      refine (H2.out _ (by first | exact hB | exact below_drewN hB _) _ (by omega) (by omega)).mono ?_
      rintro e w2 ⟨rfl, n2, rfl⟩
      rw [E3.out]
      dsimp only
      go_wp2
      go_ret
      exact ⟨rfl, by first | exact below_drewN hB _ | exact below_drewN (below_drewN hB _) _⟩
    · have E2 : Hid (szR l (a + b) = l - a - b) := by show szR l (a + b) = l - a - b; rw [szR_yes (by omega)]; omega
      have E3 := hide (szR_yes (l := l - a) (n := b) (by omega))
      rw [E2.out]
      go_enter Try.func33, Try.ntmps33
      go_wp2_with fail
      rw [HW.out]
      refine H1.out.mono ?_
      rintro e w1 ⟨rfl, n1, rfl⟩
      rw [E1.out]
      dsimp only
      go_wp2_with fail
      refine (H2.out _ (by first | exact hB | exact below_drewN hB _) _ (by omega) (by omega)).mono ?_
      rintro e w2 ⟨rfl, n2, rfl⟩
      rw [E3.out]
      dsimp only
      go_wp2
      go_ret
      exact ⟨rfl, by first | exact below_drewN hB _ | exact below_drewN (below_drewN hB _) _⟩
set_option maxHeartbeats 1000000 in
theorem szChances_any (w : World) (u1 u2 : Value) (xs : List Int) (ys : List (List Int)) (l : Int) (h1 : SlI w u1 xs) (h2 : SlII w u2 ys) (hl0 : 0 ≤ l) (hl1 : l ≤ 1048576) :
    Calls Try.prog 34 #[.agg #[u1, u2], .int .i64 l] w fun e w' => e = .returned (.int .i64 (szR l ((xs.length : Int) + size2 ys))) ∧ Below w.heap.size w w' := by
  obtain ⟨W, hW⟩ : ∃ W, w.alloc (.cells #[u1, u2] 61) = W := ⟨_, rfl⟩
  have hB : Below w.heap.size w W := by rw [← hW]; exact by repeat (first | exact Below.refl _ _ | apply Below.drew | refine Below.setCell ?_ (by first | (simp; done) | (simp; omega)) _ | refine Below.alloc ?_ (by first | (simp; done) | (simp; omega)) _)
  have hb1 : W.cell? ⟨w.heap.size, 0, none⟩ = some u1 := by rw [← hW]; simp [go_sem]
  have hb2 : W.cell? ⟨w.heap.size, 1, none⟩ = some u2 := by rw [← hW]; simp [go_sem]
  have hn1 : 0 ≤ size2 ys := by have := lenSum_nonneg ys; unfold size2; omega
  have hn2 : (0 : Int) ≤ (xs.length : Int) := by omega
  have H1 := hide (szI_any W u1 xs l (SlI.below h1 hB) hl0 hl1)
  have H2 := hide fun W' (hb : Below w.heap.size w W') l (h0 : 0 ≤ l) (h1 : l ≤ 1048576) => szIntSS_any W' u2 ys l (SlII.below h2 hb) h0 h1
  obtain ⟨A1, c1, rfl, -, -, -⟩ := h1.view
  obtain ⟨A2, c2, rfl, -, -, -⟩ := SlO.view h2
  have HW := hide hW
  clear h1 h2 hW
  obtain ⟨a, ha⟩ : ∃ a : Int, (xs.length : Int) = a := ⟨_, rfl⟩
  obtain ⟨b, hb⟩ : ∃ b : Int, size2 ys = b := ⟨_, rfl⟩
  rw [hb] at H2 hn1
  rw [ha] at H1 hn2
  rw [ha, hb]
  clear ha hb
  by_cases q1 : l < a
  · have E1 := hide (szR_no q1)
    have E2 := hide (szR_no (l := l) (n := a + b) (by omega))
    clear q1
    rw [E2.out]
    go_enter Try.func34, Try.ntmps34
    go_wp2_with fail
    rw [HW.out]
    refine H1.out.mono ?_
    rintro e w1 ⟨rfl, rfl⟩
    rw [E1.out]
    dsimp only
    go_wp2
    go_ret
    exact ⟨rfl, by first | exact hB | exact below_drewN hB _⟩
  · have E1 := hide (szR_yes (l := l) (n := a) (by omega))
    by_cases q2 : l - a < b
    · have E2 := hide (szR_no (l := l) (n := a + b) (by omega))
      have E3 := hide (szR_no q2)
      rw [E2.out]
      go_enter Try.func34, Try.ntmps34
      go_wp2_with fail
      rw [HW.out]
      refine H1.out.mono ?_
      rintro e w1 ⟨rfl, rfl⟩
      rw [E1.out]
      dsimp only
      go_wp2_with fail
      refine (H2.out _ (by first | exact hB | exact below_drewN hB _) _ (by omega) (by omega)).mono ?_
      rintro e w2 ⟨rfl, n2, rfl⟩
      rw [E3.out]
      dsimp only
      go_wp2
      go_ret
      exact ⟨rfl, by first | exact below_drewN hB _ | exact below_drewN (below_drewN hB _) _⟩
    · have E2 : Hid (szR l (a + b) = l - a - b) := by show szR l (a + b) = l - a - b; rw [szR_yes (by omega)]; omega
      have E3 := hide (szR_yes (l := l - a) (n := b) (by omega))
      rw [E2.out]
      go_enter Try.func34, Try.ntmps34
      go_wp2_with fail
      rw [HW.out]
      refine H1.out.mono ?_
      rintro e w1 ⟨rfl, rfl⟩
      rw [E1.out]
      dsimp only
      go_wp2_with fail
      refine (H2.out _ (by first | exact hB | exact below_drewN hB _) _ (by omega) (by omega)).mono ?_
      rintro e w2 ⟨rfl, n2, rfl⟩
      rw [E3.out]
      dsimp only
      go_wp2
      go_ret
      exact ⟨rfl, by first | exact below_drewN hB _ | exact below_drewN (below_drewN hB _) _⟩

set_option maxHeartbeats 1000000 in
theorem eqProblem_same (w : World) (u1 u2 v1 v2 : Value) (xs : List (List Int)) (ys : List (List Int)) (h1 : SlII w u1 xs) (h2 : SlII w u2 ys) (k1 : SlII w v1 xs) (k2 : SlII w v2 ys) :
    Calls Try.prog 39 #[.agg #[u1, u2], .agg #[v1, v2]] w fun e w' => e = .returned (.bool true) ∧ Below w.heap.size w w' := by
  obtain ⟨W, hW⟩ : ∃ W, (w.alloc (.cells #[u1, u2] 66)).alloc (.cells #[v1, v2] 66) = W := ⟨_, rfl⟩
  have hB : Below w.heap.size w W := by rw [← hW]; exact by repeat (first | exact Below.refl _ _ | apply Below.drew | refine Below.setCell ?_ (by first | (simp; done) | (simp; omega)) _ | refine Below.alloc ?_ (by first | (simp; done) | (simp; omega)) _)
  have hb1 : W.cell? ⟨w.heap.size, 0, none⟩ = some u1 := by rw [← hW]; simp [go_sem]
  have hb2 : W.cell? ⟨w.heap.size, 1, none⟩ = some u2 := by rw [← hW]; simp [go_sem]
  have hb3 : W.cell? ⟨w.heap.size + 1, 0, none⟩ = some v1 := by rw [← hW]; simp [go_sem]
  have hb4 : W.cell? ⟨w.heap.size + 1, 1, none⟩ = some v2 := by rw [← hW]; simp [go_sem]
  have H1 := hide (eqIntSS_same W u1 v1 xs (SlII.below h1 hB) (SlII.below k1 hB))
  have H2 := hide fun W' (hb : Below w.heap.size w W') => eqIntSS_same W' u2 v2 ys (SlII.below h2 hb) (SlII.below k2 hb)
  obtain ⟨A1, c1, rfl, -, -, -⟩ := h1.view
  obtain ⟨A2, c2, rfl, -, -, -⟩ := SlO.view h2
  obtain ⟨A3, c3, rfl, -, -, -⟩ := k1.view
  obtain ⟨A4, c4, rfl, -, -, -⟩ := SlO.view k2
  have HW := hide hW
  clear h1 h2 k1 k2 hW
  go_enter Try.func39, Try.ntmps39
  go_wp2_with fail
  rw [HW.out]
  refine H1.out.mono ?_
  rintro e w1 ⟨rfl, n1, rfl⟩
  dsimp only
  go_wp2_with fail
  refine (H2.out _ (below_drewN hB _)).mono ?_
  rintro e w2 ⟨rfl, n2, rfl⟩
  dsimp only
  go_wp2
  go_ret
  exact ⟨rfl, below_drewN hB _⟩
set_option maxHeartbeats 1000000 in
theorem eqChances_same (w : World) (u1 u2 v1 v2 : Value) (xs : List Int) (ys : List (List Int)) (h1 : SlI w u1 xs) (h2 : SlII w u2 ys) (k1 : SlI w v1 xs) (k2 : SlII w v2 ys) :
    Calls Try.prog 40 #[.agg #[u1, u2], .agg #[v1, v2]] w fun e w' => e = .returned (.bool true) ∧ Below w.heap.size w w' := by
  obtain ⟨W, hW⟩ : ∃ W, (w.alloc (.cells #[u1, u2] 68)).alloc (.cells #[v1, v2] 68) = W := ⟨_, rfl⟩
  have hB : Below w.heap.size w W := by rw [← hW]; exact by repeat (first | exact Below.refl _ _ | apply Below.drew | refine Below.setCell ?_ (by first | (simp; done) | (simp; omega)) _ | refine Below.alloc ?_ (by first | (simp; done) | (simp; omega)) _)
  have hb1 : W.cell? ⟨w.heap.size, 0, none⟩ = some u1 := by rw [← hW]; simp [go_sem]
  have hb2 : W.cell? ⟨w.heap.size, 1, none⟩ = some u2 := by rw [← hW]; simp [go_sem]
  have hb3 : W.cell? ⟨w.heap.size + 1, 0, none⟩ = some v1 := by rw [← hW]; simp [go_sem]
  have hb4 : W.cell? ⟨w.heap.size + 1, 1, none⟩ = some v2 := by rw [← hW]; simp [go_sem]
  have H1 := hide (eqIntS_same W u1 v1 xs (SlI.below h1 hB) (SlI.below k1 hB))
  have H2 := hide fun W' (hb : Below w.heap.size w W') => eqIntSS_same W' u2 v2 ys (SlII.below h2 hb) (SlII.below k2 hb)
  obtain ⟨A1, c1, rfl, -, -, -⟩ := h1.view
  obtain ⟨A2, c2, rfl, -, -, -⟩ := SlO.view h2
  obtain ⟨A3, c3, rfl, -, -, -⟩ := k1.view
  obtain ⟨A4, c4, rfl, -, -, -⟩ := SlO.view k2
  have HW := hide hW
  clear h1 h2 k1 k2 hW
  go_enter Try.func40, Try.ntmps40
  go_wp2_with fail
  rw [HW.out]
  refine H1.out.mono ?_
  rintro e w1 ⟨rfl, n1, rfl⟩
  dsimp only
  go_wp2_with fail
  refine (H2.out _ (below_drewN hB _)).mono ?_
  rintro e w2 ⟨rfl, n2, rfl⟩
  dsimp only
  go_wp2
  go_ret
  exact ⟨rfl, below_drewN hB _⟩
end Go.Proofs.Ytjleohbjanlamaa
