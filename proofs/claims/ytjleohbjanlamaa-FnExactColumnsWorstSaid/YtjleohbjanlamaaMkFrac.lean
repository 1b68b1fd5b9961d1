/- Fractions, third part: the fraction of two numbers, by the program's and the reference's functions. Conditions: a lower number of at least 1, an upper one above the least int. -/
import Derived.Test.YtjleohbjanlamaaFrac
import Derived.RegionTactic
import Derived.ChangeAlike
namespace Go.Proofs.Ytjleohbjanlamaa
open Go.RowKit

/-- numerator and denominator in lowest terms; whether they are a fraction; the fraction, or zeros -/
def qN (n d : Int) : Int := n.tdiv (Int.gcd n d)
def qD (n d : Int) : Int := d / (Int.gcd n d)
def mkOk (n d : Int) : Bool := frB (qN n d) (qD n d)
def mkFr (n d : Int) : Int × Int := if mkOk n d then (qN n d, qD n d) else (0, 0)
def frV (a : Int × Int) : Value := .agg #[.int .i64 a.1, .int .i64 a.2]
theorem frV_mk (n d : Int) : Value.agg #[.int .i64 n, .int .i64 d] = frV (n, d) := rfl
theorem gcd_pos (n d : Int) (h : 1 ≤ d) : 1 ≤ (Int.gcd n d : Int) := by
  have : 0 < Int.gcd n d := Int.gcd_pos_of_ne_zero_right n (by omega)
  omega
theorem gcd_le (n d : Int) (h : 1 ≤ d) : (Int.gcd n d : Int) ≤ d := Int.le_of_dvd (by omega) (Int.gcd_dvd_right ..)
theorem gcd_abs (n d : Int) : Int.gcd n.natAbs d = Int.gcd n d := by simp [Int.gcd]
theorem tdiv_bound (n g : Int) (hg : 1 ≤ g) (h1 : -9223372036854775807 ≤ n) (h2 : n ≤ 9223372036854775807) : -9223372036854775807 ≤ n.tdiv g ∧ n.tdiv g ≤ 9223372036854775807 := by
  have h := Int.natAbs_tdiv_le_natAbs n g
  omega

def mkV (n d : Int) (b : Bool) : Value := if b then .agg #[.int .i64 (qN n d), .int .i64 (qD n d)] else .agg #[.int .i64 0, .int .i64 0]
set_option maxHeartbeats 1000000 in
theorem makeFrac_true (w : World) (n d : Int) (hd : 1 ≤ d) (hd2 : d ≤ 9223372036854775807) (h1 : -9223372036854775807 ≤ n) (h2 : n ≤ 9223372036854775807) (hok : mkOk n d = true) :
    Calls Try.prog 61 #[.int .i64 n, .int .i64 d] w fun e w' => e = .returned (.tuple #[mkV n d true, .bool true]) ∧ Below w.heap.size w w' := by
  have hg1 := gcd_pos n d hd
  have hg2 := gcd_le n d hd
  obtain ⟨g, hg⟩ : ∃ g : Int, (Int.gcd n d : Int) = g := ⟨_, rfl⟩
  have hmv : mkV n d true = if true then .agg #[.int .i64 (n.tdiv g), .int .i64 (d / g)] else .agg #[.int .i64 0, .int .i64 0] := by rw [← hg]; rfl
  rw [hmv]
  rw [hg] at hg1 hg2
  have hb := tdiv_bound n g hg1 h1 h2
  have hq1 := hb.1
  have hq2 := hb.2
  have hz : (g == 0) = false := by simp; omega
  have HE : Hid ((Int.gcd n.natAbs d : Int) = g) := by rw [gcd_abs]; exact hg
  have hfb : Hid (frB (n.tdiv g) (d / g) = true) := by rw [← hg]; exact hok
  clear hg hb hok hmv
  go_enter Try.func61, Try.ntmps61
  go_wp2_with (first
    | (go_at_call 89; refine (size_any _ _ (by omega) (by omega)).mono ?_; rintro e w' ⟨rfl, rfl⟩; dsimp only)
    | (go_at_call 88; refine (divisor_any _ _ _ (by omega) (by omega) (by omega) (by omega)).mono ?_; rintro e w' ⟨rfl, ⟨m, rfl⟩⟩; rw [HE.out]; dsimp only))
  go_region
  go_wp2_with (go_at_call 90; refine (isFrac_any _ _ _).mono ?_; rintro e w2 ⟨rfl, hb⟩; rw [hfb.out]; obtain ⟨hc, hf⟩ := bcell hb; have hz := hb.size; (try simp at hz); dsimp only)
  have B0 : Below w.heap.size w w2 := Below.trans (by repeat (first | exact Below.refl _ _ | apply Below.drew | apply below_drewN | refine Below.alloc ?_ (by first | (simp; done) | (simp; omega)) _)) (hb.mono (by first | (simp; done) | (simp; omega)))
  have k0 : w2.cell? ⟨w.heap.size, 0, none⟩ = some (.int .i64 0) := by rw [hc _ _ (by first | (simp; done) | (simp; omega))]; simp [go_sem]
  have k1 : w2.cell? ⟨w.heap.size, 1, none⟩ = some (.int .i64 0) := by rw [hc _ _ (by first | (simp; done) | (simp; omega))]; simp [go_sem]
  have r0 := stored2 (x := (if true then .int .i64 (n.tdiv g) else .int .i64 0)) (y := (if true then .int .i64 (d / g) else .int .i64 0)) k0 k1
  simp only [Bool.false_eq_true, if_true, if_false] at r0
  exact bodyPost_ret (v := .tuple #[if true then .agg #[.int .i64 (n.tdiv g), .int .i64 (d / g)] else .agg #[.int .i64 0, .int .i64 0], .bool true]) (by simp [results, Try.results61, go_sem, r0.1, r0.2]) rfl ⟨rfl, by repeat (first | exact B0 | refine Below.setCell ?_ (by simp) _)⟩
set_option maxHeartbeats 1000000 in
theorem makeFrac_false (w : World) (n d : Int) (hd : 1 ≤ d) (hd2 : d ≤ 9223372036854775807) (h1 : -9223372036854775807 ≤ n) (h2 : n ≤ 9223372036854775807) (hok : mkOk n d = false) :
    Calls Try.prog 61 #[.int .i64 n, .int .i64 d] w fun e w' => e = .returned (.tuple #[mkV n d false, .bool false]) ∧ Below w.heap.size w w' := by
  have hg1 := gcd_pos n d hd
  have hg2 := gcd_le n d hd
  obtain ⟨g, hg⟩ : ∃ g : Int, (Int.gcd n d : Int) = g := ⟨_, rfl⟩
  have hmv : mkV n d false = if false then .agg #[.int .i64 (n.tdiv g), .int .i64 (d / g)] else .agg #[.int .i64 0, .int .i64 0] := by rw [← hg]; rfl
  rw [hmv]
  rw [hg] at hg1 hg2
  have hb := tdiv_bound n g hg1 h1 h2
  have hq1 := hb.1
  have hq2 := hb.2
  have hz : (g == 0) = false := by simp; omega
  have HE : Hid ((Int.gcd n.natAbs d : Int) = g) := by rw [gcd_abs]; exact hg
  have hfb : Hid (frB (n.tdiv g) (d / g) = false) := by rw [← hg]; exact hok
  clear hg hb hok hmv
  go_enter Try.func61, Try.ntmps61
  go_wp2_with (first
    | (go_at_call 89; refine (size_any _ _ (by omega) (by omega)).mono ?_; rintro e w' ⟨rfl, rfl⟩; dsimp only)
    | (go_at_call 88; refine (divisor_any _ _ _ (by omega) (by omega) (by omega) (by omega)).mono ?_; rintro e w' ⟨rfl, ⟨m, rfl⟩⟩; rw [HE.out]; dsimp only))
  go_region
  go_wp2_with (go_at_call 90; refine (isFrac_any _ _ _).mono ?_; rintro e w2 ⟨rfl, hb⟩; rw [hfb.out]; obtain ⟨hc, hf⟩ := bcell hb; have hz := hb.size; (try simp at hz); dsimp only)
  have B0 : Below w.heap.size w w2 := Below.trans (by repeat (first | exact Below.refl _ _ | apply Below.drew | apply below_drewN | refine Below.alloc ?_ (by first | (simp; done) | (simp; omega)) _)) (hb.mono (by first | (simp; done) | (simp; omega)))
  have k0 : w2.cell? ⟨w.heap.size, 0, none⟩ = some (.int .i64 0) := by rw [hc _ _ (by first | (simp; done) | (simp; omega))]; simp [go_sem]
  have k1 : w2.cell? ⟨w.heap.size, 1, none⟩ = some (.int .i64 0) := by rw [hc _ _ (by first | (simp; done) | (simp; omega))]; simp [go_sem]
  have r0 := stored2 (x := (if false then .int .i64 (n.tdiv g) else .int .i64 0)) (y := (if false then .int .i64 (d / g) else .int .i64 0)) k0 k1
  simp only [Bool.false_eq_true, if_true, if_false] at r0
  exact bodyPost_ret (v := .tuple #[if false then .agg #[.int .i64 (n.tdiv g), .int .i64 (d / g)] else .agg #[.int .i64 0, .int .i64 0], .bool false]) (by simp [results, Try.results61, go_sem, r0.1, r0.2]) rfl ⟨rfl, by repeat (first | exact B0 | refine Below.setCell ?_ (by simp) _)⟩
set_option maxHeartbeats 1000000 in
theorem l2Make_true (w : World) (n d : Int) (hd : 1 ≤ d) (hd2 : d ≤ 9223372036854775807) (h1 : -9223372036854775807 ≤ n) (h2 : n ≤ 9223372036854775807) (hok : mkOk n d = true) :
    Calls Try.prog 55 #[.int .i64 n, .int .i64 d] w fun e w' => e = .returned (.tuple #[mkV n d true, .bool true]) ∧ Below w.heap.size w w' := by
  have hg1 := gcd_pos n d hd
  have hg2 := gcd_le n d hd
  obtain ⟨g, hg⟩ : ∃ g : Int, (Int.gcd n d : Int) = g := ⟨_, rfl⟩
  have hmv : mkV n d true = if true then .agg #[.int .i64 (n.tdiv g), .int .i64 (d / g)] else .agg #[.int .i64 0, .int .i64 0] := by rw [← hg]; rfl
  rw [hmv]
  rw [hg] at hg1 hg2
  have hb := tdiv_bound n g hg1 h1 h2
  have hq1 := hb.1
  have hq2 := hb.2
  have hz : (g == 0) = false := by simp; omega
  have HE : Hid ((Int.gcd n.natAbs d : Int) = g) := by rw [gcd_abs]; exact hg
  have hfb : Hid (frB (n.tdiv g) (d / g) = true) := by rw [← hg]; exact hok
  clear hg hb hok hmv
  go_enter Try.func55, Try.ntmps55
  go_wp2_with (first
    | (go_at_call 81; refine (l2Abs_any _ _ (by omega) (by omega)).mono ?_; rintro e w' ⟨rfl, rfl⟩; dsimp only)
    | (go_at_call 80; refine (l2Gcd_any _ _ _ (by omega) (by omega) (by omega) (by omega)).mono ?_; rintro e w' ⟨rfl, ⟨m, rfl⟩⟩; rw [HE.out]; dsimp only))
  go_region
  go_wp2_with (go_at_call 82; refine (l2Good_any _ _ _).mono ?_; rintro e w2 ⟨rfl, hb⟩; rw [hfb.out]; obtain ⟨hc, hf⟩ := bcell hb; have hz := hb.size; (try simp at hz); dsimp only)
  have B0 : Below w.heap.size w w2 := Below.trans (by repeat (first | exact Below.refl _ _ | apply Below.drew | apply below_drewN | refine Below.alloc ?_ (by first | (simp; done) | (simp; omega)) _)) (hb.mono (by first | (simp; done) | (simp; omega)))
  have k0 : w2.cell? ⟨w.heap.size, 0, none⟩ = some (.int .i64 0) := by rw [hc _ _ (by first | (simp; done) | (simp; omega))]; simp [go_sem]
  have k1 : w2.cell? ⟨w.heap.size, 1, none⟩ = some (.int .i64 0) := by rw [hc _ _ (by first | (simp; done) | (simp; omega))]; simp [go_sem]
  have r0 := stored2 (x := (if true then .int .i64 (n.tdiv g) else .int .i64 0)) (y := (if true then .int .i64 (d / g) else .int .i64 0)) k0 k1
  simp only [Bool.false_eq_true, if_true, if_false] at r0
  exact bodyPost_ret (v := .tuple #[if true then .agg #[.int .i64 (n.tdiv g), .int .i64 (d / g)] else .agg #[.int .i64 0, .int .i64 0], .bool true]) (by simp [results, Try.results55, go_sem, r0.1, r0.2]) rfl ⟨rfl, by repeat (first | exact B0 | refine Below.setCell ?_ (by simp) _)⟩
set_option maxHeartbeats 1000000 in
theorem l2Make_false (w : World) (n d : Int) (hd : 1 ≤ d) (hd2 : d ≤ 9223372036854775807) (h1 : -9223372036854775807 ≤ n) (h2 : n ≤ 9223372036854775807) (hok : mkOk n d = false) :
    Calls Try.prog 55 #[.int .i64 n, .int .i64 d] w fun e w' => e = .returned (.tuple #[mkV n d false, .bool false]) ∧ Below w.heap.size w w' := by
  have hg1 := gcd_pos n d hd
  have hg2 := gcd_le n d hd
  obtain ⟨g, hg⟩ : ∃ g : Int, (Int.gcd n d : Int) = g := ⟨_, rfl⟩
  have hmv : mkV n d false = if false then .agg #[.int .i64 (n.tdiv g), .int .i64 (d / g)] else .agg #[.int .i64 0, .int .i64 0] := by rw [← hg]; rfl
  rw [hmv]
  rw [hg] at hg1 hg2
  have hb := tdiv_bound n g hg1 h1 h2
  have hq1 := hb.1
  have hq2 := hb.2
  have hz : (g == 0) = false := by simp; omega
  have HE : Hid ((Int.gcd n.natAbs d : Int) = g) := by rw [gcd_abs]; exact hg
  have hfb : Hid (frB (n.tdiv g) (d / g) = false) := by rw [← hg]; exact hok
  clear hg hb hok hmv
  go_enter Try.func55, Try.ntmps55
  go_wp2_with (first
    | (go_at_call 81; refine (l2Abs_any _ _ (by omega) (by omega)).mono ?_; rintro e w' ⟨rfl, rfl⟩; dsimp only)
    | (go_at_call 80; refine (l2Gcd_any _ _ _ (by omega) (by omega) (by omega) (by omega)).mono ?_; rintro e w' ⟨rfl, ⟨m, rfl⟩⟩; rw [HE.out]; dsimp only))
  go_region
  go_wp2_with (go_at_call 82; refine (l2Good_any _ _ _).mono ?_; rintro e w2 ⟨rfl, hb⟩; rw [hfb.out]; obtain ⟨hc, hf⟩ := bcell hb; have hz := hb.size; (try simp at hz); dsimp only)
  have B0 : Below w.heap.size w w2 := Below.trans (by repeat (first | exact Below.refl _ _ | apply Below.drew | apply below_drewN | refine Below.alloc ?_ (by first | (simp; done) | (simp; omega)) _)) (hb.mono (by first | (simp; done) | (simp; omega)))
  have k0 : w2.cell? ⟨w.heap.size, 0, none⟩ = some (.int .i64 0) := by rw [hc _ _ (by first | (simp; done) | (simp; omega))]; simp [go_sem]
  have k1 : w2.cell? ⟨w.heap.size, 1, none⟩ = some (.int .i64 0) := by rw [hc _ _ (by first | (simp; done) | (simp; omega))]; simp [go_sem]
  have r0 := stored2 (x := (if false then .int .i64 (n.tdiv g) else .int .i64 0)) (y := (if false then .int .i64 (d / g) else .int .i64 0)) k0 k1
  simp only [Bool.false_eq_true, if_true, if_false] at r0
  exact bodyPost_ret (v := .tuple #[if false then .agg #[.int .i64 (n.tdiv g), .int .i64 (d / g)] else .agg #[.int .i64 0, .int .i64 0], .bool false]) (by simp [results, Try.results55, go_sem, r0.1, r0.2]) rfl ⟨rfl, by repeat (first | exact B0 | refine Below.setCell ?_ (by simp) _)⟩
theorem mkV_eq (n d : Int) : mkV n d (mkOk n d) = frV (mkFr n d) := by
  unfold mkV mkFr frV
  cases mkOk n d <;> rfl
theorem makeFrac_any (w : World) (n d : Int) (hd : 1 ≤ d) (hd2 : d ≤ 9223372036854775807) (h1 : -9223372036854775807 ≤ n) (h2 : n ≤ 9223372036854775807) :
    Calls Try.prog 61 #[.int .i64 n, .int .i64 d] w fun e w' => e = .returned (.tuple #[frV (mkFr n d), .bool (mkOk n d)]) ∧ Below w.heap.size w w' := by
  rw [← mkV_eq]
  cases h : mkOk n d
  · exact makeFrac_false w n d hd hd2 h1 h2 h
  · exact makeFrac_true w n d hd hd2 h1 h2 h
theorem l2Make_any (w : World) (n d : Int) (hd : 1 ≤ d) (hd2 : d ≤ 9223372036854775807) (h1 : -9223372036854775807 ≤ n) (h2 : n ≤ 9223372036854775807) :
    Calls Try.prog 55 #[.int .i64 n, .int .i64 d] w fun e w' => e = .returned (.tuple #[frV (mkFr n d), .bool (mkOk n d)]) ∧ Below w.heap.size w w' := by
  rw [← mkV_eq]
  cases h : mkOk n d
  · exact l2Make_false w n d hd hd2 h1 h2 h
  · exact l2Make_true w n d hd hd2 h1 h2 h

/-! ### a result that is a fraction and a bool: its block, kept from call to call, and stored at the end -/
/-- block b holds a fraction that is still zero -/
def FrBox (w : World) (b : Nat) : Prop := w.heap[b]? = some (.cells #[.int .i64 0, .int .i64 0] 49 (0, 0))
theorem FrBox.new (w : World) : FrBox (w.alloc (.cells #[.int .i64 0, .int .i64 0] 49)) w.heap.size := heap_alloc_new w _
theorem FrBox.lt {w : World} {b : Nat} (h : FrBox w b) : b < w.heap.size := (Array.getElem?_eq_some_iff.1 h).1
theorem FrBox.next {w w' : World} {b : Nat} (h : FrBox w b) (hb : Below w.heap.size w w') : FrBox w' b := (hb.block b h.lt).trans h
theorem FrBox.drewN {w : World} {b : Nat} (h : FrBox w b) (n : Nat) : FrBox (w.drewN n) b := h
theorem FrBox.alloc {w : World} {b : Nat} (h : FrBox w b) (o : Obj) : FrBox (w.alloc o) b := (Below.heap_alloc w o b h.lt).trans h
theorem FrBox.cells {w : World} {b : Nat} (h : FrBox w b) : (w.cell? ⟨b, 0, none⟩ = some (.int .i64 0) ∧ w.cell? ⟨b, 1, none⟩ = some (.int .i64 0)) ∧ w.frozen? ⟨b, 0, none⟩ = false ∧ w.frozen? ⟨b, 1, none⟩ = false :=
  ⟨⟨cell_of_row w b 0 _ _ _ h, cell_of_row w b 1 _ _ _ h⟩, frozen_of_row w b 0 _ _ h, frozen_of_row w b 1 _ _ h⟩
end Go.Proofs.Ytjleohbjanlamaa
