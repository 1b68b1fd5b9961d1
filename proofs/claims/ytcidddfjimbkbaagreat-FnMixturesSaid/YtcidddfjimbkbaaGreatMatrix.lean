/- Is a list a matrix: by the program's and the reference's functions. Conditions: none. -/
import Derived.Test.YtcidddfjimbkbaaGreatSums
set_option linter.all false
set_option linter.unusedSimpArgs false
set_option linter.unusedVariables false
namespace Go.Proofs.YtcidddfjimbkbaaGreat
open Go.RowKit

def areInB (r : List Int) (many lo hi : Int) : Bool := rng r.length 1 many && allIn lo hi r
def rowB (n : Nat) (r : List Int) : Bool := (r.length == n) && areInB r 3 0 40
def headLen (m : List (List Int)) : Nat := (m.headD []).length
def matB (m : List (List Int)) : Bool := rng m.length 1 3 && m.all (rowB (headLen m))

theorem enters_areIn : Enters Tryz.prog 147 := fun _ _ => by kernel_rfl
theorem areIn1_any (w : World) (a b : Addr) (x lo hi : Int) (hc : w.cell? a = some (.int .i64 lo)) (hd : w.cell? b = some (.int .i64 hi)) :
    Calls Tryz.prog 147 (#[.int .i64 x] ++ #[.pointer (some a), .pointer (some b)]) w fun e w' => e = .returned (.bool (!rng x lo hi)) ∧ Below w.heap.size w w' := by
  simp only [List.push_toArray, List.append_toArray, List.cons_append, List.nil_append]
  go_enter Tryz.func147, Tryz.ntmps147
  go_wp2_with (go_at_call 79; refine (within_any _ _ _ _).mono ?_; rintro e w' ⟨rfl, rfl⟩; dsimp only)
  go_ret
  exact ⟨rfl, Below.refl _ _⟩
theorem not_any_not (lo hi : Int) (xs : List Int) : (!xs.any fun x => !rng x lo hi) = allIn lo hi xs := by
  unfold allIn
  rw [List.any_eq_not_all_not]
  simp

theorem areIn_any (w : World) (u : Value) (xs : List Int) (many lo hi : Int) (hx : SlI w u xs) :
    Calls Tryz.prog 120 #[u, .int .i64 many, .int .i64 lo, .int .i64 hi] w fun e w' => e = .returned (.bool (areInB xs many lo hi)) ∧ Below w.heap.size w w' := by
  have hlen := hx.len
  have hb : Below w.heap.size w ((w.alloc (.cells #[.int .i64 lo] 3)).alloc (.cells #[.int .i64 hi] 3)) := by repeat (first | exact Below.refl _ _ | apply Below.drew | refine Below.setCell ?_ (by first | (simp; done) | (simp; omega)) _ | refine Below.alloc ?_ (by first | (simp; done) | (simp; omega)) _)
  have H := hide (containsFuncI_any ((w.alloc (.cells #[.int .i64 lo] 3)).alloc (.cells #[.int .i64 hi] 3)) u xs 147 #[.pointer (some ⟨w.heap.size, 0, none⟩), .pointer (some ⟨w.heap.size + 1, 0, none⟩)] (fun x => !rng x lo hi) enters_areIn (hx.below hb) (fun W hW j hj v hv => by
    subst hv
    exact areIn1_any W _ _ _ lo hi (cell_of_below hW (by simp [go_sem])) (cell_of_below hW (by simp [go_sem]))))
  have HN := hide (not_any_not lo hi xs)
  obtain ⟨A, c, rfl, _, _, _⟩ := hx.view
  cases hr : rng xs.length 1 many
  · have HR := hide hr
    have HP : Hid (areInB xs many lo hi = false) := by show areInB xs many lo hi = false; unfold areInB; rw [hr]; rfl
    clear hx hr
    rw [HP.out]
    go_enter Tryz.func120, Tryz.ntmps120
    go_wp2_with (go_at_call 79; refine (within_any _ _ _ _).mono ?_; rintro e w' ⟨rfl, rfl⟩; rw [HR.out]; dsimp only)
    go_ret
    exact ⟨rfl, hb⟩
  · have HR := hide hr
    have HP : Hid (areInB xs many lo hi = allIn lo hi xs) := by show areInB xs many lo hi = _; unfold areInB; rw [hr]; simp
    clear hx hr
    go_enter Tryz.func120, Tryz.ntmps120
    go_wp2_with (first
      | (go_at_call 79; refine (within_any _ _ _ _).mono ?_; rintro e w' ⟨rfl, rfl⟩; rw [HR.out]; dsimp only)
      | ((with_reducible refine H.out.mono ?_); rintro e w2 ⟨rfl, hb2⟩; dsimp only))
    go_ret
    exact ⟨by rw [HP.out, ← HN.out]; rfl, hb.trans (hb2.mono (by simp; omega))⟩

theorem enters_isMatrix : Enters Tryz.prog 119 := fun _ _ => by kernel_rfl
theorem isMatrix1_any (w : World) (a : Addr) (u v : Value) (r0 r : List Int) (m : List (List Int)) (hc : w.cell? a = some u) (hu : SlII w u (r0 :: m)) (hv : SlI w v r) :
    Calls Tryz.prog 119 (#[v] ++ #[.pointer (some a)]) w fun e w' => e = .returned (.bool (!rowB r0.length r)) ∧ Below w.heap.size w w' := by
  obtain ⟨A, c, rfl, hc1, hc2, hcell⟩ := SlO.view hu
  obtain ⟨ad, v0, rfl, hcv, hr0⟩ := hcell 0 (by simp)
  obtain ⟨A0, c0, rfl, _, _, _⟩ := SlI.view hr0
  have hcv' : w.cell? ad = some (.slice A0 r0.length c0) := hcv
  have hl0 := SlI.len hr0
  have hlv := hv.len
  obtain ⟨n, hn⟩ : ∃ n, (r0 :: m).length = n := ⟨_, rfl⟩
  have hn0 : 0 < n := by rw [← hn]; simp
  have H := hide (areIn_any w v r 3 0 40 hv)
  obtain ⟨A1, c1, rfl, _, _, _⟩ := hv.view
  rw [hn] at hc hc1
  simp only [List.push_toArray, List.append_toArray, List.cons_append, List.nil_append]
  clear hu hcell hcv hr0 hv hn
  by_cases hl : r.length = r0.length
  · have hq : ((r.length : Int) != (r0.length : Int)) = false := by simp [hl]
    have HP : Hid ((!rowB r0.length r) = !areInB r 3 0 40) := by show (!rowB r0.length r) = _; unfold rowB; rw [hl]; simp
    clear hl
    rw [HP.out]
    go_enter Tryz.func119, Tryz.ntmps119
    go_wp2_with ((with_reducible refine H.out.mono ?_); rintro e w2 ⟨rfl, hb2⟩; dsimp only)
    go_ret
    exact ⟨rfl, hb2⟩
  · have hq : ((r.length : Int) != (r0.length : Int)) = true := by simp; omega
    have HP : Hid ((!rowB r0.length r) = true) := by show (!rowB r0.length r) = _; unfold rowB; simp [hl]
    rw [HP.out]
    go_enter Tryz.func119, Tryz.ntmps119
    go_wp2_with fail
    go_ret
    exact ⟨rfl, Below.refl _ _⟩

theorem isMatrix_any (w : World) (u : Value) (m : List (List Int)) (hx : SlII w u m) :
    Calls Tryz.prog 59 #[u] w fun e w' => e = .returned (.bool (matB m)) ∧ Below w.heap.size w w' := by
  have hlen := SlO.len hx
  have hb : Below w.heap.size w (w.alloc (.cells #[u] 24)) := by repeat (first | exact Below.refl _ _ | apply Below.drew | refine Below.setCell ?_ (by first | (simp; done) | (simp; omega)) _ | refine Below.alloc ?_ (by first | (simp; done) | (simp; omega)) _)
  have HC : Hid (m.length ≠ 0 → Calls Tryz.prog 83 #[u, .func (.func 119) #[] #[.pointer (some ⟨w.heap.size, 0, none⟩)]] (w.alloc (.cells #[u] 24)) fun e w' => e = .returned (.bool (m.any fun r => !rowB (headLen m) r)) ∧ Below (w.alloc (.cells #[u] 24)).heap.size (w.alloc (.cells #[u] 24)) w') := by
    intro hne
    cases m with
    | nil => exact absurd rfl hne
    | cons r0 m =>
      exact containsFuncII_any (w.alloc (.cells #[u] 24)) u (r0 :: m) 119 #[.pointer (some ⟨w.heap.size, 0, none⟩)] (fun r => !rowB r0.length r) enters_isMatrix (SlII.below hx hb) (fun W hW j hj v hv => isMatrix1_any W _ u v r0 _ m (cell_of_below hW (by simp [go_sem])) (SlII.below (SlII.below hx hb) hW) (SlI.below hv hW))
  obtain ⟨A, c, rfl, _, _, _⟩ := SlO.view hx
  cases hr : rng m.length 1 3
  · have HR := hide hr
    have HP : Hid (matB m = false) := by show matB m = false; unfold matB; rw [hr]; rfl
    clear hx hr
    rw [HP.out]
    go_enter Tryz.func59, Tryz.ntmps59
    go_wp2_with (go_at_call 79; refine (within_any _ _ _ _).mono ?_; rintro e w' ⟨rfl, rfl⟩; rw [HR.out]; dsimp only)
    go_ret
    exact ⟨rfl, hb⟩
  · have HR := hide hr
    have hne : m.length ≠ 0 := by have := rng_iff.1 hr; omega
    have H := hide (HC.out hne)
    have HP : Hid (matB m = !(m.any fun r => !rowB (headLen m) r)) := by
      show matB m = _
      unfold matB
      rw [hr, List.any_eq_not_all_not]
      simp
    clear hx hr hne HC
    go_enter Tryz.func59, Tryz.ntmps59
    go_wp2_with (first
      | (go_at_call 79; refine (within_any _ _ _ _).mono ?_; rintro e w' ⟨rfl, rfl⟩; rw [HR.out]; dsimp only)
      | ((with_reducible refine H.out.mono ?_); rintro e w2 ⟨rfl, hb2⟩; dsimp only))
    go_ret
    exact ⟨by rw [HP.out]; rfl, hb.trans (hb2.mono (by simp))⟩
end Go.Proofs.YtcidddfjimbkbaaGreat
