/- Records encoded, by the program's and the reference's functions. Conditions: those that each names. -/
import Derived.Test.YtcllhjdohiklkaaDoorSeal
set_option linter.all false
set_option linter.unusedSimpArgs false
set_option linter.unusedVariables false
namespace Go.Proofs.YtcllhjdohiklkaaDoor
open Go.Shelf Go.RowKit

set_option maxHeartbeats 2000000 in
theorem l1Seal_any (s : ByteArray) (hs : s.size ≤ 3900) (w : World) : Calls Tryd.prog 16 #[.string s] w fun e w' => e = .returned (.string (sealB s)) ∧ Qt w w' := by
  obtain ⟨n, h1, h2⟩ := chk_nat s.data.toList
  have hn := numB_size (n := n) (by omega)
  have hK : ∀ W, Calls Tryd.prog 22 #[.string s] W fun e w' => e = .returned (.int .i64 n) ∧ w' = W := fun W => by
    have := l1Sum_any s (by omega) W
    rw [h1] at this
    exact this
  have e0 : sealB s = (s ++ ⟨#[35]⟩) ++ numB n := by unfold sealB; rw [h1, Int.toNat_natCast]
  rw [e0]
  have a1 := cat_any s ⟨#[35]⟩ (by show _ + 1 ≤ _; omega)
  have a2 := cat_any (s ++ ⟨#[35]⟩) (numB n) (by rw [cat_size]; show _ + 1 + _ ≤ _; omega)
  have hD := l1Num_any n (by omega) w
  clear e0 h1
  go_enter Tryd.func16, Tryd.ntmps16
  go_wp2_with (first
    | (go_at_call 22; refine (hK _).mono ?_; rintro e w' ⟨rfl, rfl⟩)
    | (go_at_call 17; refine hD.mono ?_; rintro e w' ⟨rfl, hb⟩))
  go_ret
  exact ⟨rfl, by assumption⟩
set_option maxHeartbeats 2000000 in
theorem l12Line_any (k : Nat) (hk : k ≤ 59) (c r : ByteArray) (h : recB c r = true) (w : World) : Calls Tryd.prog 10 #[.int .i64 k, .agg #[.string c, .string r]] w fun e w' => e = .returned (.string (lineB k c r)) ∧ Below w.heap.size w w' := by
  obtain ⟨p1, p2, p3, p4⟩ := rec_ok h
  have hn := numB_size (n := k) (by omega)
  have z1 : (numB k ++ ⟨#[32]⟩).size ≤ 22 := by rw [cat_size]; show _ + 1 ≤ _; omega
  have z2 : ((numB k ++ ⟨#[32]⟩) ++ c).size ≤ 182 := by rw [cat_size]; omega
  have z3 : (((numB k ++ ⟨#[32]⟩) ++ c) ++ ⟨#[64]⟩).size ≤ 183 := by rw [cat_size]; show _ + 1 ≤ _; omega
  have z4 : ((((numB k ++ ⟨#[32]⟩) ++ c) ++ ⟨#[64]⟩) ++ r).size ≤ 383 := by rw [cat_size]; omega
  have a1 := cat_any (numB k) ⟨#[32]⟩ (by show _ + 1 ≤ _; omega)
  have a2 := cat_any (numB k ++ ⟨#[32]⟩) c (by omega)
  have a3 := cat_any ((numB k ++ ⟨#[32]⟩) ++ c) ⟨#[64]⟩ (by show _ + 1 ≤ _; omega)
  have a4 := cat_any (((numB k ++ ⟨#[32]⟩) ++ c) ++ ⟨#[64]⟩) r (by omega)
  have z5 := seal_size ((((numB k ++ ⟨#[32]⟩) ++ c) ++ ⟨#[64]⟩) ++ r)
  have a5 := cat_any (sealB ((((numB k ++ ⟨#[32]⟩) ++ c) ++ ⟨#[64]⟩) ++ r)) ⟨#[10]⟩ (by show _ + 1 ≤ _; omega)
  obtain ⟨W, hW⟩ : ∃ W, (w.alloc (.cells #[.string c, .string r] 27)) = W := ⟨_, rfl⟩
  have hB : Below w.heap.size w W := by rw [← hW]; exact by repeat (first | exact Below.refl _ _ | apply Below.drew | refine Below.setCell ?_ (by first | (simp; done) | (simp; omega)) _ | refine Below.alloc ?_ (by first | (simp; done) | (simp; omega)) _)
  have c1 : W.cell? ⟨w.heap.size, 0, none⟩ = some (.string c) := by rw [← hW]; simp [go_sem]
  have c2 : W.cell? ⟨w.heap.size, 1, none⟩ = some (.string r) := by rw [← hW]; simp [go_sem]
  have cA := fun d os => Calls.regrown_of (w := W) (d := d) (os := os) ((l1Seal_any ((((numB k ++ ⟨#[32]⟩) ++ c) ++ ⟨#[64]⟩) ++ r) (by omega) _).mono fun _ _ h => ⟨h.1, h.2.below _⟩)
  have cD := fun d os => Calls.regrown_of (w := W) (d := d) (os := os) ((l1Num_any k (by omega) _).mono fun _ _ h => ⟨h.1, h.2.below _⟩)
  have d1 := fun d os => cell_regrown c1 d os
  have d2 := fun d os => cell_regrown c2 d os
  clear p1 p2 z1 z2 z3 z4 z5 hn h
  go_enter Tryd.func10, Tryd.ntmps10
  go_wp2_with fail
  refine wp_region_quiet_below (by kernel_rfl) (by kernel_rfl) ?_
  repeat (go_big_quiet_step ((first | (go_at_call 16; exact cA _ _) | (go_at_call 17; exact cD _ _))))
  refine wpQuiet_nil ?_
  intro _ hw'
  obtain ⟨⟨dq, osq⟩, hw''⟩ := hw'
  subst hw''
  go_wp2
  go_ret
  exact ⟨rfl, hB.trans ((below_regrown W dq osq).mono hB.size)⟩
def encB (k : Int) (c r : ByteArray) : Bool := rng k 0 59 && recB c r
def encS (k : Int) (c r : ByteArray) : ByteArray := if encB k c r = true then lineB k.toNat c r else ⟨#[]⟩
set_option maxHeartbeats 4000000 in
theorem implEnc_any (k : Int) (c r : ByteArray) (hc : c.size ≤ 1048576) (hr : r.size ≤ 1048576) (w : World) (ht : Tab w) : Calls Tryd.prog 7 #[.int .i64 k, .agg #[.string c, .string r]] w fun e w' => e = .returned (.tuple #[.string (encS k c r), .bool (encB k c r)]) ∧ Below w.heap.size w w' := by
  obtain ⟨W, hW⟩ : ∃ W, (w.alloc (.cells #[.string c, .string r] 27)) = W := ⟨_, rfl⟩
  have hB : Below w.heap.size w W := by rw [← hW]; exact by repeat (first | exact Below.refl _ _ | apply Below.drew | refine Below.setCell ?_ (by first | (simp; done) | (simp; omega)) _ | refine Below.alloc ?_ (by first | (simp; done) | (simp; omega)) _)
  have c1 : W.cell? ⟨w.heap.size, 0, none⟩ = some (.string c) := by rw [← hW]; simp [go_sem]
  have c2 : W.cell? ⟨w.heap.size, 1, none⟩ = some (.string r) := by rw [← hW]; simp [go_sem]
  have htW := ht.below hB
  have hV := implRecord_any c r hc hr W
  unfold encS encB
  cases h1 : rng k 0 59
  · go_enter Tryd.func7, Tryd.ntmps7
    go_wp2_with (go_at_call 11; refine (within_any _ _ _ _).mono ?_; rintro e w' ⟨rfl, rfl⟩; rw [h1]; dsimp only)
    go_ret2
    exact ⟨rfl, hB⟩
  · have hk : 0 ≤ k ∧ k ≤ 59 := by simpa [rng] using h1
    obtain ⟨n, rfl⟩ : ∃ n : Nat, k = (n : Int) := ⟨k.toNat, by omega⟩
    cases h2 : recB c r
    · rw [h2] at hV
      go_enter Tryd.func7, Tryd.ntmps7
      go_wp2_with (first
        | (go_at_call 11; refine (within_any _ _ _ _).mono ?_; rintro e w' ⟨rfl, rfl⟩; rw [h1]; dsimp only)
        | (go_at_call 12; refine hV.mono ?_; rintro e w2 ⟨rfl, hb2⟩))
      go_ret2
      exact ⟨rfl, hB.trans (hb2.mono hB.size)⟩
    · rw [h2] at hV
      go_enter Tryd.func7, Tryd.ntmps7
      go_wp2_with (go_at_call 11; refine (within_any _ _ _ _).mono ?_; rintro e w' ⟨rfl, rfl⟩; rw [h1]; dsimp only)
      refine hV.mono ?_
      rintro e w2 ⟨rfl, hb2⟩
      have c1 := (hb2.cell (block_lt c1)).trans c1
      have c2 := (hb2.cell (block_lt c2)).trans c2
      have hB2 := hB.trans (hb2.mono hB.size)
      have hE := encoded_any n (by omega) c r h2 w2 (htW.below hb2)
      dsimp only [Exit.then]
      go_wp2_with (go_at_call 13; refine hE.mono ?_; rintro e w3 ⟨rfl, hb3⟩)
      go_ret2
      exact ⟨rfl, hB2.trans (hb3.mono hB2.size)⟩
set_option maxHeartbeats 4000000 in
theorem specEnc_any (k : Int) (c r : ByteArray) (hc : c.size ≤ 1048576) (hr : r.size ≤ 1048576) (w : World) (ht : Tab w) : Calls Tryd.prog 5 #[.int .i64 k, .agg #[.string c, .string r]] w fun e w' => e = .returned (.tuple #[.string (encS k c r), .bool (encB k c r)]) ∧ Below w.heap.size w w' := by
  obtain ⟨W, hW⟩ : ∃ W, (w.alloc (.cells #[.string c, .string r] 27)) = W := ⟨_, rfl⟩
  have hB : Below w.heap.size w W := by rw [← hW]; exact by repeat (first | exact Below.refl _ _ | apply Below.drew | refine Below.setCell ?_ (by first | (simp; done) | (simp; omega)) _ | refine Below.alloc ?_ (by first | (simp; done) | (simp; omega)) _)
  have c1 : W.cell? ⟨w.heap.size, 0, none⟩ = some (.string c) := by rw [← hW]; simp [go_sem]
  have c2 : W.cell? ⟨w.heap.size, 1, none⟩ = some (.string r) := by rw [← hW]; simp [go_sem]
  have htW := ht.below hB
  have hV := l12Record_any c r hc hr W
  unfold encS encB
  cases h1 : rng k 0 59
  · go_enter Tryd.func5, Tryd.ntmps5
    go_wp2_with (go_at_call 8; refine (l1In_any _ _ _ _).mono ?_; rintro e w' ⟨rfl, rfl⟩; rw [h1]; dsimp only)
    go_ret2
    exact ⟨rfl, hB⟩
  · have hk : 0 ≤ k ∧ k ≤ 59 := by simpa [rng] using h1
    obtain ⟨n, rfl⟩ : ∃ n : Nat, k = (n : Int) := ⟨k.toNat, by omega⟩
    cases h2 : recB c r
    · rw [h2] at hV
      go_enter Tryd.func5, Tryd.ntmps5
      go_wp2_with (first
        | (go_at_call 8; refine (l1In_any _ _ _ _).mono ?_; rintro e w' ⟨rfl, rfl⟩; rw [h1]; dsimp only)
        | (go_at_call 9; refine hV.mono ?_; rintro e w2 ⟨rfl, hb2⟩))
      go_ret2
      exact ⟨rfl, hB.trans (hb2.mono hB.size)⟩
    · rw [h2] at hV
      go_enter Tryd.func5, Tryd.ntmps5
      go_wp2_with (go_at_call 8; refine (l1In_any _ _ _ _).mono ?_; rintro e w' ⟨rfl, rfl⟩; rw [h1]; dsimp only)
      refine hV.mono ?_
      rintro e w2 ⟨rfl, hb2⟩
      have c1 := (hb2.cell (block_lt c1)).trans c1
      have c2 := (hb2.cell (block_lt c2)).trans c2
      have hB2 := hB.trans (hb2.mono hB.size)
      have hE := l12Line_any n (by omega) c r h2 w2 
      dsimp only [Exit.then]
      go_wp2_with (go_at_call 10; refine hE.mono ?_; rintro e w3 ⟨rfl, hb3⟩)
      go_ret2
      exact ⟨rfl, hB2.trans (hb3.mono hB2.size)⟩
end Go.Proofs.YtcllhjdohiklkaaDoor
