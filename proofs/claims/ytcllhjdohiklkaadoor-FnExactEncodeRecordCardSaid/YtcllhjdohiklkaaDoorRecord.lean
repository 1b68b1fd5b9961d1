/- Whether a record is valid, by the program's and the reference's functions. Conditions: strings that a law allows. -/
import Derived.Test.YtcllhjdohiklkaaDoorContains
set_option linter.all false
set_option linter.unusedSimpArgs false
set_option linter.unusedVariables false
namespace Go.Proofs.YtcllhjdohiklkaaDoor
open Go.RowKit

def cmdB (s : ByteArray) : Bool := rng s.size 1 160 && (plainB s && !s.data.toList.any isAt)
def recB (c r : ByteArray) : Bool := cmdB c && (decide ((r.size : Int) ≤ 200) && plainB r)
set_option maxHeartbeats 2000000 in
theorem isCommand_any (s : ByteArray) (hs : s.size ≤ 1048576) (w : World) : Calls Tryd.prog 18 #[.string s] w fun e w' => e = .returned (.bool (cmdB s)) ∧ w' = w := by
  unfold cmdB
  cases h1 : rng s.size 1 160 <;> cases h2 : plainB s <;> cases h3 : s.data.toList.any isAt
  all_goals
    go_enter Tryd.func18, Tryd.ntmps18
    go_wp2_with (first
      | (go_at_call 11; refine (within_any _ _ _ _).mono ?_; rintro e w' ⟨rfl, rfl⟩; rw [h1]; dsimp only)
      | (go_at_call 19; refine (isPlain_any _ hs _).mono ?_; rintro e w' ⟨rfl, rfl⟩; rw [h2]; dsimp only)
      | (go_at_call 23; refine (contains_any _ _).mono ?_; rintro e w' ⟨rfl, rfl⟩; rw [h3]; dsimp only))
    go_ret
    exact ⟨rfl, rfl⟩
set_option maxHeartbeats 2000000 in
theorem implRecord_any (c r : ByteArray) (hc : c.size ≤ 1048576) (hr : r.size ≤ 1048576) (w : World) : Calls Tryd.prog 12 #[.agg #[.string c, .string r]] w fun e w' => e = .returned (.bool (recB c r)) ∧ Below w.heap.size w w' := by
  unfold recB
  by_cases h2 : (r.size : Int) ≤ 200
  · rw [decide_eq_true h2]
    cases h1 : cmdB c <;> cases h3 : plainB r
    all_goals
      go_enter Tryd.func12, Tryd.ntmps12
      go_wp2_with (first
        | (go_at_call 18; refine (isCommand_any _ hc _).mono ?_; rintro e w' ⟨rfl, rfl⟩; rw [h1]; dsimp only)
        | (go_at_call 19; refine (isPlain_any _ hr _).mono ?_; rintro e w' ⟨rfl, rfl⟩; rw [h3]; dsimp only))
      go_ret
      exact ⟨rfl, by repeat (first | exact Below.refl _ _ | apply Below.drew | refine Below.setCell ?_ (by first | (simp; done) | (simp; omega)) _ | refine Below.alloc ?_ (by first | (simp; done) | (simp; omega)) _)⟩
  · rw [decide_eq_false h2]
    cases h1 : cmdB c
    all_goals
      go_enter Tryd.func12, Tryd.ntmps12
      go_wp2_with (go_at_call 18; refine (isCommand_any _ hc _).mono ?_; rintro e w' ⟨rfl, rfl⟩; rw [h1]; dsimp only)
      go_ret
      exact ⟨rfl, by repeat (first | exact Below.refl _ _ | apply Below.drew | refine Below.setCell ?_ (by first | (simp; done) | (simp; omega)) _ | refine Below.alloc ?_ (by first | (simp; done) | (simp; omega)) _)⟩
set_option maxHeartbeats 2000000 in
theorem toRecord_any (c r : ByteArray) (w : World) : Calls Tryd.prog 6 #[.agg #[.string c, .string r]] w fun e w' => e = .returned (.agg #[.string c, .string r]) ∧ Below w.heap.size w w' := by
  go_enter Tryd.func6, Tryd.ntmps6
  go_wp2
  exact bodyPost_ret (v := .agg #[.string c, .string r]) (by simp [results, Tryd.results6, go_sem]) rfl ⟨rfl, by repeat (first | exact Below.refl _ _ | apply Below.drew | refine Below.setCell ?_ (by first | (simp; done) | (simp; omega)) _ | refine Below.alloc ?_ (by first | (simp; done) | (simp; omega)) _)⟩
def szR (c r : ByteArray) : Int := if (c.size : Int) + r.size ≤ 1048576 then 1048576 - c.size - r.size else -1
theorem szR_no {c r : ByteArray} (h : ¬ (c.size : Int) + r.size ≤ 1048576) : szR c r = -1 := if_neg h
theorem szR_yes {c r : ByteArray} (h : (c.size : Int) + r.size ≤ 1048576) : szR c r = 1048576 - c.size - r.size := if_pos h
set_option maxHeartbeats 2000000 in
theorem szRecord_any (c r : ByteArray) (hc : c.size ≤ 9223372036854775807) (hr : r.size ≤ 9223372036854775807) (w : World) : Calls Tryd.prog 4 #[.agg #[.string c, .string r], .int .i64 1048576] w fun e w' => e = .returned (.int .i64 (szR c r)) ∧ Below w.heap.size w w' := by
  by_cases h1 : (1048576 : Int) - c.size < 0
  · go_enter Tryd.func4, Tryd.ntmps4
    go_wp2
    go_ret
    exact ⟨by rw [szR_no (by omega)]; rfl, by repeat (first | exact Below.refl _ _ | apply Below.drew | refine Below.setCell ?_ (by first | (simp; done) | (simp; omega)) _ | refine Below.alloc ?_ (by first | (simp; done) | (simp; omega)) _)⟩
  · by_cases h2 : (1048576 : Int) - c.size - r.size < 0
    · go_enter Tryd.func4, Tryd.ntmps4
      go_wp2
      go_ret
      exact ⟨by rw [szR_no (by omega)]; rfl, by repeat (first | exact Below.refl _ _ | apply Below.drew | refine Below.setCell ?_ (by first | (simp; done) | (simp; omega)) _ | refine Below.alloc ?_ (by first | (simp; done) | (simp; omega)) _)⟩
    · go_enter Tryd.func4, Tryd.ntmps4
      go_wp2
      go_ret
      exact ⟨by rw [szR_yes (by omega)]; rfl, by repeat (first | exact Below.refl _ _ | apply Below.drew | refine Below.setCell ?_ (by first | (simp; done) | (simp; omega)) _ | refine Below.alloc ?_ (by first | (simp; done) | (simp; omega)) _)⟩
theorem nil_iff (c : ByteArray) : c.toList = [] ↔ c.size = 0 := by
  rw [ByteArray.toList_eq, ← List.length_eq_zero_iff, Array.length_toList]
  rfl
theorem recB_eq (c r : ByteArray) : recB c r = true ↔ c.size ≠ 0 ∧ (plainB c && decide ((c.size : Int) ≤ 160)) = true ∧ c.data.toList.any isAt = false ∧ (plainB r && decide ((r.size : Int) ≤ 200)) = true := by
  unfold recB cmdB rng
  simp only [Bool.and_eq_true, Bool.not_eq_true', decide_eq_true_eq]
  refine ⟨fun ⟨⟨⟨h1, h3⟩, h2, h4⟩, h6, h5⟩ => ⟨by omega, ⟨h2, h3⟩, h4, h5, h6⟩, fun ⟨h1, ⟨h2, h3⟩, h4, h5, h6⟩ => ⟨⟨⟨by omega, h3⟩, h2, h4⟩, h6, h5⟩⟩
set_option maxHeartbeats 2000000 in
theorem l12Record_any (c r : ByteArray) (hc : c.size ≤ 1048576) (hr : r.size ≤ 1048576) (w : World) : Calls Tryd.prog 9 #[.agg #[.string c, .string r]] w fun e w' => e = .returned (.bool (recB c r)) ∧ Below w.heap.size w w' := by
  have no : ¬ (c.size ≠ 0 ∧ (plainB c && decide ((c.size : Int) ≤ 160)) = true ∧ c.data.toList.any isAt = false ∧ (plainB r && decide ((r.size : Int) ≤ 200)) = true) → recB c r = false := fun h => by
    rw [Bool.eq_false_iff]
    exact fun e => h ((recB_eq c r).1 e)
  by_cases h0 : c.toList = []
  · have e := no fun h => h.1 ((nil_iff c).1 h0)
    clear no
    go_enter Tryd.func9, Tryd.ntmps9
    go_wp2
    go_ret
    exact ⟨by rw [e]; rfl, by repeat (first | exact Below.refl _ _ | apply Below.drew | refine Below.setCell ?_ (by first | (simp; done) | (simp; omega)) _ | refine Below.alloc ?_ (by first | (simp; done) | (simp; omega)) _)⟩
  cases h1 : (plainB c && decide ((c.size : Int) ≤ 160))
  · have e := no fun h => by rw [h1] at h; cases h.2.1
    clear no
    go_enter Tryd.func9, Tryd.ntmps9
    go_wp2_with (go_at_call 14; with_reducible refine (l12Bytes_any _ hc _ _).mono ?_; rintro e w' ⟨rfl, rfl⟩; rw [h1]; dsimp only)
    go_ret
    exact ⟨by rw [e]; rfl, by repeat (first | exact Below.refl _ _ | apply Below.drew | refine Below.setCell ?_ (by first | (simp; done) | (simp; omega)) _ | refine Below.alloc ?_ (by first | (simp; done) | (simp; omega)) _)⟩
  cases h2 : c.data.toList.any isAt
  · cases h3 : (plainB r && decide ((r.size : Int) ≤ 200))
    · have e := no fun h => by rw [h3] at h; cases h.2.2.2
      clear no
      go_enter Tryd.func9, Tryd.ntmps9
      go_wp2_with (first | (go_at_call 14; with_reducible refine (l12Bytes_any _ hc _ _).mono ?_; rintro e w' ⟨rfl, rfl⟩; rw [h1]; dsimp only) | (go_at_call 15; refine (l1Stands_any _ hc _).mono ?_; rintro e w' ⟨rfl, rfl⟩; rw [h2]; dsimp only) | (go_at_call 14; with_reducible refine (l12Bytes_any _ hr _ _).mono ?_; rintro e w' ⟨rfl, rfl⟩; rw [h3]; dsimp only))
      go_ret
      exact ⟨by rw [e]; rfl, by repeat (first | exact Below.refl _ _ | apply Below.drew | refine Below.setCell ?_ (by first | (simp; done) | (simp; omega)) _ | refine Below.alloc ?_ (by first | (simp; done) | (simp; omega)) _)⟩
    · have e : recB c r = true := (recB_eq c r).2 ⟨fun h => h0 ((nil_iff c).2 h), h1, h2, h3⟩
      have h00 : c.toList.isEmpty = false := by rw [Bool.eq_false_iff]; exact fun h => h0 (List.isEmpty_iff.1 h)
      clear no
      go_enter Tryd.func9, Tryd.ntmps9
      go_wp2_with (first | (go_at_call 14; with_reducible refine (l12Bytes_any _ hc _ _).mono ?_; rintro e w' ⟨rfl, rfl⟩; rw [h1]; dsimp only) | (go_at_call 15; refine (l1Stands_any _ hc _).mono ?_; rintro e w' ⟨rfl, rfl⟩; rw [h2]; dsimp only) | (go_at_call 14; with_reducible refine (l12Bytes_any _ hr _ _).mono ?_; rintro e w' ⟨rfl, rfl⟩; rw [h3]; dsimp only))
      go_ret
      exact ⟨by rw [e]; simp [h00], by repeat (first | exact Below.refl _ _ | apply Below.drew | refine Below.setCell ?_ (by first | (simp; done) | (simp; omega)) _ | refine Below.alloc ?_ (by first | (simp; done) | (simp; omega)) _)⟩
  · have e := no fun h => by rw [h2] at h; cases h.2.2.1
    clear no
    go_enter Tryd.func9, Tryd.ntmps9
    go_wp2_with (first | (go_at_call 14; with_reducible refine (l12Bytes_any _ hc _ _).mono ?_; rintro e w' ⟨rfl, rfl⟩; rw [h1]; dsimp only) | (go_at_call 15; refine (l1Stands_any _ hc _).mono ?_; rintro e w' ⟨rfl, rfl⟩; rw [h2]; dsimp only))
    go_ret
    exact ⟨by rw [e]; rfl, by repeat (first | exact Below.refl _ _ | apply Below.drew | refine Below.setCell ?_ (by first | (simp; done) | (simp; omega)) _ | refine Below.alloc ?_ (by first | (simp; done) | (simp; omega)) _)⟩
end Go.Proofs.YtcllhjdohiklkaaDoor
