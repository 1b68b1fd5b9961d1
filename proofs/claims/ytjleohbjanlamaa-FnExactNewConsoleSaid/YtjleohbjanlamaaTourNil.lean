/- The helpers on empty tournaments: lists without players are the same, take no marks and hold none. Conditions: both lists nil. -/
import Derived.Test.YtjleohbjanlamaaProg
import Derived.Test.YtjleohbjanlamaaRng
namespace Go.Proofs.Ytjleohbjanlamaa
open Go.RowKit

theorem eqPlayerS_nil (w : World) : Calls Try.prog 46 #[.slice none 0 0, .slice none 0 0] w fun e w' => e = .returned (.bool true) ∧ w = w' := by
  go_enter Try.func46, Try.ntmps46
  go_wp2
  go_loop [5] (fun i => i = .int .i64 0) (fun _ => 0)
  case atStart => rfl
  case round =>
    subst hrel
    go_wp2
    go_ret
    exact ⟨rfl, rfl⟩
theorem markPlayerS_nil (w : World) (k : Int) : Calls Try.prog 47 #[.slice none 0 0, .int .i64 k] w fun e w' => e = .returned (.int .i64 k) ∧ w = w' := by
  go_enter Try.func47, Try.ntmps47
  go_wp2
  go_loop [1, 5] (fun n i => n = .int .i64 k ∧ i = .int .i64 0) (fun _ _ => 0)
  case atStart => exact ⟨rfl, rfl⟩
  case round =>
    obtain ⟨rfl, rfl⟩ := hrel
    go_wp2
    go_ret
    exact ⟨rfl, rfl⟩
theorem heldPlayerS_nil (w : World) (k : Int) : Calls Try.prog 49 #[.slice none 0 0, .int .i64 k] w fun e w' => e = .returned (.int .i64 k) ∧ w = w' := by
  go_enter Try.func49, Try.ntmps49
  go_wp2
  go_loop [1, 5] (fun n i => n = .int .i64 k ∧ i = .int .i64 0) (fun _ _ => 0)
  case atStart => exact ⟨rfl, rfl⟩
  case round =>
    obtain ⟨rfl, rfl⟩ := hrel
    go_wp2
    go_ret
    exact ⟨rfl, rfl⟩
theorem eqIntS_nil (w : World) : Calls Try.prog 30 #[.slice none 0 0, .slice none 0 0] w fun e w' => e = .returned (.bool true) ∧ w = w' := by
  go_enter Try.func30, Try.ntmps30
  go_wp2
  go_loop [5] (fun i => i = .int .i64 0) (fun _ => 0)
  case atStart => rfl
  case round =>
    subst hrel
    go_wp2
    go_ret
    exact ⟨rfl, rfl⟩
theorem markIntS_nil (w : World) (k : Int) : Calls Try.prog 48 #[.slice none 0 0, .int .i64 k] w fun e w' => e = .returned (.int .i64 k) ∧ w = w' := by
  go_enter Try.func48, Try.ntmps48
  go_wp2
  go_loop [1, 5] (fun n i => n = .int .i64 k ∧ i = .int .i64 0) (fun _ _ => 0)
  case atStart => exact ⟨rfl, rfl⟩
  case round =>
    obtain ⟨rfl, rfl⟩ := hrel
    go_wp2
    go_ret
    exact ⟨rfl, rfl⟩
theorem heldIntS_nil (w : World) (k : Int) : Calls Try.prog 50 #[.slice none 0 0, .int .i64 k] w fun e w' => e = .returned (.int .i64 k) ∧ w = w' := by
  go_enter Try.func50, Try.ntmps50
  go_wp2
  go_loop [1, 5] (fun n i => n = .int .i64 k ∧ i = .int .i64 0) (fun _ _ => 0)
  case atStart => exact ⟨rfl, rfl⟩
  case round =>
    obtain ⟨rfl, rfl⟩ := hrel
    go_wp2
    go_ret
    exact ⟨rfl, rfl⟩

theorem newT_spec_yes (a : Int) (w : World) (h1 : 1 ≤ a) (h2 : a ≤ 8) : Calls Try.prog 13 #[.int .i64 a] w fun e w' => e = .returned (.tuple #[.agg #[.int .i64 a, .slice none 0 0, .slice none 0 0], .bool true]) ∧ w' = w.alloc (.cells #[.int .i64 a, .slice none 0 0, .slice none 0 0] 32) := by
  go_enter Try.func13, Try.ntmps13
  go_wp2_with (first | (go_at_call 75; first | (refine (within_yes _ _ _ _ (by omega) (by omega)).mono ?_; rintro e w' ⟨rfl, rfl⟩; dsimp only) | (refine (within_no _ _ _ _ (by omega)).mono ?_; rintro e w' ⟨rfl, rfl⟩; dsimp only) | (refine (within_any _ _ _ _).mono ?_; rintro e w' ⟨rfl, rfl⟩; dsimp only)) | (go_at_call 77; first | (refine (l1In_yes _ _ _ _ (by omega) (by omega)).mono ?_; rintro e w' ⟨rfl, rfl⟩; dsimp only) | (refine (l1In_no _ _ _ _ (by omega)).mono ?_; rintro e w' ⟨rfl, rfl⟩; dsimp only) | (refine (l1In_any _ _ _ _).mono ?_; rintro e w' ⟨rfl, rfl⟩; dsimp only)) | go_in)
  exact bodyPost_ret (v := .tuple #[.agg #[.int .i64 a, .slice none 0 0, .slice none 0 0], .bool true]) (by simp [results, Try.results13, go_sem]) rfl ⟨rfl, rfl⟩
theorem newT_spec_no (a : Int) (w : World) (h : a < 1 ∨ 8 < a) : Calls Try.prog 13 #[.int .i64 a] w fun e w' => e = .returned (.tuple #[.agg #[.int .i64 0, .slice none 0 0, .slice none 0 0], .bool false]) ∧ w' = w.alloc (.cells #[.int .i64 0, .slice none 0 0, .slice none 0 0] 32) := by
  go_enter Try.func13, Try.ntmps13
  go_wp2_with (first | (go_at_call 75; first | (refine (within_yes _ _ _ _ (by omega) (by omega)).mono ?_; rintro e w' ⟨rfl, rfl⟩; dsimp only) | (refine (within_no _ _ _ _ (by omega)).mono ?_; rintro e w' ⟨rfl, rfl⟩; dsimp only) | (refine (within_any _ _ _ _).mono ?_; rintro e w' ⟨rfl, rfl⟩; dsimp only)) | (go_at_call 77; first | (refine (l1In_yes _ _ _ _ (by omega) (by omega)).mono ?_; rintro e w' ⟨rfl, rfl⟩; dsimp only) | (refine (l1In_no _ _ _ _ (by omega)).mono ?_; rintro e w' ⟨rfl, rfl⟩; dsimp only) | (refine (l1In_any _ _ _ _).mono ?_; rintro e w' ⟨rfl, rfl⟩; dsimp only)) | go_in)
  exact bodyPost_ret (v := .tuple #[.agg #[.int .i64 0, .slice none 0 0, .slice none 0 0], .bool false]) (by simp [results, Try.results13, go_sem]) rfl ⟨rfl, rfl⟩
theorem newT_impl_yes (a : Int) (w : World) (h1 : 1 ≤ a) (h2 : a ≤ 8) : Calls Try.prog 14 #[.int .i64 a] w fun e w' => e = .returned (.tuple #[.agg #[.int .i64 a, .slice none 0 0, .slice none 0 0], .bool true]) ∧ w' = w.alloc (.cells #[.int .i64 a, .slice none 0 0, .slice none 0 0] 32) := by
  go_enter Try.func14, Try.ntmps14
  go_wp2_with (first | (go_at_call 75; first | (refine (within_yes _ _ _ _ (by omega) (by omega)).mono ?_; rintro e w' ⟨rfl, rfl⟩; dsimp only) | (refine (within_no _ _ _ _ (by omega)).mono ?_; rintro e w' ⟨rfl, rfl⟩; dsimp only) | (refine (within_any _ _ _ _).mono ?_; rintro e w' ⟨rfl, rfl⟩; dsimp only)) | (go_at_call 77; first | (refine (l1In_yes _ _ _ _ (by omega) (by omega)).mono ?_; rintro e w' ⟨rfl, rfl⟩; dsimp only) | (refine (l1In_no _ _ _ _ (by omega)).mono ?_; rintro e w' ⟨rfl, rfl⟩; dsimp only) | (refine (l1In_any _ _ _ _).mono ?_; rintro e w' ⟨rfl, rfl⟩; dsimp only)) | go_in)
  exact bodyPost_ret (v := .tuple #[.agg #[.int .i64 a, .slice none 0 0, .slice none 0 0], .bool true]) (by simp [results, Try.results14, go_sem]) rfl ⟨rfl, rfl⟩
theorem newT_impl_no (a : Int) (w : World) (h : a < 1 ∨ 8 < a) : Calls Try.prog 14 #[.int .i64 a] w fun e w' => e = .returned (.tuple #[.agg #[.int .i64 0, .slice none 0 0, .slice none 0 0], .bool false]) ∧ w' = w.alloc (.cells #[.int .i64 0, .slice none 0 0, .slice none 0 0] 32) := by
  go_enter Try.func14, Try.ntmps14
  go_wp2_with (first | (go_at_call 75; first | (refine (within_yes _ _ _ _ (by omega) (by omega)).mono ?_; rintro e w' ⟨rfl, rfl⟩; dsimp only) | (refine (within_no _ _ _ _ (by omega)).mono ?_; rintro e w' ⟨rfl, rfl⟩; dsimp only) | (refine (within_any _ _ _ _).mono ?_; rintro e w' ⟨rfl, rfl⟩; dsimp only)) | (go_at_call 77; first | (refine (l1In_yes _ _ _ _ (by omega) (by omega)).mono ?_; rintro e w' ⟨rfl, rfl⟩; dsimp only) | (refine (l1In_no _ _ _ _ (by omega)).mono ?_; rintro e w' ⟨rfl, rfl⟩; dsimp only) | (refine (l1In_any _ _ _ _).mono ?_; rintro e w' ⟨rfl, rfl⟩; dsimp only)) | go_in)
  exact bodyPost_ret (v := .tuple #[.agg #[.int .i64 0, .slice none 0 0, .slice none 0 0], .bool false]) (by simp [results, Try.results14, go_sem]) rfl ⟨rfl, rfl⟩

/-- the block of a Tournament without players and requests -/
abbrev tourBlk (a : Int) : Obj := .cells #[.int .i64 a, .slice none 0 0, .slice none 0 0] 32
abbrev tourVal (a : Int) : Value := .agg #[.int .i64 a, .slice none 0 0, .slice none 0 0]
theorem eqTour_nil (a : Int) (w : World) : Calls Try.prog 15 #[tourVal a, tourVal a] w fun e w' => e = .returned (.bool true) ∧ w' = (w.alloc (tourBlk a)).alloc (tourBlk a) := by
  go_enter Try.func15, Try.ntmps15
  go_wp2_with (first | (go_at_call 46; refine (eqPlayerS_nil _).mono ?_; rintro e w' ⟨rfl, rfl⟩; dsimp only) | (go_at_call 47; refine (markPlayerS_nil _ _).mono ?_; rintro e w' ⟨rfl, rfl⟩; dsimp only) | (go_at_call 49; refine (heldPlayerS_nil _ _).mono ?_; rintro e w' ⟨rfl, rfl⟩; dsimp only) | (go_at_call 30; refine (eqIntS_nil _).mono ?_; rintro e w' ⟨rfl, rfl⟩; dsimp only) | (go_at_call 48; refine (markIntS_nil _ _).mono ?_; rintro e w' ⟨rfl, rfl⟩; dsimp only) | (go_at_call 50; refine (heldIntS_nil _ _).mono ?_; rintro e w' ⟨rfl, rfl⟩; dsimp only))
  go_ret
  exact ⟨rfl, rfl⟩
theorem markTour_nil (a k : Int) (w : World) : Calls Try.prog 16 #[tourVal a, .int .i64 k] w fun e w' => e = .returned (.int .i64 k) ∧ w' = w.alloc (tourBlk a) := by
  go_enter Try.func16, Try.ntmps16
  go_wp2_with (first | (go_at_call 46; refine (eqPlayerS_nil _).mono ?_; rintro e w' ⟨rfl, rfl⟩; dsimp only) | (go_at_call 47; refine (markPlayerS_nil _ _).mono ?_; rintro e w' ⟨rfl, rfl⟩; dsimp only) | (go_at_call 49; refine (heldPlayerS_nil _ _).mono ?_; rintro e w' ⟨rfl, rfl⟩; dsimp only) | (go_at_call 30; refine (eqIntS_nil _).mono ?_; rintro e w' ⟨rfl, rfl⟩; dsimp only) | (go_at_call 48; refine (markIntS_nil _ _).mono ?_; rintro e w' ⟨rfl, rfl⟩; dsimp only) | (go_at_call 50; refine (heldIntS_nil _ _).mono ?_; rintro e w' ⟨rfl, rfl⟩; dsimp only))
  go_ret
  exact ⟨rfl, rfl⟩
theorem heldTour_nil (a k : Int) (h : 0 ≤ k) (w : World) : Calls Try.prog 17 #[tourVal a, .int .i64 k] w fun e w' => e = .returned (.int .i64 k) ∧ w' = w.alloc (tourBlk a) := by
  go_enter Try.func17, Try.ntmps17
  go_wp2_with (first | (go_at_call 46; refine (eqPlayerS_nil _).mono ?_; rintro e w' ⟨rfl, rfl⟩; dsimp only) | (go_at_call 47; refine (markPlayerS_nil _ _).mono ?_; rintro e w' ⟨rfl, rfl⟩; dsimp only) | (go_at_call 49; refine (heldPlayerS_nil _ _).mono ?_; rintro e w' ⟨rfl, rfl⟩; dsimp only) | (go_at_call 30; refine (eqIntS_nil _).mono ?_; rintro e w' ⟨rfl, rfl⟩; dsimp only) | (go_at_call 48; refine (markIntS_nil _ _).mono ?_; rintro e w' ⟨rfl, rfl⟩; dsimp only) | (go_at_call 50; refine (heldIntS_nil _ _).mono ?_; rintro e w' ⟨rfl, rfl⟩; dsimp only))
  go_ret
  exact ⟨rfl, rfl⟩
end Go.Proofs.Ytjleohbjanlamaa
