/- Fractions, first part: the greatest common divisor, sizes, and whether a pair is a fraction, by the program's and the reference's functions. Conditions: numbers of at least 0 for the divisor; sizes above the least int. -/
import Derived.Test.YtjleohbjanlamaaProg
import Derived.Test.YtjleohbjanlamaaRng
namespace Go.Proofs.Ytjleohbjanlamaa
open Go.RowKit

theorem gcd_step (a b : Int) (ha : 0 ≤ a) (hb : 0 < b) : Int.gcd b (a % b) = Int.gcd a b := by
  obtain ⟨n, rfl⟩ := Int.eq_ofNat_of_zero_le ha
  obtain ⟨m, rfl⟩ := Int.eq_ofNat_of_zero_le (Int.le_of_lt hb)
  rw [← Int.natCast_emod, Int.gcd_natCast_natCast, Int.gcd_natCast_natCast, Nat.gcd_comm n m, Nat.gcd_rec m n, Nat.gcd_comm]

set_option maxHeartbeats 400000 in
theorem divisor_any (w : World) (a b : Int) (ha : 0 ≤ a) (hb : 0 ≤ b) (ha2 : a ≤ 9223372036854775807) (hb2 : b ≤ 9223372036854775807) :
    Calls Try.prog 88 #[.int .i64 a, .int .i64 b] w fun e w' => e = .returned (.int .i64 (Int.gcd a b)) ∧ Qt w w' := by
  go_enter Try.func88, Try.ntmps88
  go_wp2
  go_loopw [0, 1] (fun u v wr => ∃ x y : Int, 0 ≤ x ∧ 0 ≤ y ∧ x ≤ 9223372036854775807 ∧ y ≤ 9223372036854775807 ∧ u = .int .i64 x ∧ v = .int .i64 y ∧ Hid (Int.gcd x y = Int.gcd a b) ∧ Qt w wr) (fun _ v _ => (intOf v).toNat)
  case atStart => exact ⟨a, b, ha, hb, ha2, hb2, rfl, rfl, rfl, Qt.refl _⟩
  case round =>
    obtain ⟨x, y, hx, hy, hx2, hy2, rfl, rfl, hg, n, rfl⟩ := hrel
    by_cases h : 0 < y
    · have hs := hide (gcd_step x y hx h)
      have h1 : (y == 0) = false := by simp; omega
      have h2 := Int.emod_nonneg x (show y ≠ 0 by omega)
      have h3 := Int.emod_lt_of_pos x h
      go_wp2
      go_quiet (fail)
      go_wp2
      go_roundw
      case rel => exact ⟨y, x % y, hy, h2, hy2, by omega, rfl, rfl, hs.out.trans hg.out, by first | exact ⟨_, rfl⟩ | exact ⟨_, World.drewN_drewN _ _ _⟩⟩
      case measure => simp [intOf]; omega
    · obtain rfl : y = 0 := by omega
      go_wp2
      go_ret
      refine ⟨?_, by first | exact ⟨_, rfl⟩ | exact ⟨_, World.drewN_drewN _ _ _⟩⟩
      have h1 := hg.out
      rw [Int.gcd_zero_right] at h1
      show Ending.returned (.int .i64 x) = _
      rw [← h1, Int.natAbs_of_nonneg hx]
set_option maxHeartbeats 400000 in
theorem l2Gcd_any (w : World) (a b : Int) (ha : 0 ≤ a) (hb : 0 ≤ b) (ha2 : a ≤ 9223372036854775807) (hb2 : b ≤ 9223372036854775807) :
    Calls Try.prog 80 #[.int .i64 a, .int .i64 b] w fun e w' => e = .returned (.int .i64 (Int.gcd a b)) ∧ Qt w w' := by
  go_enter Try.func80, Try.ntmps80
  go_wp2
  go_loopw [0, 1] (fun u v wr => ∃ x y : Int, 0 ≤ x ∧ 0 ≤ y ∧ x ≤ 9223372036854775807 ∧ y ≤ 9223372036854775807 ∧ u = .int .i64 x ∧ v = .int .i64 y ∧ Hid (Int.gcd x y = Int.gcd a b) ∧ Qt w wr) (fun _ v _ => (intOf v).toNat)
  case atStart => exact ⟨a, b, ha, hb, ha2, hb2, rfl, rfl, rfl, Qt.refl _⟩
  case round =>
    obtain ⟨x, y, hx, hy, hx2, hy2, rfl, rfl, hg, n, rfl⟩ := hrel
    by_cases h : 0 < y
    · have hs := hide (gcd_step x y hx h)
      have h1 : (y == 0) = false := by simp; omega
      have h2 := Int.emod_nonneg x (show y ≠ 0 by omega)
      have h3 := Int.emod_lt_of_pos x h
      go_wp2
      go_quiet (fail)
      go_wp2
      go_roundw
      case rel => exact ⟨y, x % y, hy, h2, hy2, by omega, rfl, rfl, hs.out.trans hg.out, by first | exact ⟨_, rfl⟩ | exact ⟨_, World.drewN_drewN _ _ _⟩⟩
      case measure => simp [intOf]; omega
    · obtain rfl : y = 0 := by omega
      go_wp2
      go_ret
      refine ⟨?_, by first | exact ⟨_, rfl⟩ | exact ⟨_, World.drewN_drewN _ _ _⟩⟩
      have h1 := hg.out
      rw [Int.gcd_zero_right] at h1
      show Ending.returned (.int .i64 x) = _
      rw [← h1, Int.natAbs_of_nonneg hx]
end Go.Proofs.Ytjleohbjanlamaa
