/- Fractions, second part: sizes, and whether a pair is a fraction, by the program's and the reference's functions. Conditions: sizes above the least int. -/
import Derived.Test.YtjleohbjanlamaaGcd
namespace Go.Proofs.Ytjleohbjanlamaa
open Go.RowKit

theorem size_any (w : World) (n : Int) (h1 : -9223372036854775807 ≤ n) (h2 : n ≤ 9223372036854775807) : Calls Try.prog 89 #[.int .i64 n] w fun e w' => e = .returned (.int .i64 n.natAbs) ∧ w = w' := by
  by_cases h : 0 ≤ n
  · go_enter Try.func89, Try.ntmps89
    go_wp2
    go_ret
    refine ⟨?_, rfl⟩
    show Ending.returned (.int .i64 _) = _
    congr 2
    omega
  · go_enter Try.func89, Try.ntmps89
    go_wp2
    go_ret
    refine ⟨?_, rfl⟩
    show Ending.returned (.int .i64 _) = _
    congr 2
    omega
theorem l2Abs_any (w : World) (n : Int) (h1 : -9223372036854775807 ≤ n) (h2 : n ≤ 9223372036854775807) : Calls Try.prog 81 #[.int .i64 n] w fun e w' => e = .returned (.int .i64 n.natAbs) ∧ w = w' := by
  by_cases h : n > -n
  · have e : (n.natAbs : Int) = n := by omega
    rw [e]
    go_enter Try.func81, Try.ntmps81
    go_wp2
    go_ret
    exact ⟨rfl, rfl⟩
  · have e : (n.natAbs : Int) = -n := by omega
    rw [e]
    go_enter Try.func81, Try.ntmps81
    go_wp2
    go_ret
    exact ⟨rfl, rfl⟩

/-- is n/d a fraction -/
def frB (n d : Int) : Bool := decide (1 ≤ d ∧ d ≤ 100000 ∧ -100000000 ≤ n ∧ n ≤ 100000000 ∧ Int.gcd n d = 1)
theorem frB_den {n d : Int} (h : d < 1 ∨ 100000 < d) : frB n d = false := decide_eq_false (by omega)
theorem frB_num {n d : Int} (h : n < -100000000 ∨ 100000000 < n) : frB n d = false := decide_eq_false (by omega)
theorem frB_in {n d : Int} (h1 : 1 ≤ d) (h2 : d ≤ 100000) (h3 : -100000000 ≤ n) (h4 : n ≤ 100000000) : frB n d = ((Int.gcd n.natAbs d : Int) == 1) := by
  have e : Int.gcd n.natAbs d = Int.gcd n d := by simp [Int.gcd]
  rw [e]
  unfold frB
  by_cases h : Int.gcd n d = 1
  · simp [h, h1, h2, h3, h4]
  · have h' : ((Int.gcd n d : Int) == 1) = false := by simp; omega
    rw [h']
    exact decide_eq_false (by omega)
theorem frB_iff {n d : Int} : frB n d = true ↔ 1 ≤ d ∧ d ≤ 100000 ∧ -100000000 ≤ n ∧ n ≤ 100000000 ∧ Int.gcd n d = 1 := by simp [frB]

set_option maxHeartbeats 1000000 in
theorem isFrac_any (w : World) (n d : Int) : Calls Try.prog 90 #[.agg #[.int .i64 n, .int .i64 d]] w fun e w' => e = .returned (.bool (frB n d)) ∧ Below w.heap.size w w' := by
  by_cases hd : 1 ≤ d ∧ d ≤ 100000
  · obtain ⟨hd1, hd2⟩ := hd
    by_cases hn : -100000000 ≤ n ∧ n ≤ 100000000
    · obtain ⟨hn1, hn2⟩ := hn
      rw [frB_in hd1 hd2 hn1 hn2]
      go_enter Try.func90, Try.ntmps90
      go_wp2
      go_quiet ((first | (go_at_call 75; first | (with_reducible exact quiet1 (within_yes _ _ _ _ (by omega) (by omega))) | (with_reducible exact quiet2 (within_yes _ _ _ _ (by omega) (by omega))) | (with_reducible exact quiet3 (within_yes _ _ _ _ (by omega) (by omega))) | (with_reducible exact quiet4 (within_yes _ _ _ _ (by omega) (by omega))) | (with_reducible exact quiet5 (within_yes _ _ _ _ (by omega) (by omega)))) | (go_at_call 89; first | (with_reducible exact quiet1 (size_any _ _ (by omega) (by omega))) | (with_reducible exact quiet2 (size_any _ _ (by omega) (by omega))) | (with_reducible exact quiet3 (size_any _ _ (by omega) (by omega))) | (with_reducible exact quiet4 (size_any _ _ (by omega) (by omega))) | (with_reducible exact quiet5 (size_any _ _ (by omega) (by omega)))) | (go_at_call 88; first | (with_reducible exact quiet1 (divisor_any _ _ _ (by omega) (by omega) (by omega) (by omega))) | (with_reducible exact quiet2 (divisor_any _ _ _ (by omega) (by omega) (by omega) (by omega))) | (with_reducible exact quiet3 (divisor_any _ _ _ (by omega) (by omega) (by omega) (by omega))) | (with_reducible exact quiet4 (divisor_any _ _ _ (by omega) (by omega) (by omega) (by omega))) | (with_reducible exact quiet5 (divisor_any _ _ _ (by omega) (by omega) (by omega) (by omega))))))
      go_wp2
      go_ret
      exact ⟨rfl, below_drewN (by repeat (first | exact Below.refl _ _ | apply Below.drew | refine Below.setCell ?_ (by first | (simp; done) | (simp; omega)) _ | refine Below.alloc ?_ (by first | (simp; done) | (simp; omega)) _)) _⟩
    · rw [frB_num (by omega)]
      go_enter Try.func90, Try.ntmps90
      go_wp2
      go_quiet ((first | (go_at_call 75; first | (with_reducible exact quiet1 (within_yes _ d _ _ (by omega) (by omega))) | (with_reducible exact quiet2 (within_yes _ d _ _ (by omega) (by omega))) | (with_reducible exact quiet3 (within_yes _ d _ _ (by omega) (by omega))) | (with_reducible exact quiet4 (within_yes _ d _ _ (by omega) (by omega))) | (with_reducible exact quiet5 (within_yes _ d _ _ (by omega) (by omega)))) | (go_at_call 75; first | (with_reducible exact quiet1 (within_no _ n _ _ (by omega))) | (with_reducible exact quiet2 (within_no _ n _ _ (by omega))) | (with_reducible exact quiet3 (within_no _ n _ _ (by omega))) | (with_reducible exact quiet4 (within_no _ n _ _ (by omega))) | (with_reducible exact quiet5 (within_no _ n _ _ (by omega))))))
      go_wp2
      go_ret
      exact ⟨rfl, below_drewN (by repeat (first | exact Below.refl _ _ | apply Below.drew | refine Below.setCell ?_ (by first | (simp; done) | (simp; omega)) _ | refine Below.alloc ?_ (by first | (simp; done) | (simp; omega)) _)) _⟩
  · rw [frB_den (by omega)]
    go_enter Try.func90, Try.ntmps90
    go_wp2
    go_quiet (((go_at_call 75; first | (with_reducible exact quiet1 (within_no _ d _ _ (by omega))) | (with_reducible exact quiet2 (within_no _ d _ _ (by omega))) | (with_reducible exact quiet3 (within_no _ d _ _ (by omega))) | (with_reducible exact quiet4 (within_no _ d _ _ (by omega))) | (with_reducible exact quiet5 (within_no _ d _ _ (by omega))))))
    go_wp2
    go_ret
    exact ⟨rfl, below_drewN (by repeat (first | exact Below.refl _ _ | apply Below.drew | refine Below.setCell ?_ (by first | (simp; done) | (simp; omega)) _ | refine Below.alloc ?_ (by first | (simp; done) | (simp; omega)) _)) _⟩
set_option maxHeartbeats 1000000 in
theorem l2Good_any (w : World) (n d : Int) : Calls Try.prog 82 #[.agg #[.int .i64 n, .int .i64 d]] w fun e w' => e = .returned (.bool (frB n d)) ∧ Below w.heap.size w w' := by
  by_cases hd : 1 ≤ d ∧ d ≤ 100000
  · obtain ⟨hd1, hd2⟩ := hd
    by_cases hn : -100000000 ≤ n ∧ n ≤ 100000000
    · obtain ⟨hn1, hn2⟩ := hn
      rw [frB_in hd1 hd2 hn1 hn2]
      go_enter Try.func82, Try.ntmps82
      go_wp2
      go_quiet ((first | (go_at_call 77; first | (with_reducible exact quiet1 (l1In_yes _ _ _ _ (by omega) (by omega))) | (with_reducible exact quiet2 (l1In_yes _ _ _ _ (by omega) (by omega))) | (with_reducible exact quiet3 (l1In_yes _ _ _ _ (by omega) (by omega))) | (with_reducible exact quiet4 (l1In_yes _ _ _ _ (by omega) (by omega))) | (with_reducible exact quiet5 (l1In_yes _ _ _ _ (by omega) (by omega)))) | (go_at_call 81; first | (with_reducible exact quiet1 (l2Abs_any _ _ (by omega) (by omega))) | (with_reducible exact quiet2 (l2Abs_any _ _ (by omega) (by omega))) | (with_reducible exact quiet3 (l2Abs_any _ _ (by omega) (by omega))) | (with_reducible exact quiet4 (l2Abs_any _ _ (by omega) (by omega))) | (with_reducible exact quiet5 (l2Abs_any _ _ (by omega) (by omega)))) | (go_at_call 80; first | (with_reducible exact quiet1 (l2Gcd_any _ _ _ (by omega) (by omega) (by omega) (by omega))) | (with_reducible exact quiet2 (l2Gcd_any _ _ _ (by omega) (by omega) (by omega) (by omega))) | (with_reducible exact quiet3 (l2Gcd_any _ _ _ (by omega) (by omega) (by omega) (by omega))) | (with_reducible exact quiet4 (l2Gcd_any _ _ _ (by omega) (by omega) (by omega) (by omega))) | (with_reducible exact quiet5 (l2Gcd_any _ _ _ (by omega) (by omega) (by omega) (by omega))))))
      go_wp2
      go_ret
      exact ⟨rfl, below_drewN (by repeat (first | exact Below.refl _ _ | apply Below.drew | refine Below.setCell ?_ (by first | (simp; done) | (simp; omega)) _ | refine Below.alloc ?_ (by first | (simp; done) | (simp; omega)) _)) _⟩
    · rw [frB_num (by omega)]
      go_enter Try.func82, Try.ntmps82
      go_wp2
      go_quiet ((first | (go_at_call 77; first | (with_reducible exact quiet1 (l1In_yes _ d _ _ (by omega) (by omega))) | (with_reducible exact quiet2 (l1In_yes _ d _ _ (by omega) (by omega))) | (with_reducible exact quiet3 (l1In_yes _ d _ _ (by omega) (by omega))) | (with_reducible exact quiet4 (l1In_yes _ d _ _ (by omega) (by omega))) | (with_reducible exact quiet5 (l1In_yes _ d _ _ (by omega) (by omega)))) | (go_at_call 77; first | (with_reducible exact quiet1 (l1In_no _ n _ _ (by omega))) | (with_reducible exact quiet2 (l1In_no _ n _ _ (by omega))) | (with_reducible exact quiet3 (l1In_no _ n _ _ (by omega))) | (with_reducible exact quiet4 (l1In_no _ n _ _ (by omega))) | (with_reducible exact quiet5 (l1In_no _ n _ _ (by omega))))))
      go_wp2
      go_ret
      exact ⟨rfl, below_drewN (by repeat (first | exact Below.refl _ _ | apply Below.drew | refine Below.setCell ?_ (by first | (simp; done) | (simp; omega)) _ | refine Below.alloc ?_ (by first | (simp; done) | (simp; omega)) _)) _⟩
  · rw [frB_den (by omega)]
    go_enter Try.func82, Try.ntmps82
    go_wp2
    go_quiet (((go_at_call 77; first | (with_reducible exact quiet1 (l1In_no _ d _ _ (by omega))) | (with_reducible exact quiet2 (l1In_no _ d _ _ (by omega))) | (with_reducible exact quiet3 (l1In_no _ d _ _ (by omega))) | (with_reducible exact quiet4 (l1In_no _ d _ _ (by omega))) | (with_reducible exact quiet5 (l1In_no _ d _ _ (by omega))))))
    go_wp2
    go_ret
    exact ⟨rfl, below_drewN (by repeat (first | exact Below.refl _ _ | apply Below.drew | refine Below.setCell ?_ (by first | (simp; done) | (simp; omega)) _ | refine Below.alloc ?_ (by first | (simp; done) | (simp; omega)) _)) _⟩
end Go.Proofs.Ytjleohbjanlamaa
