/- Sums and greatest numbers, by the program's and the reference's functions. Conditions: no partial sum leaves the range of an int. -/
import Derived.Test.YtlhdeofkhajigaaOA
set_option linter.all false
set_option linter.unusedSimpArgs false
set_option linter.unusedVariables false
namespace Go.Proofs.Ytlhdeofkhajigaa
open Go.RowKit

theorem sum_take_succ (xs : List Int) (k : Nat) (h : k < xs.length) : (xs.take (k + 1)).sum = (xs.take k).sum + xs[k] := by
  rw [List.take_succ_eq_append_getElem h, List.sum_append]
  simp
theorem sum_bounds {xs : List Int} {B : Int} (h : ∀ x ∈ xs, 0 ≤ x ∧ x ≤ B) : 0 ≤ xs.sum ∧ xs.sum ≤ xs.length * B := by
  induction xs with
  | nil => simp
  | cons x xs ih =>
    have h1 := h x (by simp)
    have h2 := ih fun y hy => h y (by simp [hy])
    simp only [List.sum_cons, List.length_cons, Int.natCast_add, Int.add_mul]
    omega
/-- no partial sum leaves the range of an int -/
def SumFits (xs : List Int) : Prop := ∀ k, k ≤ xs.length → -9223372036854775808 ≤ (xs.take k).sum ∧ (xs.take k).sum ≤ 9223372036854775807
theorem sumFits_of {xs : List Int} {B : Int} (h : ∀ x ∈ xs, 0 ≤ x ∧ x ≤ B) (hB : xs.length * B ≤ 9223372036854775807) (hB0 : 0 ≤ B) : SumFits xs := fun k hk => by
  have h1 := sum_bounds (xs := xs.take k) (B := B) fun x hx => h x (List.mem_of_mem_take hx)
  have h2 : ((xs.take k).length : Int) * B ≤ xs.length * B := Int.mul_le_mul_of_nonneg_right (by simp; omega) hB0
  omega

/-- the greatest of some numbers and another one -/
def greatest (a : Int) (xs : List Int) : Int := xs.foldl max a
theorem greatest_take (a : Int) (xs : List Int) (k : Nat) (h : k < xs.length) : greatest a (xs.take (k + 1)) = max (greatest a (xs.take k)) xs[k] := by
  unfold greatest
  rw [List.take_succ_eq_append_getElem h, List.foldl_append]
  rfl
theorem greatest_mono (xs : List Int) : ∀ a : Int, a ≤ greatest a xs := by
  induction xs with
  | nil => exact fun a => Int.le_refl a
  | cons x xs ih => exact fun a => Int.le_trans (Int.le_max_left a x) (ih (max a x))
theorem greatest_max (xs : List Int) : ∀ a b : Int, greatest (max a b) xs = max a (greatest b xs) := by
  induction xs with
  | nil => exact fun _ _ => rfl
  | cons x xs ih =>
    intro a b
    show greatest (max (max a b) x) xs = max a (greatest (max b x) xs)
    rw [Int.max_assoc, ih]
/-- from the first on, or from 0 on where none is below 0: the same -/
theorem greatest_zero {x : Int} {xs : List Int} (h : 0 ≤ x) : greatest x xs = greatest 0 (x :: xs) := by
  show _ = greatest (max 0 x) xs
  rw [Int.max_eq_right h]

theorem l1Most_any (w : World) (a b : Int) : Calls Try.prog 90 #[.int .i64 a, .int .i64 b] w fun e w' => e = .returned (.int .i64 (max a b)) ∧ w = w' := by
  by_cases h : b < a
  · have e : max a b = a := Int.max_eq_left (by omega)
    rw [e]
    go_enter Try.func90, Try.ntmps90
    go_wp2
    go_ret
    exact ⟨rfl, rfl⟩
  · have e : max a b = b := Int.max_eq_right (by omega)
    rw [e]
    go_enter Try.func90, Try.ntmps90
    go_wp2
    go_ret
    exact ⟨rfl, rfl⟩
theorem sliceMax_any (w : World) (u : Value) (x : Int) (xs : List Int) (hx : SlI w u (x :: xs)) :
    Calls Try.prog 103 #[u] w fun e w' => e = .returned (.int .i64 (greatest x xs)) ∧ Qt w w' := by
  have hlen := hx.len
  obtain ⟨A, c, rfl, hc1, hc2, hcell⟩ := hx.view
  obtain ⟨ad, rfl, hc0⟩ := hcell 0 (by simp)
  have hl : (1 : Int) ≤ ((x :: xs).length : Int) := by simp; omega
  obtain ⟨n, hn⟩ : ∃ n, n = (x :: xs).length := ⟨_, rfl⟩
  have hl2 : n = xs.length + 1 := by rw [hn]; rfl
  rw [← hn] at hl hlen hc1
  have hc0' : w.cell? ad = some (.int .i64 x) := hc0
  have hcell' : ∀ k (h : k < xs.length), w.cell? (ad.add (k + 1)) = some (.int .i64 xs[k]) := fun k h => by
    obtain ⟨ad', e, hc⟩ := hcell (k + 1) (by simp; omega)
    cases e
    simpa using hc
  have HL := hide hl2
  rw [← hn]
  clear hc0 hcell hx hl2 hn
  go_enter Try.func103, Try.ntmps103
  go_wp2
  go_loopw [3, 4] (fun t i wr => ∃ k : Nat, k ≤ xs.length ∧ i = .int .i64 (k + 1 : Nat) ∧ t = .int .i64 (greatest x (xs.take k)) ∧ Qt w wr) (fun _ i _ => n - (intOf i).toNat)
  case atStart => exact ⟨0, Nat.zero_le _, rfl, rfl, Qt.refl _⟩
  case round =>
    obtain ⟨k, hk, rfl, rfl, m, rfl⟩ := hrel
    have hnk := HL.out
    by_cases hlt : k < xs.length
    · have hc : w.cell? ⟨ad.block, ad.off + (k + 1), none⟩ = some (.int .i64 xs[k]) := by simpa [Addr.add] using hcell' k hlt
      have hlt2 : ((k + 1 : Nat) : Int) < n := by omega
      have H3 := hide (greatest_take x xs k hlt)
      clear hcell' hnk
      go_wp2
      go_roundw
      case rel => exact ⟨k + 1, by omega, by go_num, by rw [H3.out]; congr 1; rw [Int.max_def]; split <;> split <;> omega, by first | exact ⟨_, rfl⟩ | exact ⟨_, World.drewN_drewN _ _ _⟩⟩
      case measure => simp [intOf]; omega
    · have hge : ¬ ((k + 1 : Nat) : Int) < n := by omega
      clear hnk
      go_wp2
      go_ret
      obtain rfl : k = xs.length := by omega
      exact ⟨by rw [List.take_of_length_le (Nat.le_refl _)]; rfl, by first | exact ⟨_, rfl⟩ | exact ⟨_, World.drewN_drewN _ _ _⟩⟩
end Go.Proofs.Ytlhdeofkhajigaa
