/- Weights: whether numbers are in a range, their sum, their greatest, by the program's and the reference's functions. Conditions: bounds where sums are made. -/
import Derived.Test.YtoaecbdpkmeenaaRng
import Derived.Test.YtoaecbdpkmeenaaSlices
namespace Go.Proofs.Ytoaecbdpkmeenaa
open Go.RowKit

/-- are all numbers in lo..hi -/
def allIn (lo hi : Int) (xs : List Int) : Bool := xs.all fun x => rng x lo hi
theorem allIn_iff {lo hi : Int} {xs : List Int} : allIn lo hi xs = true ↔ ∀ x ∈ xs, lo ≤ x ∧ x ≤ hi := by simp [allIn, rng]
theorem allIn_no {lo hi : Int} {xs : List Int} {x : Int} (h : x ∈ xs) (hx : rng x lo hi = false) : allIn lo hi xs = false := by
  rw [Bool.eq_false_iff]
  intro hh
  have := allIn_iff.1 hh x h
  rw [rng_yes this.1 this.2] at hx
  cases hx

theorem cell_of_below {w w' : World} {a : Addr} {v : Value} (hb : Below w.heap.size w w') (h : w.cell? a = some v) : w'.cell? a = some v := (hb.cell (block_lt h)).trans h

theorem enters_areWeights : Enters Try.prog 138 := fun _ _ => by kernel_rfl
theorem areWeights1_any (w : World) (a : Addr) (x lo : Int) (hc : w.cell? a = some (.int .i64 lo)) :
    Calls Try.prog 138 (#[.int .i64 x] ++ #[.pointer (some a)]) w fun e w' => e = .returned (.bool (!rng x lo 9)) ∧ Below w.heap.size w w' := by
  simp only [List.push_toArray, List.append_toArray, List.cons_append, List.nil_append]
  go_enter Try.func138, Try.ntmps138
  go_wp2_with (go_at_call 86; refine (within_any _ _ _ _).mono ?_; rintro e w' ⟨rfl, rfl⟩; dsimp only)
  go_ret
  exact ⟨rfl, Below.refl _ _⟩
theorem areWeights_any (w : World) (u : Value) (xs : List Int) (lo : Int) (hx : SlI w u xs) :
    Calls Try.prog 87 #[u, .int .i64 lo] w fun e w' => e = .returned (.bool (allIn lo 9 xs)) ∧ Below w.heap.size w w' := by
  have hb : Below w.heap.size w (w.alloc (.cells #[.int .i64 lo] 3)) := by repeat (first | exact Below.refl _ _ | apply Below.drew | refine Below.setCell ?_ (by first | (simp; done) | (simp; omega)) _ | refine Below.alloc ?_ (by first | (simp; done) | (simp; omega)) _)
  have H := hide (containsFuncI_any (w.alloc (.cells #[.int .i64 lo] 3)) u xs 138 #[.pointer (some ⟨w.heap.size, 0, none⟩)] (fun x => !rng x lo 9) enters_areWeights (hx.below hb) (fun W hW j hj v hv => by
    subst hv
    exact areWeights1_any W _ _ lo (cell_of_below hW (by simp [go_sem]))))
  have HR : Hid ((!xs.any fun x => !rng x lo 9) = allIn lo 9 xs) := by
    show (!xs.any fun x => !rng x lo 9) = allIn lo 9 xs
    unfold allIn
    rw [List.any_eq_not_all_not]
    simp
  clear hx
  go_enter Try.func87, Try.ntmps87
  go_wp2_with ((with_reducible refine H.out.mono ?_); rintro e w2 ⟨rfl, hb2⟩; dsimp only)
  go_ret
  exact ⟨by rw [← HR.out]; rfl, hb.trans (hb2.mono (by simp))⟩

theorem l11Weights_any (w : World) (u : Value) (xs : List Int) (lo : Int) (hx : SlI w u xs) :
    Calls Try.prog 79 #[u, .int .i64 lo] w fun e w' => e = .returned (.bool (allIn lo 9 xs)) ∧ Qt w w' := by
  have hlen := hx.len
  obtain ⟨A, c, rfl, hc1, hc2, hcell⟩ := hx.view
  clear hx
  go_enter Try.func79, Try.ntmps79
  go_wp2
  go_loopw [5] (fun i wr => ∃ k : Nat, k ≤ xs.length ∧ i = .int .i64 k ∧ Hid (∀ x ∈ xs.take k, rng x lo 9 = true) ∧ Qt w wr) (fun i _ => xs.length - (intOf i).toNat)
  case atStart => exact ⟨0, Nat.zero_le _, rfl, (fun x h => by simp at h), Qt.refl _⟩
  case round =>
    obtain ⟨k, hk, rfl, hN, n, rfl⟩ := hrel
    by_cases hlt : k < xs.length
    · obtain ⟨ad, rfl, hc⟩ := hcell k hlt
      clear hcell
      cases hp : rng xs[k] lo 9
      · have HP := hide hp
        clear hp
        go_wp2_with (go_at_call 81; refine (l1In_any _ _ _ _).mono ?_; rintro e w' ⟨rfl, rfl⟩; rw [HP.out]; dsimp only)
        go_ret
        exact ⟨by rw [allIn_no (List.getElem_mem hlt) HP.out]; rfl, by first | exact ⟨_, rfl⟩ | exact ⟨_, World.drewN_drewN _ _ _⟩⟩
      · have HP := hide hp
        clear hp
        go_wp2_with (go_at_call 81; refine (l1In_any _ _ _ _).mono ?_; rintro e w' ⟨rfl, rfl⟩; rw [HP.out]; dsimp only)
        go_roundw
        case rel =>
          refine ⟨k + 1, by omega, by go_num, ?_, by first | exact ⟨_, rfl⟩ | exact ⟨_, World.drewN_drewN _ _ _⟩⟩
          intro x hx
          rw [List.take_succ_eq_append_getElem hlt] at hx
          rcases List.mem_append.1 hx with hx | hx
          · exact hN.out x hx
          · simp at hx
            rw [hx]
            exact HP.out
        case measure => simp [intOf]; omega
    · go_wp2
      go_ret
      obtain rfl : k = xs.length := by omega
      have h1 := hN.out
      rw [List.take_of_length_le (Nat.le_refl _)] at h1
      have h2 : allIn lo 9 xs = true := by unfold allIn; exact List.all_eq_true.2 h1
      exact ⟨by rw [h2]; rfl, by first | exact ⟨_, rfl⟩ | exact ⟨_, World.drewN_drewN _ _ _⟩⟩
end Go.Proofs.Ytoaecbdpkmeenaa
