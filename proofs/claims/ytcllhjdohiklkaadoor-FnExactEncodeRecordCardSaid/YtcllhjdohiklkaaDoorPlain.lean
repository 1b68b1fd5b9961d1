/- Bytes of strings that may stand in a record: by the program's and the reference's functions. Conditions: strings that a law allows. -/
import Derived.Test.YtcllhjdohiklkaaDoorProg
import Derived.Test.YtcllhjdohiklkaaDoorBase
import Derived.Test.YtcllhjdohiklkaaDoorRng
set_option linter.all false
set_option linter.unusedSimpArgs false
set_option linter.unusedVariables false
namespace Go.Proofs.YtcllhjdohiklkaaDoor
open Go.RowKit

def okByte (x : UInt8) : Bool := rng x.toNat 32 126 && !((x.toNat : Int) == 35)
def plainB (s : ByteArray) : Bool := s.data.toList.all okByte
def isAt (x : UInt8) : Bool := (x.toNat : Int) == 64
theorem at_byte {s : ByteArray} {k : Nat} (h : k < s.size) : ∃ h' : k < s.data.toList.length, s.data.toList[k] = s[k] := ⟨by rw [Array.length_toList]; exact h, rfl⟩
theorem take_byte {s : ByteArray} {k : Nat} (h : k < s.size) {p : UInt8 → Prop} (h1 : ∀ x ∈ s.data.toList.take k, p x) (h2 : p s[k]) : ∀ x ∈ s.data.toList.take (k + 1), p x := fun x hx => by
  obtain ⟨h', e⟩ := at_byte h
  rw [List.take_succ_eq_append_getElem h', List.mem_append, List.mem_singleton] at hx
  rcases hx with hx | rfl
  · exact h1 x hx
  · rw [e]; exact h2
theorem take_all {s : ByteArray} {k : Nat} (h : ¬ k < s.size) {p : UInt8 → Prop} (h1 : ∀ x ∈ s.data.toList.take k, p x) : ∀ x ∈ s.data.toList, p x := fun x hx => by
  rw [List.take_of_length_le (by rw [Array.length_toList]; show s.size ≤ k; omega)] at h1
  exact h1 x hx
theorem mem_byte {s : ByteArray} {k : Nat} (h : k < s.size) : s[k] ∈ s.data.toList := by
  obtain ⟨h', e⟩ := at_byte h
  rw [← e]
  exact List.getElem_mem h'
theorem l1Stands_any (s : ByteArray) (hs : s.size ≤ 1048576) (w : World) : Calls Tryd.prog 15 #[.string s, .int .u8 64] w fun e w' => e = .returned (.bool (s.data.toList.any isAt)) ∧ w' = w := by
  go_enter Tryd.func15, Tryd.ntmps15
  go_wp2
  go_loopw [5] (fun i wr => ∃ k : Nat, k ≤ s.size ∧ i = .int .i64 k ∧ Hid (∀ x ∈ s.data.toList.take k, isAt x = false) ∧ wr = w) (fun i _ => s.size - (intOf i).toNat)
  case atStart => exact ⟨0, Nat.zero_le _, rfl, (fun x h => by simp at h), rfl⟩
  case round =>
    obtain ⟨k, hk, rfl, hN, rfl⟩ := hrel
    by_cases hlt : k < s.size
    · cases hb : ((s[k].toNat : Int) == 64)
      · go_wp2
        go_roundw
        case rel => exact ⟨k + 1, by omega, by simp, take_byte hlt hN.out hb, trivial⟩
        case measure => simp [intOf]; omega
      · have e : s.data.toList.any isAt = true := List.any_eq_true.2 ⟨_, mem_byte hlt, hb⟩
        go_wp2
        go_ret
        exact ⟨by rw [e]; rfl, rfl⟩
    · have e : s.data.toList.any isAt = false := by
        rw [List.any_eq_false]
        intro x hx
        rw [take_all hlt hN.out x hx]
        decide
      go_wp2
      go_ret
      exact ⟨by rw [e]; rfl, rfl⟩
theorem plainB_no {s : ByteArray} {k : Nat} (h : k < s.size) (hb : okByte s[k] = false) : plainB s = false := by
  rw [Bool.eq_false_iff]
  intro e
  rw [List.all_eq_true.1 e _ (mem_byte h)] at hb
  cases hb
theorem plainB_yes {s : ByteArray} {k : Nat} (h : ¬ k < s.size) (h1 : ∀ x ∈ s.data.toList.take k, okByte x = true) : plainB s = true := List.all_eq_true.2 (take_all h h1)
theorem wrap_byte (x : UInt8) : wrap64 (x.toNat : Int) = (x.toNat : Int) := by
  have := x.toNat_lt
  unfold wrap64
  omega
theorem ok_no {x : UInt8} (h : okByte x = false) (h2 : rng x.toNat 32 126 = true) : ((x.toNat : Int) == 35) = true := by
  unfold okByte at h
  rw [h2] at h
  simpa using h
theorem ok_yes {x : UInt8} (h : okByte x = true) : rng x.toNat 32 126 = true ∧ ((x.toNat : Int) == 35) = false := by
  unfold okByte at h
  simpa using h
set_option maxHeartbeats 1000000 in
theorem isPlain_any (s : ByteArray) (hs : s.size ≤ 1048576) (w : World) : Calls Tryd.prog 19 #[.string s] w fun e w' => e = .returned (.bool (plainB s)) ∧ w' = w := by
  go_enter Tryd.func19, Tryd.ntmps19
  go_wp2
  go_loopw [6] (fun i wr => ∃ k : Nat, k ≤ s.size ∧ i = .int .i64 k ∧ Hid (∀ x ∈ s.data.toList.take k, okByte x = true) ∧ wr = w) (fun i _ => s.size - (intOf i).toNat)
  case atStart => exact ⟨0, Nat.zero_le _, rfl, (fun x h => by simp at h), rfl⟩
  case round =>
    obtain ⟨k, hk, rfl, hN, rfl⟩ := hrel
    by_cases hlt : k < s.size
    · have hw : wrap64 (s[k].toNat : Int) = (s[k].toNat : Int) := wrap_byte _
      cases hb : okByte s[k]
      · cases hr : rng s[k].toNat 32 126
        · go_wp2_with (go_at_call 11; refine (within_any _ _ _ _).mono ?_; rintro e w' ⟨rfl, rfl⟩; rw [hw, hr]; dsimp only)
          go_ret
          exact ⟨by rw [plainB_no hlt hb]; rfl, rfl⟩
        · have h35 := ok_no hb hr
          go_wp2_with (go_at_call 11; refine (within_any _ _ _ _).mono ?_; rintro e w' ⟨rfl, rfl⟩; rw [hw, hr]; dsimp only)
          go_ret
          exact ⟨by rw [plainB_no hlt hb]; rfl, rfl⟩
      · obtain ⟨hr, h35⟩ := ok_yes hb
        go_wp2_with (go_at_call 11; refine (within_any _ _ _ _).mono ?_; rintro e w' ⟨rfl, rfl⟩; rw [hw, hr]; dsimp only)
        go_roundw
        case rel => exact ⟨k + 1, by omega, by simp, take_byte hlt hN.out hb, trivial⟩
        case measure => simp [intOf]; omega
    · go_wp2
      go_ret
      exact ⟨by rw [plainB_yes hlt hN.out]; rfl, rfl⟩
set_option maxHeartbeats 1000000 in
theorem l12Bytes_any (s : ByteArray) (hs : s.size ≤ 1048576) (n : Int) (w : World) : Calls Tryd.prog 14 #[.string s, .int .i64 n] w fun e w' => e = .returned (.bool (plainB s && decide ((s.size : Int) ≤ n))) ∧ w' = w := by
  go_enter Tryd.func14, Tryd.ntmps14
  go_wp2
  go_loopw [5] (fun i wr => ∃ k : Nat, k ≤ s.size ∧ i = .int .i64 k ∧ Hid (∀ x ∈ s.data.toList.take k, okByte x = true) ∧ wr = w) (fun i _ => s.size - (intOf i).toNat)
  case atStart => exact ⟨0, Nat.zero_le _, rfl, (fun x h => by simp at h), rfl⟩
  case round =>
    obtain ⟨k, hk, rfl, hN, rfl⟩ := hrel
    by_cases hlt : k < s.size
    · have hw : wrap64 (s[k].toNat : Int) = (s[k].toNat : Int) := wrap_byte _
      cases hb : okByte s[k]
      · cases hr : rng s[k].toNat 32 126
        · go_wp2_with (go_at_call 8; refine (l1In_any _ _ _ _).mono ?_; rintro e w' ⟨rfl, rfl⟩; rw [hw, hr]; dsimp only)
          go_ret
          exact ⟨by rw [plainB_no hlt hb, Bool.false_and]; rfl, rfl⟩
        · have h35 := ok_no hb hr
          go_wp2_with (go_at_call 8; refine (l1In_any _ _ _ _).mono ?_; rintro e w' ⟨rfl, rfl⟩; rw [hw, hr]; dsimp only)
          go_ret
          exact ⟨by rw [plainB_no hlt hb, Bool.false_and]; rfl, rfl⟩
      · obtain ⟨hr, h35⟩ := ok_yes hb
        go_wp2_with (go_at_call 8; refine (l1In_any _ _ _ _).mono ?_; rintro e w' ⟨rfl, rfl⟩; rw [hw, hr]; dsimp only)
        go_roundw
        case rel => exact ⟨k + 1, by omega, by simp, take_byte hlt hN.out hb, trivial⟩
        case measure => simp [intOf]; omega
    · go_wp2
      go_ret
      exact ⟨by rw [plainB_yes hlt hN.out, Bool.true_and]; rfl, rfl⟩
end Go.Proofs.YtcllhjdohiklkaaDoor
