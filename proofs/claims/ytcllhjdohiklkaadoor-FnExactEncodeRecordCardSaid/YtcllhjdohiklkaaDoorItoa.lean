/- The decimal numeral of a number, by the library's and the reference's functions, and checksums. Conditions: those that each names. -/
import Derived.Shelf.Strconv.Itoa3
import Derived.Lib.AppendIntMem
import Derived.Lib.ItoaLen
import Derived.Lib.SmallJoins
import Derived.Test.YtcllhjdohiklkaaDoorRecord
set_option linter.all false
set_option linter.unusedSimpArgs false
set_option linter.unusedVariables false
namespace Go.Proofs.YtcllhjdohiklkaaDoor
open Go.Shelf Go.RowKit

def itoRen : Ren := ⟨fun n => if n = 129 then 41 else if n = 171 then 25 else if n = 243 then 27 else if n = 246 then 29 else if n = 283 then 34 else if n = 284 then 35 else if n = 285 then 36 else if n = 286 then 37 else if n = 317 then 40 else if n = 318 then 42 else if n = 319 then 43 else if n = 320 then 44 else if n = 337 then 45 else if n = 338 then 46 else 0, fun n => if n = 0 then 0 else if n = 2 then 2 else if n = 3 then 3 else if n = 4 then 4 else if n = 5 then 5 else if n = 9 then 9 else if n = 20 then 20 else if n = 37 then 50 else if n = 46 then 45 else if n = 51 then 53 else if n = 53 then 47 else if n = 171 then 46 else if n = 173 then 51 else if n = 212 then 57 else if n = 213 then 58 else if n = 232 then 62 else if n = 233 then 63 else 0, fun n => if n = 17 then 1 else if n = 18 then 2 else 3⟩
theorem itoLays : LaysM.n171 Tryd.prog itoRen where
  mixed := by kernel_rfl
  f129 := by kernel_rfl
  f171 := by kernel_rfl
  f243 := by kernel_rfl
  f246 := by kernel_rfl
  f283 := by kernel_rfl
  f284 := by kernel_rfl
  f285 := by kernel_rfl
  f286 := by kernel_rfl
  f317 := by kernel_rfl
  f318 := by kernel_rfl
  f319 := by kernel_rfl
  f320 := by kernel_rfl
  f337 := by kernel_rfl
  f338 := by kernel_rfl
  t0 := by kernel_rfl
  a0 := fun _ => by kernel_rfl
  z0 := fun _ => by kernel_rfl
  v0 := fun _ => by kernel_rfl
  t2 := by kernel_rfl
  a2 := fun _ => by kernel_rfl
  z2 := fun _ => by kernel_rfl
  v2 := fun _ => by kernel_rfl
  t3 := by kernel_rfl
  a3 := fun _ => by kernel_rfl
  z3 := fun _ => by kernel_rfl
  v3 := fun _ => by kernel_rfl
  t4 := by kernel_rfl
  a4 := fun _ => by kernel_rfl
  z4 := fun _ => by kernel_rfl
  v4 := fun _ => by kernel_rfl
  t5 := by kernel_rfl
  a5 := fun _ => by kernel_rfl
  z5 := fun _ => by kernel_rfl
  v5 := fun _ => by kernel_rfl
  t9 := by kernel_rfl
  a9 := fun _ => by kernel_rfl
  z9 := fun _ => by kernel_rfl
  v9 := fun _ => by kernel_rfl
  t20 := by kernel_rfl
  a20 := fun _ => by kernel_rfl
  z20 := fun _ => by kernel_rfl
  v20 := fun _ => by kernel_rfl
  t37 := by kernel_rfl
  a37 := fun _ => by kernel_rfl
  z37 := fun _ => by kernel_rfl
  v37 := fun _ => by kernel_rfl
  t46 := by kernel_rfl
  a46 := fun _ => by kernel_rfl
  z46 := fun _ => by kernel_rfl
  v46 := fun _ => by kernel_rfl
  t51 := by kernel_rfl
  a51 := fun _ => by kernel_rfl
  z51 := fun _ => by kernel_rfl
  v51 := fun _ => by kernel_rfl
  t53 := by kernel_rfl
  a53 := fun _ => by kernel_rfl
  z53 := fun _ => by kernel_rfl
  v53 := fun _ => by kernel_rfl
  t171 := by kernel_rfl
  a171 := fun _ => by kernel_rfl
  z171 := fun _ => by kernel_rfl
  v171 := fun _ => by kernel_rfl
  t173 := by kernel_rfl
  a173 := fun _ => by kernel_rfl
  z173 := fun _ => by kernel_rfl
  v173 := fun _ => by kernel_rfl
  t212 := by kernel_rfl
  a212 := fun _ => by kernel_rfl
  z212 := fun _ => by kernel_rfl
  v212 := fun _ => by kernel_rfl
  t213 := by kernel_rfl
  a213 := fun _ => by kernel_rfl
  z213 := fun _ => by kernel_rfl
  t232 := by kernel_rfl
  a232 := fun _ => by kernel_rfl
  z232 := fun _ => by kernel_rfl
  v232 := fun _ => by kernel_rfl
  t233 := by kernel_rfl
  a233 := fun _ => by kernel_rfl
  z233 := fun _ => by kernel_rfl
  v233 := fun _ => by kernel_rfl
  g17 := by kernel_rfl
  g18 := by kernel_rfl
  g19 := by kernel_rfl
  i0 := by kernel_rfl
  i2 := by kernel_rfl
  i3 := by kernel_rfl
  i4 := by kernel_rfl
  i5 := by kernel_rfl
  i9 := by kernel_rfl
  i20 := by kernel_rfl
  i37 := by kernel_rfl
  i46 := by kernel_rfl
  i51 := by kernel_rfl
  i53 := by kernel_rfl
  i171 := by kernel_rfl
  i173 := by kernel_rfl
  i212 := by kernel_rfl
  i232 := by kernel_rfl
  i233 := by kernel_rfl
  m17 := by kernel_rfl
  m18 := by kernel_rfl
  m19 := by kernel_rfl

abbrev powN : String := "internal/strconv.uint64pow10"
def Tab (w : World) : Prop := Lib.TabIs Tryd.prog w powN .u64 Lib.pow10Tab
theorem gPow : Tryd.prog.globalNamed powN = some 1 := by kernel_rfl
theorem Tab.below {w w' : World} (h : Tab w) (hb : Below w.heap.size w w') : Tab w' := Joins.tab_stays gPow h hb (Nat.le_refl _)
def numB (n : Nat) : ByteArray := ⟨(Lib.decDigits n).toArray⟩
theorem dec_any (n : Nat) (hn : n ≤ 1000000) (w : World) (ht : Tab w) : Calls Tryd.prog 21 #[.int .i64 n] w fun e w' => e = .returned (.string (numB n)) ∧ Below w.heap.size w w' := by
  have e1 : Lib.itoa (n : Int) = Lib.decDigits n := by unfold Lib.itoa; rw [if_neg (by omega), Int.toNat_natCast]
  have h := Any.strconv_Itoa itoLays (n : Int) (by omega) (by omega) w ht
  rw [e1] at h
  go_enter Tryd.func21, Tryd.ntmps21
  go_wp2_with (go_at_call 25; refine h.mono ?_; rintro e w' ⟨rfl, k, os, rfl⟩)
  go_ret
  exact ⟨rfl, Lib.below_grow _ _ (Nat.le_refl _) _ _⟩
/-! ### the reference's numeral -/
theorem dec_small {n : Nat} (h : n < 10) : Lib.decDigits n = [UInt8.ofNat (48 + n)] := by rw [Lib.decDigits, dif_pos h]
theorem dec_big {n : Nat} (h : ¬ n < 10) : Lib.decDigits n = Lib.decDigits (n / 10) ++ [UInt8.ofNat (48 + n % 10)] := by rw [Lib.decDigits, dif_neg h]
def tenS : ByteArray := ⟨#[48, 49, 50, 51, 52, 53, 54, 55, 56, 57]⟩
theorem numB_size {n : Nat} (hn : n ≤ 1000000) : (numB n).size ≤ 21 := by
  have h := Lib.itoa_length_le (n : Int) (by omega) (by omega)
  have e1 : Lib.itoa (n : Int) = Lib.decDigits n := by unfold Lib.itoa; rw [if_neg (by omega), Int.toNat_natCast]
  rw [e1] at h
  exact h
theorem ten_at (i j : Int) (k : Nat) (hi : i = k) (hj : j = (k : Int) + 1) (hk : k < 10) (W : World) : (Instr.slice 9 (.string ⟨#[48, 49, 50, 51, 52, 53, 54, 55, 56, 57]⟩) (some (.int .i64 i)) (some (.int .i64 j)) none).run Tryd.prog W = .ok (.string (tenS.extract k (k + 1))) W := by
  subst hi hj
  have hsz : (⟨#[48, 49, 50, 51, 52, 53, 54, 55, 56, 57]⟩ : ByteArray).size = 10 := rfl
  rw [run_slice_string W 9 _ .i64 .i64 (k : Int) ((k : Int) + 1) Tryd.underlying9 (by omega) (by omega) (by rw [hsz]; omega), Int.toNat_natCast, show ((k : Int) + 1).toNat = k + 1 by omega]
  rfl
theorem ten_ex {k : Nat} (hk : k < 10) : tenS.extract k (k + 1) = ⟨#[UInt8.ofNat (48 + k)]⟩ := by
  match k, hk with
  | 0, _ => rfl
  | 1, _ => rfl
  | 2, _ => rfl
  | 3, _ => rfl
  | 4, _ => rfl
  | 5, _ => rfl
  | 6, _ => rfl
  | 7, _ => rfl
  | 8, _ => rfl
  | 9, _ => rfl
theorem numB_big {n : Nat} (h : ¬ n < 10) : numB n = numB (n / 10) ++ ⟨#[UInt8.ofNat (48 + n % 10)]⟩ := by
  unfold numB
  rw [dec_big h, show (#[UInt8.ofNat (48 + n % 10)] : Array UInt8) = [UInt8.ofNat (48 + n % 10)].toArray from rfl, ByteArray.mk_append_mk]
set_option maxHeartbeats 1000000 in
theorem l1Num_any : ∀ (n : Nat), n ≤ 1000000 → ∀ w : World, Calls Tryd.prog 17 #[.int .i64 n] w fun e w' => e = .returned (.string (numB n)) ∧ Qt w w' := fun n => by
  induction n using Nat.strongRecOn with
  | _ n ih =>
    intro hn w
    by_cases h : n < 10
    · have hsl : ∀ W, (Instr.slice 9 (.string ⟨#[48, 49, 50, 51, 52, 53, 54, 55, 56, 57]⟩) (some (.int .i64 n)) (some (.int .i64 ((n : Int) + 1))) none).run Tryd.prog W = .ok (.string (tenS.extract n (n + 1))) W := fun W => ten_at (n : Int) _ n rfl rfl h W
      go_enter Tryd.func17, Tryd.ntmps17
      go_wp2
      go_ret
      exact ⟨by rw [ten_ex h, numB, dec_small h]; rfl, Qt.refl _⟩
    · have hlt : n % 10 < 10 := Nat.mod_lt _ (by decide)
      have hm : (n : Int).tmod 10 = ((n % 10 : Nat) : Int) := by rw [Int.tmod_eq_emod_of_nonneg (by omega)]; omega
      have hsl : ∀ W, (Instr.slice 9 (.string ⟨#[48, 49, 50, 51, 52, 53, 54, 55, 56, 57]⟩) (some (.int .i64 ((n : Int).tmod 10))) (some (.int .i64 (IntKind.i64.wrap ((n : Int).tmod 10 + 1)))) none).run Tryd.prog W = .ok (.string (tenS.extract (n % 10) (n % 10 + 1))) W := fun W => ten_at _ _ (n % 10) hm (by rw [hm, IntWalk.i64_in _ ⟨by omega, by omega⟩]) hlt W
      clear hm
      have hc : ∀ w, Calls Tryd.prog 17 #[.int .i64 (IntKind.i64.wrap ((n : Int) / 10))] w fun e w' => e = .returned (.string (numB (n / 10))) ∧ Qt w w' := by rw [show IntKind.i64.wrap ((n : Int) / 10) = ((n / 10 : Nat) : Int) by rw [IntWalk.i64_in _ ⟨by omega, by omega⟩]; omega]; exact ih (n / 10) (by omega) (by omega)
      clear ih
      have hadd : ∀ W, (Op.stringOp .add (numB (n / 10)) (tenS.extract (n % 10) (n % 10 + 1))).run Tryd.prog W = .ok (.string (numB (n / 10) ++ tenS.extract (n % 10) (n % 10 + 1))) W := fun W => run_string_add_sum W _ _ (by
        have h1 := numB_size (n := n / 10) (by omega)
        rw [ten_ex hlt]
        show _ + 1 ≤ _
        omega)
      go_enter Tryd.func17, Tryd.ntmps17
      go_wp2
      go_quiet ((go_at_call 17; first | (with_reducible exact quiet4 (hc _)) | (with_reducible exact quiet5 (hc _))))
      go_wp2
      go_ret
      refine ⟨?_, by first | exact ⟨_, rfl⟩ | exact ⟨_, World.drewN_drewN _ _ _⟩⟩
      show Ending.returned (Value.string (numB (n / 10) ++ tenS.extract (n % 10) (n % 10 + 1))) = _
      rw [ten_ex hlt, ← numB_big h]
/-! ### checksums -/
def chk (l : List UInt8) : Int := l.foldl (fun h x => (41 * h + x.toNat + 1) % 999979) 7
theorem chk_snoc (l : List UInt8) (x : UInt8) : chk (l ++ [x]) = (41 * chk l + x.toNat + 1) % 999979 := by simp [chk]
theorem chk_bd : ∀ l : List UInt8, 0 ≤ chk l ∧ chk l < 999979 := fun l => by
  rcases List.eq_nil_or_concat l with rfl | ⟨l', x, rfl⟩
  · exact ⟨by decide, by decide⟩
  · rw [List.concat_eq_append, chk_snoc]
    exact ⟨Int.emod_nonneg _ (by decide), Int.emod_lt_of_pos _ (by decide)⟩
set_option maxHeartbeats 1000000 in
theorem checksum_any (s : ByteArray) (hs : s.size ≤ 1048576) (w : World) : Calls Tryd.prog 24 #[.string s] w fun e w' => e = .returned (.int .i64 (chk s.data.toList)) ∧ w' = w := by
  go_enter Tryd.func24, Tryd.ntmps24
  go_wp2
  go_loopw [3, 7] (fun h i wr => ∃ k : Nat, k ≤ s.size ∧ i = .int .i64 k ∧ h = .int .i64 (chk (s.data.toList.take k)) ∧ wr = w) (fun _ i _ => s.size - (intOf i).toNat)
  case atStart => exact ⟨0, Nat.zero_le _, rfl, rfl, rfl⟩
  case round =>
    obtain ⟨k, hk, rfl, rfl, rfl⟩ := hrel
    have hb := chk_bd (s.data.toList.take k)
    by_cases hlt : k < s.size
    · have hw : wrap64 (s[k].toNat : Int) = (s[k].toNat : Int) := wrap_byte _
      have hx := s[k].toNat_lt
      obtain ⟨h', e⟩ := at_byte hlt
      have hn : chk (s.data.toList.take (k + 1)) = (41 * chk (s.data.toList.take k) + s[k].toNat + 1) % 999979 := by rw [List.take_succ_eq_append_getElem h', chk_snoc, e]
      go_wp2
      go_roundw
      case rel => exact ⟨k + 1, by omega, by simp, by rw [hn], trivial⟩
      case measure => simp [intOf]; omega
    · obtain rfl : k = s.size := by omega
      have e : s.data.toList.take s.size = s.data.toList := List.take_of_length_le (by rw [Array.length_toList]; exact Nat.le_refl _)
      go_wp2
      go_ret
      exact ⟨by conv => rhs; rw [← e]
                rfl, rfl⟩
set_option maxHeartbeats 1000000 in
theorem l1Sum_any (s : ByteArray) (hs : s.size ≤ 1048576) (w : World) : Calls Tryd.prog 22 #[.string s] w fun e w' => e = .returned (.int .i64 (chk s.data.toList)) ∧ w' = w := by
  go_enter Tryd.func22, Tryd.ntmps22
  go_wp2
  go_loopw [3, 4] (fun h i wr => ∃ k : Nat, k ≤ s.size ∧ i = .int .i64 k ∧ h = .int .i64 (chk (s.data.toList.take k)) ∧ wr = w) (fun _ i _ => s.size - (intOf i).toNat)
  case atStart => exact ⟨0, Nat.zero_le _, rfl, rfl, rfl⟩
  case round =>
    obtain ⟨k, hk, rfl, rfl, rfl⟩ := hrel
    have hb := chk_bd (s.data.toList.take k)
    by_cases hlt : k < s.size
    · have hw : wrap64 (s[k].toNat : Int) = (s[k].toNat : Int) := wrap_byte _
      have hx := s[k].toNat_lt
      obtain ⟨h', e⟩ := at_byte hlt
      have hn : chk (s.data.toList.take (k + 1)) = (41 * chk (s.data.toList.take k) + s[k].toNat + 1) % 999979 := by rw [List.take_succ_eq_append_getElem h', chk_snoc, e]
      go_wp2
      go_roundw
      case rel => exact ⟨k + 1, by omega, by simp, by rw [hn], trivial⟩
      case measure => simp [intOf]; omega
    · obtain rfl : k = s.size := by omega
      have e : s.data.toList.take s.size = s.data.toList := List.take_of_length_le (by rw [Array.length_toList]; exact Nat.le_refl _)
      go_wp2
      go_ret
      exact ⟨by conv => rhs; rw [← e]
                rfl, rfl⟩
end Go.Proofs.YtcllhjdohiklkaaDoor
