/- strings.Contains at a text of one byte: whether that byte stands in a string. Conditions: none. -/
import Derived.Shelf.Strings.Search3
import Derived.Test.YtcllhjdohiklkaaDoorPlain
set_option linter.all false
set_option linter.unusedSimpArgs false
set_option linter.unusedVariables false
namespace Go.Proofs.YtcllhjdohiklkaaDoor
open Go.Shelf Go.RowKit

def conRen : Ren := ⟨fun n => if n = 143 then 26 else if n = 144 then 23 else if n = 217 then 30 else if n = 219 then 28 else if n = 224 then 32 else if n = 225 then 31 else if n = 266 then 38 else if n = 267 then 33 else 39, fun n => if n = 3 then 3 else if n = 4 then 4 else if n = 5 then 5 else if n = 9 then 9 else if n = 46 then 45 else if n = 51 then 53 else 54, fun _ => 0⟩
theorem conLays : Lays.n144 Tryd.prog conRen where
  mixed := by kernel_rfl
  f143 := by kernel_rfl
  f144 := by kernel_rfl
  f217 := by kernel_rfl
  f219 := by kernel_rfl
  f224 := by kernel_rfl
  f225 := by kernel_rfl
  f266 := by kernel_rfl
  f267 := by kernel_rfl
  f314 := by kernel_rfl
  t3 := by kernel_rfl
  a3 := fun _ => by kernel_rfl
  z3 := fun _ => by kernel_rfl
  v3 := fun _ => by kernel_rfl
  t4 := by kernel_rfl
  a4 := fun _ => by kernel_rfl
  z4 := fun _ => by kernel_rfl
  v4 := fun _ => by kernel_rfl
  t5 := by kernel_rfl
  a5 := fun _ => by kernel_rfl
  z5 := fun _ => by kernel_rfl
  v5 := fun _ => by kernel_rfl
  t9 := by kernel_rfl
  a9 := fun _ => by kernel_rfl
  z9 := fun _ => by kernel_rfl
  v9 := fun _ => by kernel_rfl
  t46 := by kernel_rfl
  a46 := fun _ => by kernel_rfl
  z46 := fun _ => by kernel_rfl
  v46 := fun _ => by kernel_rfl
  t51 := by kernel_rfl
  a51 := fun _ => by kernel_rfl
  z51 := fun _ => by kernel_rfl
  v51 := fun _ => by kernel_rfl
  t146 := by kernel_rfl
  a146 := fun _ => by kernel_rfl
  z146 := fun _ => by kernel_rfl
  v146 := fun _ => by kernel_rfl
  g1 := by kernel_rfl
theorem indexByte_any : ∀ l : List UInt8, decide (0 ≤ Lib.indexByte l 64) = l.any isAt
  | [] => rfl
  | x :: l => by
    have ih := indexByte_any l
    have hge := Lib.indexByte_ge l 64
    have e : (x == (64 : UInt8)) = isAt x := by
      unfold isAt
      rw [Bool.eq_iff_iff, beq_iff_eq, beq_iff_eq]
      refine ⟨fun h => by subst h; rfl, fun h => ?_⟩
      have h1 : x.toNat = 64 := by omega
      exact UInt8.toNat_inj.1 h1
    unfold Lib.indexByte
    rw [e, List.any_cons, ← ih]
    cases isAt x
    · by_cases h : Lib.indexByte l 64 = -1
      · simp [h]
      · have h2 : (Lib.indexByte l 64 == -1) = false := by simpa using h
        simp only [h2, Bool.false_or, Bool.false_eq_true, if_false]
        rw [decide_eq_decide]
        omega
    · rfl
theorem contains_any (s : ByteArray) (w : World) : Calls Tryd.prog 23 #[.string s, .string ⟨#[64]⟩] w fun e w' => e = .returned (.bool (s.data.toList.any isAt)) ∧ w' = w := by
  rw [← indexByte_any]
  exact Any.strings_Contains_one conLays s 64 w
end Go.Proofs.YtcllhjdohiklkaaDoor
