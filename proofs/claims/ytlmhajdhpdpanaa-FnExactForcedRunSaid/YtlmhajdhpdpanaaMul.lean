/- math/bits.Mul: the product of two words, in two words. Conditions: none. -/
import Derived.Shelf.Bits.Mul64
import Derived.Test.YtlmhajdhpdpanaaProg
import Derived.Test.YtlmhajdhpdpanaaBase
set_option linter.all false
set_option linter.unusedSimpArgs false
set_option linter.unusedVariables false
namespace Go.Proofs.Ytlmhajdhpdpanaa
open Go.Shelf Go.RowKit

def mulRen : Ren := ⟨fun n => if n = 212 then 214 else if n = 263 then 221 else 222, fun n => if n = 46 then 244 else if n = 51 then 255 else if n = 53 then 258 else if n = 146 then 256 else 259, fun n => n⟩
theorem mulLays : Lays.n212 Try.prog mulRen where
  mixed := by kernel_rfl
  f212 := by kernel_rfl
  f263 := by kernel_rfl
  f264 := by kernel_rfl
  t46 := by kernel_rfl
  a46 := fun _ => by kernel_rfl
  z46 := fun _ => by kernel_rfl
  v46 := fun _ => by kernel_rfl
  t51 := by kernel_rfl
  a51 := fun _ => by kernel_rfl
  z51 := fun _ => by kernel_rfl
  v51 := fun _ => by kernel_rfl
  t53 := by kernel_rfl
  a53 := fun _ => by kernel_rfl
  z53 := fun _ => by kernel_rfl
  v53 := fun _ => by kernel_rfl
  t146 := by kernel_rfl
  a146 := fun _ => by kernel_rfl
  z146 := fun _ => by kernel_rfl
  v146 := fun _ => by kernel_rfl
  t148 := by kernel_rfl
  a148 := fun _ => by kernel_rfl
  z148 := fun _ => by kernel_rfl
  v148 := fun _ => by kernel_rfl
theorem mul_any (x y : Nat) (hx : x < 18446744073709551616) (hy : y < 18446744073709551616) (w : World) :
    Calls Try.prog 214 #[.int .u64 x, .int .u64 y] w fun e w' => e = .returned (.tuple #[.int .u64 ((x * y / 18446744073709551616 : Nat) : Int), .int .u64 ((x * y % 18446744073709551616 : Nat) : Int)]) ∧ w' = w :=
  Any.bits_Mul mulLays x y hx hy w
end Go.Proofs.Ytlmhajdhpdpanaa
