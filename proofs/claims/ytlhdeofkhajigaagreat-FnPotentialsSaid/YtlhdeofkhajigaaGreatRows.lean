/-
  No cell of these rows narrows 'for every input' (looked for: loops, veiled, ifaces, maps, wideKeys, modest, calm, conditions, laid).
  DERIVED. THE GIVEN ROWS OF THIS SEAT. 3 by the template 'for every input the law returns true; each argument reads behind the call as it read before'; 0 by the template 'total and deterministic' (their statements: YtlhdeofkhajigaaGreatTotals.lean).
  GIVEN WITH THE SEED: the statements are not yours to turn. If you find one false, say at which input.
  Laid BY PROGRAM, IN A SANDBOX (cutbox-rows.mjs): the forced cells as the released guide's own fill.sh prints them over the translation c793d602ff49d72a… (all of the seat's roots in one cut). By AI agents, Wed Nov 11 2026. No macro, syntax, notation, axiom, sorry.
-/
import Derived.Test.YtlhdeofkhajigaaGreatChecked
import GoSem.Claim
import GoSem.ClaimJoined
import GoSem.ClaimMapViews
import Derived.JoinedTies
import Derived.KernelRfl
namespace Go.Proofs.YtlhdeofkhajigaaGreat
/- THE CELL 'sum', in the pinned program and in every row, IS THE sha256 OF THE DUMP (.gsa) THAT YtlhdeofkhajigaaGreatProg.lean LOADS. Nothing in Lean hashes anything: it is a label: what it is worth is what the hold of that sum in a sandbox is worth. -/
noncomputable def Tryz.pinned : Pinned := { name := "ytlhdeofkhajigaagreat", sum := "c793d602ff49d72a7090836ddf7e5817b4057b168ed0af9e645adb08a50e3116", checked := Tryz.checked }
namespace Rows
def none {H : Type} : Left H := { results := [], args := [] }

/-- 'laws.FnPotentials': WHATEVER THE INPUT: true; the input reads as it did. -/
def fnPotentialsSpec : ChangeSpec := { name := "fnPotentials", fn := fun _ => fun
  | [d] => { results := [.lit (.bool true)], args := [d] }
  | _ => none }
def fnPotentialsRow : OpenClaim := { program := "ytlhdeofkhajigaagreat", sum := "c793d602ff49d72a7090836ddf7e5817b4057b168ed0af9e645adb08a50e3116", func := "loop.example/g01087/laws.FnPotentials", spec := "fnPotentials", unfollowed := true, recurses := true, apart := false }
def FnPotentialsSaid : Prop := fnPotentialsRow.holds Tryz.pinned (OpenSpec.ofChange fnPotentialsSpec)

/-- ITS FALSE NEIGHBOUR: 'it returns false'. Refute it at one input. -/
def fnPotentialsWrong : ChangeSpec := { name := "fnPotentials", fn := fun _ => fun
  | [d] => { results := [.lit (.bool false)], args := [d] }
  | _ => none }
def FnPotentialsWrongFalsely : Prop := fnPotentialsRow.holds Tryz.pinned (OpenSpec.ofChange fnPotentialsWrong)

/-- 'laws.FnRatios': WHATEVER THE INPUT: true; the input reads as it did. -/
def fnRatiosSpec : ChangeSpec := { name := "fnRatios", fn := fun _ => fun
  | [d] => { results := [.lit (.bool true)], args := [d] }
  | _ => none }
def fnRatiosRow : OpenClaim := { program := "ytlhdeofkhajigaagreat", sum := "c793d602ff49d72a7090836ddf7e5817b4057b168ed0af9e645adb08a50e3116", func := "loop.example/g01087/laws.FnRatios", spec := "fnRatios", unfollowed := true, recurses := true, apart := false }
def FnRatiosSaid : Prop := fnRatiosRow.holds Tryz.pinned (OpenSpec.ofChange fnRatiosSpec)

/-- ITS FALSE NEIGHBOUR: 'it returns false'. Refute it at one input. -/
def fnRatiosWrong : ChangeSpec := { name := "fnRatios", fn := fun _ => fun
  | [d] => { results := [.lit (.bool false)], args := [d] }
  | _ => none }
def FnRatiosWrongFalsely : Prop := fnRatiosRow.holds Tryz.pinned (OpenSpec.ofChange fnRatiosWrong)

/-- 'laws.FnCycles': WHATEVER THE INPUT: true; the input reads as it did. -/
def fnCyclesSpec : ChangeSpec := { name := "fnCycles", fn := fun _ => fun
  | [d] => { results := [.lit (.bool true)], args := [d] }
  | _ => none }
def fnCyclesRow : OpenClaim := { program := "ytlhdeofkhajigaagreat", sum := "c793d602ff49d72a7090836ddf7e5817b4057b168ed0af9e645adb08a50e3116", func := "loop.example/g01087/laws.FnCycles", spec := "fnCycles", unfollowed := true, recurses := true, apart := false }
def FnCyclesSaid : Prop := fnCyclesRow.holds Tryz.pinned (OpenSpec.ofChange fnCyclesSpec)

/-- ITS FALSE NEIGHBOUR: 'it returns false'. Refute it at one input. -/
def fnCyclesWrong : ChangeSpec := { name := "fnCycles", fn := fun _ => fun
  | [d] => { results := [.lit (.bool false)], args := [d] }
  | _ => none }
def FnCyclesWrongFalsely : Prop := fnCyclesRow.holds Tryz.pinned (OpenSpec.ofChange fnCyclesWrong)

/- THE SECOND FORM. 'bulk': how many values and letters a reading holds, each counted each time it is reached (what is shared counts as often as it is met; a slice's spare places count too). A statement '..UptoSaid' is the law's where the arguments, and the package variables that the reading takes, are together of bulk at most 1048576: NARROWER than '..Said'. Prove '..Said' where nothing that the law and all that it calls make is longer than what came in: it says more and counts as full. Else prove '..UptoSaid'. A law counts once. -/
mutual
def uptoBulk {H : Type} : DataW H → Nat
  | .lit (.string bytes) => bytes.length + 1
  | .lit _ => 1
  | .nil => 1
  | .ptr d => uptoBulk d + 1
  | .slice elems spare => uptoBulkAll elems + uptoBulkAll spare + 1
  | .agg parts => uptoBulkAll parts + 1
  | .iface _ d => uptoBulk d + 1
  | .map entries => uptoBulkEntries entries + 1
  | .held _ => 1
def uptoBulkAll {H : Type} : List (DataW H) → Nat
  | [] => 0
  | d :: r => uptoBulk d + uptoBulkAll r
def uptoBulkEntries {H : Type} : List (Lit × DataW H) → Nat
  | [] => 0
  | x :: r => uptoBulkEntry x + uptoBulkEntries r
def uptoBulkEntry {H : Type} : Lit × DataW H → Nat
  | (.string bytes, d) => bytes.length + uptoBulk d + 1
  | (_, d) => uptoBulk d + 1
 end
def uptoSmall : (H : Type) → List (DataW H) → Bool := fun _ ds => decide (uptoBulkAll ds ≤ 1048576)
def OpenSpec.upto (s : _root_.Go.ChangeSpec) : _root_.Go.OpenSpec := { _root_.Go.OpenSpec.ofChange s with cond := some uptoSmall }

/-- 'laws.FnPotentials', WHERE WHAT IT READS IS OF BULK AT MOST 1048576: true; the input reads as it did. -/
def fnPotentialsUptoRow : OpenClaim := { program := "ytlhdeofkhajigaagreat", sum := "c793d602ff49d72a7090836ddf7e5817b4057b168ed0af9e645adb08a50e3116", func := "loop.example/g01087/laws.FnPotentials", spec := "fnPotentials", unfollowed := true, recurses := true, apart := false, narrowed := true }
def FnPotentialsUptoSaid : Prop := fnPotentialsUptoRow.holds Tryz.pinned (OpenSpec.upto fnPotentialsSpec)

/-- 'laws.FnRatios', WHERE WHAT IT READS IS OF BULK AT MOST 1048576: true; the input reads as it did. -/
def fnRatiosUptoRow : OpenClaim := { program := "ytlhdeofkhajigaagreat", sum := "c793d602ff49d72a7090836ddf7e5817b4057b168ed0af9e645adb08a50e3116", func := "loop.example/g01087/laws.FnRatios", spec := "fnRatios", unfollowed := true, recurses := true, apart := false, narrowed := true }
def FnRatiosUptoSaid : Prop := fnRatiosUptoRow.holds Tryz.pinned (OpenSpec.upto fnRatiosSpec)

/-- 'laws.FnCycles', WHERE WHAT IT READS IS OF BULK AT MOST 1048576: true; the input reads as it did. -/
def fnCyclesUptoRow : OpenClaim := { program := "ytlhdeofkhajigaagreat", sum := "c793d602ff49d72a7090836ddf7e5817b4057b168ed0af9e645adb08a50e3116", func := "loop.example/g01087/laws.FnCycles", spec := "fnCycles", unfollowed := true, recurses := true, apart := false, narrowed := true }
def FnCyclesUptoSaid : Prop := fnCyclesUptoRow.holds Tryz.pinned (OpenSpec.upto fnCyclesSpec)

end Rows
end Go.Proofs.YtlhdeofkhajigaaGreat
