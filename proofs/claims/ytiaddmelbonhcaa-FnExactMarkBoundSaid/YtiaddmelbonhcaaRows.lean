/-
  No cell of these rows narrows 'for every input' (looked for: loops, veiled, ifaces, maps, wideKeys, modest, calm, conditions, laid).
  DERIVED. THE GIVEN ROWS OF THIS SEAT. 8 by the template 'for every input the law returns true; each argument reads behind the call as it read before'; 0 by the template 'total and deterministic' (their statements: YtiaddmelbonhcaaTotals.lean).
  GIVEN WITH THE SEED: the statements are not yours to turn. If you find one false, say at which input.
  Laid BY PROGRAM, IN A SANDBOX (cutbox-rows.mjs): the forced cells as the released guide's own fill.sh prints them over the translation bea85174343c6cd3… (all of the seat's roots in one cut). By AI agents, Wed Nov 11 2026. No macro, syntax, notation, axiom, sorry.
-/
import Derived.Test.YtiaddmelbonhcaaChecked
import GoSem.Claim
import GoSem.ClaimJoined
import GoSem.ClaimMapViews
import Derived.JoinedTies
import Derived.KernelRfl
namespace Go.Proofs.Ytiaddmelbonhcaa
/- THE CELL 'sum', in the pinned program and in every row, IS THE sha256 OF THE DUMP (.gsa) THAT YtiaddmelbonhcaaProg.lean LOADS. Nothing in Lean hashes anything: it is a label: what it is worth is what the hold of that sum in a sandbox is worth. -/
noncomputable def Try.pinned : Pinned := { name := "ytiaddmelbonhcaa", sum := "bea85174343c6cd38f9e15335061744e4b3060c5e43727e72accdc9cd0a3dcc9", checked := Try.checked }
namespace Rows
def none {H : Type} : Left H := { results := [], args := [] }

/-- 'laws.FnExactPairSteps': WHATEVER THE INPUT: true; the input reads as it did. -/
def fnExactPairStepsSpec : ChangeSpec := { name := "fnExactPairSteps", fn := fun _ => fun
  | [d1, d2, d3] => { results := [.lit (.bool true)], args := [d1, d2, d3] }
  | _ => none }
def fnExactPairStepsRow : OpenClaim := { program := "ytiaddmelbonhcaa", sum := "bea85174343c6cd38f9e15335061744e4b3060c5e43727e72accdc9cd0a3dcc9", func := "loop.example/g01087/laws.FnExactPairSteps", spec := "fnExactPairSteps", unfollowed := true, recurses := true, apart := false }
def FnExactPairStepsSaid : Prop := fnExactPairStepsRow.holds Try.pinned (OpenSpec.ofChange fnExactPairStepsSpec)

/-- ITS FALSE NEIGHBOUR: 'it returns false'. Refute it at one input. -/
def fnExactPairStepsWrong : ChangeSpec := { name := "fnExactPairSteps", fn := fun _ => fun
  | [d1, d2, d3] => { results := [.lit (.bool false)], args := [d1, d2, d3] }
  | _ => none }
def FnExactPairStepsWrongFalsely : Prop := fnExactPairStepsRow.holds Try.pinned (OpenSpec.ofChange fnExactPairStepsWrong)

/-- 'laws.FnExactExtraCost': WHATEVER THE INPUT: true; the input reads as it did. -/
def fnExactExtraCostSpec : ChangeSpec := { name := "fnExactExtraCost", fn := fun _ => fun
  | [d1, d2, d3, d4] => { results := [.lit (.bool true)], args := [d1, d2, d3, d4] }
  | _ => none }
def fnExactExtraCostRow : OpenClaim := { program := "ytiaddmelbonhcaa", sum := "bea85174343c6cd38f9e15335061744e4b3060c5e43727e72accdc9cd0a3dcc9", func := "loop.example/g01087/laws.FnExactExtraCost", spec := "fnExactExtraCost", unfollowed := true, recurses := true, apart := false }
def FnExactExtraCostSaid : Prop := fnExactExtraCostRow.holds Try.pinned (OpenSpec.ofChange fnExactExtraCostSpec)

/-- ITS FALSE NEIGHBOUR: 'it returns false'. Refute it at one input. -/
def fnExactExtraCostWrong : ChangeSpec := { name := "fnExactExtraCost", fn := fun _ => fun
  | [d1, d2, d3, d4] => { results := [.lit (.bool false)], args := [d1, d2, d3, d4] }
  | _ => none }
def FnExactExtraCostWrongFalsely : Prop := fnExactExtraCostRow.holds Try.pinned (OpenSpec.ofChange fnExactExtraCostWrong)

/-- 'laws.FnExactFindPotential': WHATEVER THE INPUT: true; the input reads as it did. -/
def fnExactFindPotentialSpec : ChangeSpec := { name := "fnExactFindPotential", fn := fun _ => fun
  | [d1, d2, d3, d4] => { results := [.lit (.bool true)], args := [d1, d2, d3, d4] }
  | _ => none }
def fnExactFindPotentialRow : OpenClaim := { program := "ytiaddmelbonhcaa", sum := "bea85174343c6cd38f9e15335061744e4b3060c5e43727e72accdc9cd0a3dcc9", func := "loop.example/g01087/laws.FnExactFindPotential", spec := "fnExactFindPotential", unfollowed := true, recurses := true, apart := false }
def FnExactFindPotentialSaid : Prop := fnExactFindPotentialRow.holds Try.pinned (OpenSpec.ofChange fnExactFindPotentialSpec)

/-- ITS FALSE NEIGHBOUR: 'it returns false'. Refute it at one input. -/
def fnExactFindPotentialWrong : ChangeSpec := { name := "fnExactFindPotential", fn := fun _ => fun
  | [d1, d2, d3, d4] => { results := [.lit (.bool false)], args := [d1, d2, d3, d4] }
  | _ => none }
def FnExactFindPotentialWrongFalsely : Prop := fnExactFindPotentialRow.holds Try.pinned (OpenSpec.ofChange fnExactFindPotentialWrong)

/-- 'laws.FnExactFindCycle': WHATEVER THE INPUT: true; the input reads as it did. -/
def fnExactFindCycleSpec : ChangeSpec := { name := "fnExactFindCycle", fn := fun _ => fun
  | [d1, d2, d3, d4] => { results := [.lit (.bool true)], args := [d1, d2, d3, d4] }
  | _ => none }
def fnExactFindCycleRow : OpenClaim := { program := "ytiaddmelbonhcaa", sum := "bea85174343c6cd38f9e15335061744e4b3060c5e43727e72accdc9cd0a3dcc9", func := "loop.example/g01087/laws.FnExactFindCycle", spec := "fnExactFindCycle", unfollowed := true, recurses := true, apart := false }
def FnExactFindCycleSaid : Prop := fnExactFindCycleRow.holds Try.pinned (OpenSpec.ofChange fnExactFindCycleSpec)

/-- ITS FALSE NEIGHBOUR: 'it returns false'. Refute it at one input. -/
def fnExactFindCycleWrong : ChangeSpec := { name := "fnExactFindCycle", fn := fun _ => fun
  | [d1, d2, d3, d4] => { results := [.lit (.bool false)], args := [d1, d2, d3, d4] }
  | _ => none }
def FnExactFindCycleWrongFalsely : Prop := fnExactFindCycleRow.holds Try.pinned (OpenSpec.ofChange fnExactFindCycleWrong)

/-- 'laws.FnExactExactRatio': WHATEVER THE INPUT: true; the input reads as it did. -/
def fnExactExactRatioSpec : ChangeSpec := { name := "fnExactExactRatio", fn := fun _ => fun
  | [d1, d2, d3] => { results := [.lit (.bool true)], args := [d1, d2, d3] }
  | _ => none }
def fnExactExactRatioRow : OpenClaim := { program := "ytiaddmelbonhcaa", sum := "bea85174343c6cd38f9e15335061744e4b3060c5e43727e72accdc9cd0a3dcc9", func := "loop.example/g01087/laws.FnExactExactRatio", spec := "fnExactExactRatio", unfollowed := true, recurses := true, apart := false }
def FnExactExactRatioSaid : Prop := fnExactExactRatioRow.holds Try.pinned (OpenSpec.ofChange fnExactExactRatioSpec)

/-- ITS FALSE NEIGHBOUR: 'it returns false'. Refute it at one input. -/
def fnExactExactRatioWrong : ChangeSpec := { name := "fnExactExactRatio", fn := fun _ => fun
  | [d1, d2, d3] => { results := [.lit (.bool false)], args := [d1, d2, d3] }
  | _ => none }
def FnExactExactRatioWrongFalsely : Prop := fnExactExactRatioRow.holds Try.pinned (OpenSpec.ofChange fnExactExactRatioWrong)

/-- 'laws.FnExactWorstOfMixture': WHATEVER THE INPUT: true; the input reads as it did. -/
def fnExactWorstOfMixtureSpec : ChangeSpec := { name := "fnExactWorstOfMixture", fn := fun _ => fun
  | [d1, d2, d3, d4] => { results := [.lit (.bool true)], args := [d1, d2, d3, d4] }
  | _ => none }
def fnExactWorstOfMixtureRow : OpenClaim := { program := "ytiaddmelbonhcaa", sum := "bea85174343c6cd38f9e15335061744e4b3060c5e43727e72accdc9cd0a3dcc9", func := "loop.example/g01087/laws.FnExactWorstOfMixture", spec := "fnExactWorstOfMixture", unfollowed := true, recurses := true, apart := false }
def FnExactWorstOfMixtureSaid : Prop := fnExactWorstOfMixtureRow.holds Try.pinned (OpenSpec.ofChange fnExactWorstOfMixtureSpec)

/-- ITS FALSE NEIGHBOUR: 'it returns false'. Refute it at one input. -/
def fnExactWorstOfMixtureWrong : ChangeSpec := { name := "fnExactWorstOfMixture", fn := fun _ => fun
  | [d1, d2, d3, d4] => { results := [.lit (.bool false)], args := [d1, d2, d3, d4] }
  | _ => none }
def FnExactWorstOfMixtureWrongFalsely : Prop := fnExactWorstOfMixtureRow.holds Try.pinned (OpenSpec.ofChange fnExactWorstOfMixtureWrong)

/-- 'laws.FnExactCleanCounts': WHATEVER THE INPUT: true; the input reads as it did. -/
def fnExactCleanCountsSpec : ChangeSpec := { name := "fnExactCleanCounts", fn := fun _ => fun
  | [d1, d2, d3] => { results := [.lit (.bool true)], args := [d1, d2, d3] }
  | _ => none }
def fnExactCleanCountsRow : OpenClaim := { program := "ytiaddmelbonhcaa", sum := "bea85174343c6cd38f9e15335061744e4b3060c5e43727e72accdc9cd0a3dcc9", func := "loop.example/g01087/laws.FnExactCleanCounts", spec := "fnExactCleanCounts", unfollowed := true, recurses := true, apart := false }
def FnExactCleanCountsSaid : Prop := fnExactCleanCountsRow.holds Try.pinned (OpenSpec.ofChange fnExactCleanCountsSpec)

/-- ITS FALSE NEIGHBOUR: 'it returns false'. Refute it at one input. -/
def fnExactCleanCountsWrong : ChangeSpec := { name := "fnExactCleanCounts", fn := fun _ => fun
  | [d1, d2, d3] => { results := [.lit (.bool false)], args := [d1, d2, d3] }
  | _ => none }
def FnExactCleanCountsWrongFalsely : Prop := fnExactCleanCountsRow.holds Try.pinned (OpenSpec.ofChange fnExactCleanCountsWrong)

/-- 'laws.FnExactMarkBound': WHATEVER THE INPUT: true; the input reads as it did. -/
def fnExactMarkBoundSpec : ChangeSpec := { name := "fnExactMarkBound", fn := fun _ => fun
  | [d1, d2, d3] => { results := [.lit (.bool true)], args := [d1, d2, d3] }
  | _ => none }
def fnExactMarkBoundRow : OpenClaim := { program := "ytiaddmelbonhcaa", sum := "bea85174343c6cd38f9e15335061744e4b3060c5e43727e72accdc9cd0a3dcc9", func := "loop.example/g01087/laws.FnExactMarkBound", spec := "fnExactMarkBound", unfollowed := true, recurses := true, apart := false }
def FnExactMarkBoundSaid : Prop := fnExactMarkBoundRow.holds Try.pinned (OpenSpec.ofChange fnExactMarkBoundSpec)

/-- ITS FALSE NEIGHBOUR: 'it returns false'. Refute it at one input. -/
def fnExactMarkBoundWrong : ChangeSpec := { name := "fnExactMarkBound", fn := fun _ => fun
  | [d1, d2, d3] => { results := [.lit (.bool false)], args := [d1, d2, d3] }
  | _ => none }
def FnExactMarkBoundWrongFalsely : Prop := fnExactMarkBoundRow.holds Try.pinned (OpenSpec.ofChange fnExactMarkBoundWrong)

/- THE SECOND FORM. 'bulk': how many values and letters a reading holds, each counted each time it is reached (what is shared counts as often as it is met; a slice's spare places count too). A statement '..UptoSaid' is the law's where the arguments, and the package variables that the reading takes, are together of bulk at most 1048576: NARROWER than '..Said'. Prove '..Said' where nothing that the law and all that it calls make is longer than what came in: it says more and counts as full. Else prove '..UptoSaid'. A law counts once. -/
mutual
def uptoBulk {H : Type} : DataW H → Nat
  | .lit (.string bytes) => bytes.length + 1
  | .lit _ => 1
  | .nil => 1
  | .ptr d => uptoBulk d + 1
  | .slice elems spare => uptoBulkAll elems + uptoBulkAll spare + 1
  | .agg parts => uptoBulkAll parts + 1
  | .iface _ d => uptoBulk d + 1
  | .map entries => uptoBulkEntries entries + 1
  | .held _ => 1
def uptoBulkAll {H : Type} : List (DataW H) → Nat
  | [] => 0
  | d :: r => uptoBulk d + uptoBulkAll r
def uptoBulkEntries {H : Type} : List (Lit × DataW H) → Nat
  | [] => 0
  | x :: r => uptoBulkEntry x + uptoBulkEntries r
def uptoBulkEntry {H : Type} : Lit × DataW H → Nat
  | (.string bytes, d) => bytes.length + uptoBulk d + 1
  | (_, d) => uptoBulk d + 1
 end
def uptoSmall : (H : Type) → List (DataW H) → Bool := fun _ ds => decide (uptoBulkAll ds ≤ 1048576)
def OpenSpec.upto (s : _root_.Go.ChangeSpec) : _root_.Go.OpenSpec := { _root_.Go.OpenSpec.ofChange s with cond := some uptoSmall }

/-- 'laws.FnExactPairSteps', WHERE WHAT IT READS IS OF BULK AT MOST 1048576: true; the input reads as it did. -/
def fnExactPairStepsUptoRow : OpenClaim := { program := "ytiaddmelbonhcaa", sum := "bea85174343c6cd38f9e15335061744e4b3060c5e43727e72accdc9cd0a3dcc9", func := "loop.example/g01087/laws.FnExactPairSteps", spec := "fnExactPairSteps", unfollowed := true, recurses := true, apart := false, narrowed := true }
def FnExactPairStepsUptoSaid : Prop := fnExactPairStepsUptoRow.holds Try.pinned (OpenSpec.upto fnExactPairStepsSpec)

/-- 'laws.FnExactExtraCost', WHERE WHAT IT READS IS OF BULK AT MOST 1048576: true; the input reads as it did. -/
def fnExactExtraCostUptoRow : OpenClaim := { program := "ytiaddmelbonhcaa", sum := "bea85174343c6cd38f9e15335061744e4b3060c5e43727e72accdc9cd0a3dcc9", func := "loop.example/g01087/laws.FnExactExtraCost", spec := "fnExactExtraCost", unfollowed := true, recurses := true, apart := false, narrowed := true }
def FnExactExtraCostUptoSaid : Prop := fnExactExtraCostUptoRow.holds Try.pinned (OpenSpec.upto fnExactExtraCostSpec)

/-- 'laws.FnExactFindPotential', WHERE WHAT IT READS IS OF BULK AT MOST 1048576: true; the input reads as it did. -/
def fnExactFindPotentialUptoRow : OpenClaim := { program := "ytiaddmelbonhcaa", sum := "bea85174343c6cd38f9e15335061744e4b3060c5e43727e72accdc9cd0a3dcc9", func := "loop.example/g01087/laws.FnExactFindPotential", spec := "fnExactFindPotential", unfollowed := true, recurses := true, apart := false, narrowed := true }
def FnExactFindPotentialUptoSaid : Prop := fnExactFindPotentialUptoRow.holds Try.pinned (OpenSpec.upto fnExactFindPotentialSpec)

/-- 'laws.FnExactFindCycle', WHERE WHAT IT READS IS OF BULK AT MOST 1048576: true; the input reads as it did. -/
def fnExactFindCycleUptoRow : OpenClaim := { program := "ytiaddmelbonhcaa", sum := "bea85174343c6cd38f9e15335061744e4b3060c5e43727e72accdc9cd0a3dcc9", func := "loop.example/g01087/laws.FnExactFindCycle", spec := "fnExactFindCycle", unfollowed := true, recurses := true, apart := false, narrowed := true }
def FnExactFindCycleUptoSaid : Prop := fnExactFindCycleUptoRow.holds Try.pinned (OpenSpec.upto fnExactFindCycleSpec)

/-- 'laws.FnExactExactRatio', WHERE WHAT IT READS IS OF BULK AT MOST 1048576: true; the input reads as it did. -/
def fnExactExactRatioUptoRow : OpenClaim := { program := "ytiaddmelbonhcaa", sum := "bea85174343c6cd38f9e15335061744e4b3060c5e43727e72accdc9cd0a3dcc9", func := "loop.example/g01087/laws.FnExactExactRatio", spec := "fnExactExactRatio", unfollowed := true, recurses := true, apart := false, narrowed := true }
def FnExactExactRatioUptoSaid : Prop := fnExactExactRatioUptoRow.holds Try.pinned (OpenSpec.upto fnExactExactRatioSpec)

/-- 'laws.FnExactWorstOfMixture', WHERE WHAT IT READS IS OF BULK AT MOST 1048576: true; the input reads as it did. -/
def fnExactWorstOfMixtureUptoRow : OpenClaim := { program := "ytiaddmelbonhcaa", sum := "bea85174343c6cd38f9e15335061744e4b3060c5e43727e72accdc9cd0a3dcc9", func := "loop.example/g01087/laws.FnExactWorstOfMixture", spec := "fnExactWorstOfMixture", unfollowed := true, recurses := true, apart := false, narrowed := true }
def FnExactWorstOfMixtureUptoSaid : Prop := fnExactWorstOfMixtureUptoRow.holds Try.pinned (OpenSpec.upto fnExactWorstOfMixtureSpec)

/-- 'laws.FnExactCleanCounts', WHERE WHAT IT READS IS OF BULK AT MOST 1048576: true; the input reads as it did. -/
def fnExactCleanCountsUptoRow : OpenClaim := { program := "ytiaddmelbonhcaa", sum := "bea85174343c6cd38f9e15335061744e4b3060c5e43727e72accdc9cd0a3dcc9", func := "loop.example/g01087/laws.FnExactCleanCounts", spec := "fnExactCleanCounts", unfollowed := true, recurses := true, apart := false, narrowed := true }
def FnExactCleanCountsUptoSaid : Prop := fnExactCleanCountsUptoRow.holds Try.pinned (OpenSpec.upto fnExactCleanCountsSpec)

/-- 'laws.FnExactMarkBound', WHERE WHAT IT READS IS OF BULK AT MOST 1048576: true; the input reads as it did. -/
def fnExactMarkBoundUptoRow : OpenClaim := { program := "ytiaddmelbonhcaa", sum := "bea85174343c6cd38f9e15335061744e4b3060c5e43727e72accdc9cd0a3dcc9", func := "loop.example/g01087/laws.FnExactMarkBound", spec := "fnExactMarkBound", unfollowed := true, recurses := true, apart := false, narrowed := true }
def FnExactMarkBoundUptoSaid : Prop := fnExactMarkBoundUptoRow.holds Try.pinned (OpenSpec.upto fnExactMarkBoundSpec)

end Rows
end Go.Proofs.Ytiaddmelbonhcaa
