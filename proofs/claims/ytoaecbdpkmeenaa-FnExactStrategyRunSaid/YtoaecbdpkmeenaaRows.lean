/-
  No cell of these rows narrows 'for every input' (looked for: loops, veiled, ifaces, maps, wideKeys, modest, calm, conditions, laid).
  DERIVED. THE GIVEN ROWS OF THIS SEAT. 12 by the template 'for every input the law returns true; each argument reads behind the call as it read before'; 0 by the template 'total and deterministic' (their statements: YtoaecbdpkmeenaaTotals.lean).
  GIVEN WITH THE SEED: the statements are not yours to turn. If you find one false, say at which input.
  Laid BY PROGRAM, IN A SANDBOX (cutbox-rows.mjs): the forced cells as the released guide's own fill.sh prints them over the translation f5d84b4be8e56bb5… (all of the seat's roots in one cut). By AI agents, Wed Nov 11 2026. No macro, syntax, notation, axiom, sorry.
-/
import Derived.Test.YtoaecbdpkmeenaaChecked
import GoSem.Claim
import GoSem.ClaimJoined
import GoSem.ClaimMapViews
import Derived.JoinedTies
import Derived.KernelRfl
namespace Go.Proofs.Ytoaecbdpkmeenaa
/- THE CELL 'sum', in the pinned program and in every row, IS THE sha256 OF THE DUMP (.gsa) THAT YtoaecbdpkmeenaaProg.lean LOADS. Nothing in Lean hashes anything: it is a label: what it is worth is what the hold of that sum in a sandbox is worth. -/
noncomputable def Try.pinned : Pinned := { name := "ytoaecbdpkmeenaa", sum := "f5d84b4be8e56bb5830ea6dfdaedb2adf2ff6bcec913e935061dd14f9fb7fb23", checked := Try.checked }
namespace Rows
def none {H : Type} : Left H := { results := [], args := [] }

/-- 'laws.FnExactIsMixture': WHATEVER THE INPUT: true; the input reads as it did. -/
def fnExactIsMixtureSpec : ChangeSpec := { name := "fnExactIsMixture", fn := fun _ => fun
  | [d1, d2] => { results := [.lit (.bool true)], args := [d1, d2] }
  | _ => none }
def fnExactIsMixtureRow : OpenClaim := { program := "ytoaecbdpkmeenaa", sum := "f5d84b4be8e56bb5830ea6dfdaedb2adf2ff6bcec913e935061dd14f9fb7fb23", func := "loop.example/g01087/laws.FnExactIsMixture", spec := "fnExactIsMixture", unfollowed := true, recurses := true, apart := false }
def FnExactIsMixtureSaid : Prop := fnExactIsMixtureRow.holds Try.pinned (OpenSpec.ofChange fnExactIsMixtureSpec)

/-- ITS FALSE NEIGHBOUR: 'it returns false'. Refute it at one input. -/
def fnExactIsMixtureWrong : ChangeSpec := { name := "fnExactIsMixture", fn := fun _ => fun
  | [d1, d2] => { results := [.lit (.bool false)], args := [d1, d2] }
  | _ => none }
def FnExactIsMixtureWrongFalsely : Prop := fnExactIsMixtureRow.holds Try.pinned (OpenSpec.ofChange fnExactIsMixtureWrong)

/-- 'laws.FnExactIndependentBest': WHATEVER THE INPUT: true; the input reads as it did. -/
def fnExactIndependentBestSpec : ChangeSpec := { name := "fnExactIndependentBest", fn := fun _ => fun
  | [d1, d2, d3, d4] => { results := [.lit (.bool true)], args := [d1, d2, d3, d4] }
  | _ => none }
def fnExactIndependentBestRow : OpenClaim := { program := "ytoaecbdpkmeenaa", sum := "f5d84b4be8e56bb5830ea6dfdaedb2adf2ff6bcec913e935061dd14f9fb7fb23", func := "loop.example/g01087/laws.FnExactIndependentBest", spec := "fnExactIndependentBest", unfollowed := true, recurses := true, apart := false }
def FnExactIndependentBestSaid : Prop := fnExactIndependentBestRow.holds Try.pinned (OpenSpec.ofChange fnExactIndependentBestSpec)

/-- ITS FALSE NEIGHBOUR: 'it returns false'. Refute it at one input. -/
def fnExactIndependentBestWrong : ChangeSpec := { name := "fnExactIndependentBest", fn := fun _ => fun
  | [d1, d2, d3, d4] => { results := [.lit (.bool false)], args := [d1, d2, d3, d4] }
  | _ => none }
def FnExactIndependentBestWrongFalsely : Prop := fnExactIndependentBestRow.holds Try.pinned (OpenSpec.ofChange fnExactIndependentBestWrong)

/-- 'laws.FnExactPayoffsOf': WHATEVER THE INPUT: true; the input reads as it did. -/
def fnExactPayoffsOfSpec : ChangeSpec := { name := "fnExactPayoffsOf", fn := fun _ => fun
  | [d1, d2, d3, d4] => { results := [.lit (.bool true)], args := [d1, d2, d3, d4] }
  | _ => none }
def fnExactPayoffsOfRow : OpenClaim := { program := "ytoaecbdpkmeenaa", sum := "f5d84b4be8e56bb5830ea6dfdaedb2adf2ff6bcec913e935061dd14f9fb7fb23", func := "loop.example/g01087/laws.FnExactPayoffsOf", spec := "fnExactPayoffsOf", unfollowed := true, recurses := true, apart := false }
def FnExactPayoffsOfSaid : Prop := fnExactPayoffsOfRow.holds Try.pinned (OpenSpec.ofChange fnExactPayoffsOfSpec)

/-- ITS FALSE NEIGHBOUR: 'it returns false'. Refute it at one input. -/
def fnExactPayoffsOfWrong : ChangeSpec := { name := "fnExactPayoffsOf", fn := fun _ => fun
  | [d1, d2, d3, d4] => { results := [.lit (.bool false)], args := [d1, d2, d3, d4] }
  | _ => none }
def FnExactPayoffsOfWrongFalsely : Prop := fnExactPayoffsOfRow.holds Try.pinned (OpenSpec.ofChange fnExactPayoffsOfWrong)

/-- 'laws.FnExactExpectedCost': WHATEVER THE INPUT: true; the input reads as it did. -/
def fnExactExpectedCostSpec : ChangeSpec := { name := "fnExactExpectedCost", fn := fun _ => fun
  | [d1, d2, d3, d4] => { results := [.lit (.bool true)], args := [d1, d2, d3, d4] }
  | _ => none }
def fnExactExpectedCostRow : OpenClaim := { program := "ytoaecbdpkmeenaa", sum := "f5d84b4be8e56bb5830ea6dfdaedb2adf2ff6bcec913e935061dd14f9fb7fb23", func := "loop.example/g01087/laws.FnExactExpectedCost", spec := "fnExactExpectedCost", unfollowed := true, recurses := true, apart := false }
def FnExactExpectedCostSaid : Prop := fnExactExpectedCostRow.holds Try.pinned (OpenSpec.ofChange fnExactExpectedCostSpec)

/-- ITS FALSE NEIGHBOUR: 'it returns false'. Refute it at one input. -/
def fnExactExpectedCostWrong : ChangeSpec := { name := "fnExactExpectedCost", fn := fun _ => fun
  | [d1, d2, d3, d4] => { results := [.lit (.bool false)], args := [d1, d2, d3, d4] }
  | _ => none }
def FnExactExpectedCostWrongFalsely : Prop := fnExactExpectedCostRow.holds Try.pinned (OpenSpec.ofChange fnExactExpectedCostWrong)

/-- 'laws.FnExactMixtureCost': WHATEVER THE INPUT: true; the input reads as it did. -/
def fnExactMixtureCostSpec : ChangeSpec := { name := "fnExactMixtureCost", fn := fun _ => fun
  | [d1, d2, d3, d4] => { results := [.lit (.bool true)], args := [d1, d2, d3, d4] }
  | _ => none }
def fnExactMixtureCostRow : OpenClaim := { program := "ytoaecbdpkmeenaa", sum := "f5d84b4be8e56bb5830ea6dfdaedb2adf2ff6bcec913e935061dd14f9fb7fb23", func := "loop.example/g01087/laws.FnExactMixtureCost", spec := "fnExactMixtureCost", unfollowed := true, recurses := true, apart := false }
def FnExactMixtureCostSaid : Prop := fnExactMixtureCostRow.holds Try.pinned (OpenSpec.ofChange fnExactMixtureCostSpec)

/-- ITS FALSE NEIGHBOUR: 'it returns false'. Refute it at one input. -/
def fnExactMixtureCostWrong : ChangeSpec := { name := "fnExactMixtureCost", fn := fun _ => fun
  | [d1, d2, d3, d4] => { results := [.lit (.bool false)], args := [d1, d2, d3, d4] }
  | _ => none }
def FnExactMixtureCostWrongFalsely : Prop := fnExactMixtureCostRow.holds Try.pinned (OpenSpec.ofChange fnExactMixtureCostWrong)

/-- 'laws.FnExactExpectedLeast': WHATEVER THE INPUT: true; the input reads as it did. -/
def fnExactExpectedLeastSpec : ChangeSpec := { name := "fnExactExpectedLeast", fn := fun _ => fun
  | [d1, d2, d3] => { results := [.lit (.bool true)], args := [d1, d2, d3] }
  | _ => none }
def fnExactExpectedLeastRow : OpenClaim := { program := "ytoaecbdpkmeenaa", sum := "f5d84b4be8e56bb5830ea6dfdaedb2adf2ff6bcec913e935061dd14f9fb7fb23", func := "loop.example/g01087/laws.FnExactExpectedLeast", spec := "fnExactExpectedLeast", unfollowed := true, recurses := true, apart := false }
def FnExactExpectedLeastSaid : Prop := fnExactExpectedLeastRow.holds Try.pinned (OpenSpec.ofChange fnExactExpectedLeastSpec)

/-- ITS FALSE NEIGHBOUR: 'it returns false'. Refute it at one input. -/
def fnExactExpectedLeastWrong : ChangeSpec := { name := "fnExactExpectedLeast", fn := fun _ => fun
  | [d1, d2, d3] => { results := [.lit (.bool false)], args := [d1, d2, d3] }
  | _ => none }
def FnExactExpectedLeastWrongFalsely : Prop := fnExactExpectedLeastRow.holds Try.pinned (OpenSpec.ofChange fnExactExpectedLeastWrong)

/-- 'laws.FnExactMixtureStates': WHATEVER THE INPUT: true; the input reads as it did. -/
def fnExactMixtureStatesSpec : ChangeSpec := { name := "fnExactMixtureStates", fn := fun _ => fun
  | [d1, d2, d3, d4] => { results := [.lit (.bool true)], args := [d1, d2, d3, d4] }
  | _ => none }
def fnExactMixtureStatesRow : OpenClaim := { program := "ytoaecbdpkmeenaa", sum := "f5d84b4be8e56bb5830ea6dfdaedb2adf2ff6bcec913e935061dd14f9fb7fb23", func := "loop.example/g01087/laws.FnExactMixtureStates", spec := "fnExactMixtureStates", unfollowed := true, recurses := true, apart := false }
def FnExactMixtureStatesSaid : Prop := fnExactMixtureStatesRow.holds Try.pinned (OpenSpec.ofChange fnExactMixtureStatesSpec)

/-- ITS FALSE NEIGHBOUR: 'it returns false'. Refute it at one input. -/
def fnExactMixtureStatesWrong : ChangeSpec := { name := "fnExactMixtureStates", fn := fun _ => fun
  | [d1, d2, d3, d4] => { results := [.lit (.bool false)], args := [d1, d2, d3, d4] }
  | _ => none }
def FnExactMixtureStatesWrongFalsely : Prop := fnExactMixtureStatesRow.holds Try.pinned (OpenSpec.ofChange fnExactMixtureStatesWrong)

/-- 'laws.FnExactIsStrategy': WHATEVER THE INPUT: true; the input reads as it did. -/
def fnExactIsStrategySpec : ChangeSpec := { name := "fnExactIsStrategy", fn := fun _ => fun
  | [d1, d2, d3] => { results := [.lit (.bool true)], args := [d1, d2, d3] }
  | _ => none }
def fnExactIsStrategyRow : OpenClaim := { program := "ytoaecbdpkmeenaa", sum := "f5d84b4be8e56bb5830ea6dfdaedb2adf2ff6bcec913e935061dd14f9fb7fb23", func := "loop.example/g01087/laws.FnExactIsStrategy", spec := "fnExactIsStrategy", unfollowed := true, recurses := true, apart := false }
def FnExactIsStrategySaid : Prop := fnExactIsStrategyRow.holds Try.pinned (OpenSpec.ofChange fnExactIsStrategySpec)

/-- ITS FALSE NEIGHBOUR: 'it returns false'. Refute it at one input. -/
def fnExactIsStrategyWrong : ChangeSpec := { name := "fnExactIsStrategy", fn := fun _ => fun
  | [d1, d2, d3] => { results := [.lit (.bool false)], args := [d1, d2, d3] }
  | _ => none }
def FnExactIsStrategyWrongFalsely : Prop := fnExactIsStrategyRow.holds Try.pinned (OpenSpec.ofChange fnExactIsStrategyWrong)

/-- 'laws.FnExactWorstOfMixture': WHATEVER THE INPUT: true; the input reads as it did. -/
def fnExactWorstOfMixtureSpec : ChangeSpec := { name := "fnExactWorstOfMixture", fn := fun _ => fun
  | [d1, d2, d3, d4] => { results := [.lit (.bool true)], args := [d1, d2, d3, d4] }
  | _ => none }
def fnExactWorstOfMixtureRow : OpenClaim := { program := "ytoaecbdpkmeenaa", sum := "f5d84b4be8e56bb5830ea6dfdaedb2adf2ff6bcec913e935061dd14f9fb7fb23", func := "loop.example/g01087/laws.FnExactWorstOfMixture", spec := "fnExactWorstOfMixture", unfollowed := true, recurses := true, apart := false }
def FnExactWorstOfMixtureSaid : Prop := fnExactWorstOfMixtureRow.holds Try.pinned (OpenSpec.ofChange fnExactWorstOfMixtureSpec)

/-- ITS FALSE NEIGHBOUR: 'it returns false'. Refute it at one input. -/
def fnExactWorstOfMixtureWrong : ChangeSpec := { name := "fnExactWorstOfMixture", fn := fun _ => fun
  | [d1, d2, d3, d4] => { results := [.lit (.bool false)], args := [d1, d2, d3, d4] }
  | _ => none }
def FnExactWorstOfMixtureWrongFalsely : Prop := fnExactWorstOfMixtureRow.holds Try.pinned (OpenSpec.ofChange fnExactWorstOfMixtureWrong)

/-- 'laws.FnExactPositionsOf': WHATEVER THE INPUT: true; the input reads as it did. -/
def fnExactPositionsOfSpec : ChangeSpec := { name := "fnExactPositionsOf", fn := fun _ => fun
  | [d1, d2] => { results := [.lit (.bool true)], args := [d1, d2] }
  | _ => none }
def fnExactPositionsOfRow : OpenClaim := { program := "ytoaecbdpkmeenaa", sum := "f5d84b4be8e56bb5830ea6dfdaedb2adf2ff6bcec913e935061dd14f9fb7fb23", func := "loop.example/g01087/laws.FnExactPositionsOf", spec := "fnExactPositionsOf", unfollowed := true, recurses := true, apart := false }
def FnExactPositionsOfSaid : Prop := fnExactPositionsOfRow.holds Try.pinned (OpenSpec.ofChange fnExactPositionsOfSpec)

/-- ITS FALSE NEIGHBOUR: 'it returns false'. Refute it at one input. -/
def fnExactPositionsOfWrong : ChangeSpec := { name := "fnExactPositionsOf", fn := fun _ => fun
  | [d1, d2] => { results := [.lit (.bool false)], args := [d1, d2] }
  | _ => none }
def FnExactPositionsOfWrongFalsely : Prop := fnExactPositionsOfRow.holds Try.pinned (OpenSpec.ofChange fnExactPositionsOfWrong)

/-- 'laws.FnExactGameSteps': WHATEVER THE INPUT: true; the input reads as it did. -/
def fnExactGameStepsSpec : ChangeSpec := { name := "fnExactGameSteps", fn := fun _ => fun
  | [d1, d2] => { results := [.lit (.bool true)], args := [d1, d2] }
  | _ => none }
def fnExactGameStepsRow : OpenClaim := { program := "ytoaecbdpkmeenaa", sum := "f5d84b4be8e56bb5830ea6dfdaedb2adf2ff6bcec913e935061dd14f9fb7fb23", func := "loop.example/g01087/laws.FnExactGameSteps", spec := "fnExactGameSteps", unfollowed := true, recurses := true, apart := false }
def FnExactGameStepsSaid : Prop := fnExactGameStepsRow.holds Try.pinned (OpenSpec.ofChange fnExactGameStepsSpec)

/-- ITS FALSE NEIGHBOUR: 'it returns false'. Refute it at one input. -/
def fnExactGameStepsWrong : ChangeSpec := { name := "fnExactGameSteps", fn := fun _ => fun
  | [d1, d2] => { results := [.lit (.bool false)], args := [d1, d2] }
  | _ => none }
def FnExactGameStepsWrongFalsely : Prop := fnExactGameStepsRow.holds Try.pinned (OpenSpec.ofChange fnExactGameStepsWrong)

/-- 'laws.FnExactStrategyRun': WHATEVER THE INPUT: true; the input reads as it did. -/
def fnExactStrategyRunSpec : ChangeSpec := { name := "fnExactStrategyRun", fn := fun _ => fun
  | [d1, d2, d3, d4] => { results := [.lit (.bool true)], args := [d1, d2, d3, d4] }
  | _ => none }
def fnExactStrategyRunRow : OpenClaim := { program := "ytoaecbdpkmeenaa", sum := "f5d84b4be8e56bb5830ea6dfdaedb2adf2ff6bcec913e935061dd14f9fb7fb23", func := "loop.example/g01087/laws.FnExactStrategyRun", spec := "fnExactStrategyRun", unfollowed := true, recurses := true, apart := false }
def FnExactStrategyRunSaid : Prop := fnExactStrategyRunRow.holds Try.pinned (OpenSpec.ofChange fnExactStrategyRunSpec)

/-- ITS FALSE NEIGHBOUR: 'it returns false'. Refute it at one input. -/
def fnExactStrategyRunWrong : ChangeSpec := { name := "fnExactStrategyRun", fn := fun _ => fun
  | [d1, d2, d3, d4] => { results := [.lit (.bool false)], args := [d1, d2, d3, d4] }
  | _ => none }
def FnExactStrategyRunWrongFalsely : Prop := fnExactStrategyRunRow.holds Try.pinned (OpenSpec.ofChange fnExactStrategyRunWrong)

/- THE SECOND FORM. 'bulk': how many values and letters a reading holds, each counted each time it is reached (what is shared counts as often as it is met; a slice's spare places count too). A statement '..UptoSaid' is the law's where the arguments, and the package variables that the reading takes, are together of bulk at most 1048576: NARROWER than '..Said'. Prove '..Said' where nothing that the law and all that it calls make is longer than what came in: it says more and counts as full. Else prove '..UptoSaid'. A law counts once. -/
mutual
def uptoBulk {H : Type} : DataW H → Nat
  | .lit (.string bytes) => bytes.length + 1
  | .lit _ => 1
  | .nil => 1
  | .ptr d => uptoBulk d + 1
  | .slice elems spare => uptoBulkAll elems + uptoBulkAll spare + 1
  | .agg parts => uptoBulkAll parts + 1
  | .iface _ d => uptoBulk d + 1
  | .map entries => uptoBulkEntries entries + 1
  | .held _ => 1
def uptoBulkAll {H : Type} : List (DataW H) → Nat
  | [] => 0
  | d :: r => uptoBulk d + uptoBulkAll r
def uptoBulkEntries {H : Type} : List (Lit × DataW H) → Nat
  | [] => 0
  | x :: r => uptoBulkEntry x + uptoBulkEntries r
def uptoBulkEntry {H : Type} : Lit × DataW H → Nat
  | (.string bytes, d) => bytes.length + uptoBulk d + 1
  | (_, d) => uptoBulk d + 1
 end
def uptoSmall : (H : Type) → List (DataW H) → Bool := fun _ ds => decide (uptoBulkAll ds ≤ 1048576)
def OpenSpec.upto (s : _root_.Go.ChangeSpec) : _root_.Go.OpenSpec := { _root_.Go.OpenSpec.ofChange s with cond := some uptoSmall }

/-- 'laws.FnExactIsMixture', WHERE WHAT IT READS IS OF BULK AT MOST 1048576: true; the input reads as it did. -/
def fnExactIsMixtureUptoRow : OpenClaim := { program := "ytoaecbdpkmeenaa", sum := "f5d84b4be8e56bb5830ea6dfdaedb2adf2ff6bcec913e935061dd14f9fb7fb23", func := "loop.example/g01087/laws.FnExactIsMixture", spec := "fnExactIsMixture", unfollowed := true, recurses := true, apart := false, narrowed := true }
def FnExactIsMixtureUptoSaid : Prop := fnExactIsMixtureUptoRow.holds Try.pinned (OpenSpec.upto fnExactIsMixtureSpec)

/-- 'laws.FnExactIndependentBest', WHERE WHAT IT READS IS OF BULK AT MOST 1048576: true; the input reads as it did. -/
def fnExactIndependentBestUptoRow : OpenClaim := { program := "ytoaecbdpkmeenaa", sum := "f5d84b4be8e56bb5830ea6dfdaedb2adf2ff6bcec913e935061dd14f9fb7fb23", func := "loop.example/g01087/laws.FnExactIndependentBest", spec := "fnExactIndependentBest", unfollowed := true, recurses := true, apart := false, narrowed := true }
def FnExactIndependentBestUptoSaid : Prop := fnExactIndependentBestUptoRow.holds Try.pinned (OpenSpec.upto fnExactIndependentBestSpec)

/-- 'laws.FnExactPayoffsOf', WHERE WHAT IT READS IS OF BULK AT MOST 1048576: true; the input reads as it did. -/
def fnExactPayoffsOfUptoRow : OpenClaim := { program := "ytoaecbdpkmeenaa", sum := "f5d84b4be8e56bb5830ea6dfdaedb2adf2ff6bcec913e935061dd14f9fb7fb23", func := "loop.example/g01087/laws.FnExactPayoffsOf", spec := "fnExactPayoffsOf", unfollowed := true, recurses := true, apart := false, narrowed := true }
def FnExactPayoffsOfUptoSaid : Prop := fnExactPayoffsOfUptoRow.holds Try.pinned (OpenSpec.upto fnExactPayoffsOfSpec)

/-- 'laws.FnExactExpectedCost', WHERE WHAT IT READS IS OF BULK AT MOST 1048576: true; the input reads as it did. -/
def fnExactExpectedCostUptoRow : OpenClaim := { program := "ytoaecbdpkmeenaa", sum := "f5d84b4be8e56bb5830ea6dfdaedb2adf2ff6bcec913e935061dd14f9fb7fb23", func := "loop.example/g01087/laws.FnExactExpectedCost", spec := "fnExactExpectedCost", unfollowed := true, recurses := true, apart := false, narrowed := true }
def FnExactExpectedCostUptoSaid : Prop := fnExactExpectedCostUptoRow.holds Try.pinned (OpenSpec.upto fnExactExpectedCostSpec)

/-- 'laws.FnExactMixtureCost', WHERE WHAT IT READS IS OF BULK AT MOST 1048576: true; the input reads as it did. -/
def fnExactMixtureCostUptoRow : OpenClaim := { program := "ytoaecbdpkmeenaa", sum := "f5d84b4be8e56bb5830ea6dfdaedb2adf2ff6bcec913e935061dd14f9fb7fb23", func := "loop.example/g01087/laws.FnExactMixtureCost", spec := "fnExactMixtureCost", unfollowed := true, recurses := true, apart := false, narrowed := true }
def FnExactMixtureCostUptoSaid : Prop := fnExactMixtureCostUptoRow.holds Try.pinned (OpenSpec.upto fnExactMixtureCostSpec)

/-- 'laws.FnExactExpectedLeast', WHERE WHAT IT READS IS OF BULK AT MOST 1048576: true; the input reads as it did. -/
def fnExactExpectedLeastUptoRow : OpenClaim := { program := "ytoaecbdpkmeenaa", sum := "f5d84b4be8e56bb5830ea6dfdaedb2adf2ff6bcec913e935061dd14f9fb7fb23", func := "loop.example/g01087/laws.FnExactExpectedLeast", spec := "fnExactExpectedLeast", unfollowed := true, recurses := true, apart := false, narrowed := true }
def FnExactExpectedLeastUptoSaid : Prop := fnExactExpectedLeastUptoRow.holds Try.pinned (OpenSpec.upto fnExactExpectedLeastSpec)

/-- 'laws.FnExactMixtureStates', WHERE WHAT IT READS IS OF BULK AT MOST 1048576: true; the input reads as it did. -/
def fnExactMixtureStatesUptoRow : OpenClaim := { program := "ytoaecbdpkmeenaa", sum := "f5d84b4be8e56bb5830ea6dfdaedb2adf2ff6bcec913e935061dd14f9fb7fb23", func := "loop.example/g01087/laws.FnExactMixtureStates", spec := "fnExactMixtureStates", unfollowed := true, recurses := true, apart := false, narrowed := true }
def FnExactMixtureStatesUptoSaid : Prop := fnExactMixtureStatesUptoRow.holds Try.pinned (OpenSpec.upto fnExactMixtureStatesSpec)

/-- 'laws.FnExactIsStrategy', WHERE WHAT IT READS IS OF BULK AT MOST 1048576: true; the input reads as it did. -/
def fnExactIsStrategyUptoRow : OpenClaim := { program := "ytoaecbdpkmeenaa", sum := "f5d84b4be8e56bb5830ea6dfdaedb2adf2ff6bcec913e935061dd14f9fb7fb23", func := "loop.example/g01087/laws.FnExactIsStrategy", spec := "fnExactIsStrategy", unfollowed := true, recurses := true, apart := false, narrowed := true }
def FnExactIsStrategyUptoSaid : Prop := fnExactIsStrategyUptoRow.holds Try.pinned (OpenSpec.upto fnExactIsStrategySpec)

/-- 'laws.FnExactWorstOfMixture', WHERE WHAT IT READS IS OF BULK AT MOST 1048576: true; the input reads as it did. -/
def fnExactWorstOfMixtureUptoRow : OpenClaim := { program := "ytoaecbdpkmeenaa", sum := "f5d84b4be8e56bb5830ea6dfdaedb2adf2ff6bcec913e935061dd14f9fb7fb23", func := "loop.example/g01087/laws.FnExactWorstOfMixture", spec := "fnExactWorstOfMixture", unfollowed := true, recurses := true, apart := false, narrowed := true }
def FnExactWorstOfMixtureUptoSaid : Prop := fnExactWorstOfMixtureUptoRow.holds Try.pinned (OpenSpec.upto fnExactWorstOfMixtureSpec)

/-- 'laws.FnExactPositionsOf', WHERE WHAT IT READS IS OF BULK AT MOST 1048576: true; the input reads as it did. -/
def fnExactPositionsOfUptoRow : OpenClaim := { program := "ytoaecbdpkmeenaa", sum := "f5d84b4be8e56bb5830ea6dfdaedb2adf2ff6bcec913e935061dd14f9fb7fb23", func := "loop.example/g01087/laws.FnExactPositionsOf", spec := "fnExactPositionsOf", unfollowed := true, recurses := true, apart := false, narrowed := true }
def FnExactPositionsOfUptoSaid : Prop := fnExactPositionsOfUptoRow.holds Try.pinned (OpenSpec.upto fnExactPositionsOfSpec)

/-- 'laws.FnExactGameSteps', WHERE WHAT IT READS IS OF BULK AT MOST 1048576: true; the input reads as it did. -/
def fnExactGameStepsUptoRow : OpenClaim := { program := "ytoaecbdpkmeenaa", sum := "f5d84b4be8e56bb5830ea6dfdaedb2adf2ff6bcec913e935061dd14f9fb7fb23", func := "loop.example/g01087/laws.FnExactGameSteps", spec := "fnExactGameSteps", unfollowed := true, recurses := true, apart := false, narrowed := true }
def FnExactGameStepsUptoSaid : Prop := fnExactGameStepsUptoRow.holds Try.pinned (OpenSpec.upto fnExactGameStepsSpec)

/-- 'laws.FnExactStrategyRun', WHERE WHAT IT READS IS OF BULK AT MOST 1048576: true; the input reads as it did. -/
def fnExactStrategyRunUptoRow : OpenClaim := { program := "ytoaecbdpkmeenaa", sum := "f5d84b4be8e56bb5830ea6dfdaedb2adf2ff6bcec913e935061dd14f9fb7fb23", func := "loop.example/g01087/laws.FnExactStrategyRun", spec := "fnExactStrategyRun", unfollowed := true, recurses := true, apart := false, narrowed := true }
def FnExactStrategyRunUptoSaid : Prop := fnExactStrategyRunUptoRow.holds Try.pinned (OpenSpec.upto fnExactStrategyRunSpec)

end Rows
end Go.Proofs.Ytoaecbdpkmeenaa
