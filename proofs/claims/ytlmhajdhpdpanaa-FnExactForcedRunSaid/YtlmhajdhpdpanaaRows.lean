/-
  No cell of these rows narrows 'for every input' (looked for: loops, veiled, ifaces, maps, wideKeys, modest, calm, conditions, laid).
  DERIVED. THE GIVEN ROWS OF THIS SEAT. 12 by the template 'for every input the law returns true; each argument reads behind the call as it read before'; 0 by the template 'total and deterministic' (their statements: YtlmhajdhpdpanaaTotals.lean).
  GIVEN WITH THE SEED: the statements are not yours to turn. If you find one false, say at which input.
  Laid BY PROGRAM, IN A SANDBOX (cutbox-rows.mjs): the forced cells as the released guide's own fill.sh prints them over the translation a42a007d0bd0d399… (all of the seat's roots in one cut). By AI agents, Wed Nov 11 2026. No macro, syntax, notation, axiom, sorry.
-/
import Derived.Test.YtlmhajdhpdpanaaChecked
import GoSem.Claim
import GoSem.ClaimJoined
import GoSem.ClaimMapViews
import Derived.JoinedTies
import Derived.KernelRfl
namespace Go.Proofs.Ytlmhajdhpdpanaa
/- THE CELL 'sum', in the pinned program and in every row, IS THE sha256 OF THE DUMP (.gsa) THAT YtlmhajdhpdpanaaProg.lean LOADS. Nothing in Lean hashes anything: it is a label: what it is worth is what the hold of that sum in a sandbox is worth. -/
noncomputable def Try.pinned : Pinned := { name := "ytlmhajdhpdpanaa", sum := "a42a007d0bd0d399b7306e3313923bd7d19810b451d2082b295c8960783c80e0", checked := Try.checked }
namespace Rows
def none {H : Type} : Left H := { results := [], args := [] }

/-- 'laws.FnExactIsCredit': WHATEVER THE INPUT: true; the input reads as it did. -/
def fnExactIsCreditSpec : ChangeSpec := { name := "fnExactIsCredit", fn := fun _ => fun
  | [d1, d2, d3, d4] => { results := [.lit (.bool true)], args := [d1, d2, d3, d4] }
  | _ => none }
def fnExactIsCreditRow : OpenClaim := { program := "ytlmhajdhpdpanaa", sum := "a42a007d0bd0d399b7306e3313923bd7d19810b451d2082b295c8960783c80e0", func := "loop.example/g01087/laws.FnExactIsCredit", spec := "fnExactIsCredit", unfollowed := true, recurses := true, apart := false }
def FnExactIsCreditSaid : Prop := fnExactIsCreditRow.holds Try.pinned (OpenSpec.ofChange fnExactIsCreditSpec)

/-- ITS FALSE NEIGHBOUR: 'it returns false'. Refute it at one input. -/
def fnExactIsCreditWrong : ChangeSpec := { name := "fnExactIsCredit", fn := fun _ => fun
  | [d1, d2, d3, d4] => { results := [.lit (.bool false)], args := [d1, d2, d3, d4] }
  | _ => none }
def FnExactIsCreditWrongFalsely : Prop := fnExactIsCreditRow.holds Try.pinned (OpenSpec.ofChange fnExactIsCreditWrong)

/-- 'laws.FnExactIsHold': WHATEVER THE INPUT: true; the input reads as it did. -/
def fnExactIsHoldSpec : ChangeSpec := { name := "fnExactIsHold", fn := fun _ => fun
  | [d1, d2, d3, d4, d5, d6] => { results := [.lit (.bool true)], args := [d1, d2, d3, d4, d5, d6] }
  | _ => none }
def fnExactIsHoldRow : OpenClaim := { program := "ytlmhajdhpdpanaa", sum := "a42a007d0bd0d399b7306e3313923bd7d19810b451d2082b295c8960783c80e0", func := "loop.example/g01087/laws.FnExactIsHold", spec := "fnExactIsHold", unfollowed := true, recurses := true, apart := false }
def FnExactIsHoldSaid : Prop := fnExactIsHoldRow.holds Try.pinned (OpenSpec.ofChange fnExactIsHoldSpec)

/-- ITS FALSE NEIGHBOUR: 'it returns false'. Refute it at one input. -/
def fnExactIsHoldWrong : ChangeSpec := { name := "fnExactIsHold", fn := fun _ => fun
  | [d1, d2, d3, d4, d5, d6] => { results := [.lit (.bool false)], args := [d1, d2, d3, d4, d5, d6] }
  | _ => none }
def FnExactIsHoldWrongFalsely : Prop := fnExactIsHoldRow.holds Try.pinned (OpenSpec.ofChange fnExactIsHoldWrong)

/-- 'laws.FnExactPairSteps': WHATEVER THE INPUT: true; the input reads as it did. -/
def fnExactPairStepsSpec : ChangeSpec := { name := "fnExactPairSteps", fn := fun _ => fun
  | [d1, d2, d3] => { results := [.lit (.bool true)], args := [d1, d2, d3] }
  | _ => none }
def fnExactPairStepsRow : OpenClaim := { program := "ytlmhajdhpdpanaa", sum := "a42a007d0bd0d399b7306e3313923bd7d19810b451d2082b295c8960783c80e0", func := "loop.example/g01087/laws.FnExactPairSteps", spec := "fnExactPairSteps", unfollowed := true, recurses := true, apart := false }
def FnExactPairStepsSaid : Prop := fnExactPairStepsRow.holds Try.pinned (OpenSpec.ofChange fnExactPairStepsSpec)

/-- ITS FALSE NEIGHBOUR: 'it returns false'. Refute it at one input. -/
def fnExactPairStepsWrong : ChangeSpec := { name := "fnExactPairSteps", fn := fun _ => fun
  | [d1, d2, d3] => { results := [.lit (.bool false)], args := [d1, d2, d3] }
  | _ => none }
def FnExactPairStepsWrongFalsely : Prop := fnExactPairStepsRow.holds Try.pinned (OpenSpec.ofChange fnExactPairStepsWrong)

/-- 'laws.FnExactCreditStrategy': WHATEVER THE INPUT: true; the input reads as it did. -/
def fnExactCreditStrategySpec : ChangeSpec := { name := "fnExactCreditStrategy", fn := fun _ => fun
  | [d1, d2, d3, d4] => { results := [.lit (.bool true)], args := [d1, d2, d3, d4] }
  | _ => none }
def fnExactCreditStrategyRow : OpenClaim := { program := "ytlmhajdhpdpanaa", sum := "a42a007d0bd0d399b7306e3313923bd7d19810b451d2082b295c8960783c80e0", func := "loop.example/g01087/laws.FnExactCreditStrategy", spec := "fnExactCreditStrategy", unfollowed := true, recurses := true, apart := false }
def FnExactCreditStrategySaid : Prop := fnExactCreditStrategyRow.holds Try.pinned (OpenSpec.ofChange fnExactCreditStrategySpec)

/-- ITS FALSE NEIGHBOUR: 'it returns false'. Refute it at one input. -/
def fnExactCreditStrategyWrong : ChangeSpec := { name := "fnExactCreditStrategy", fn := fun _ => fun
  | [d1, d2, d3, d4] => { results := [.lit (.bool false)], args := [d1, d2, d3, d4] }
  | _ => none }
def FnExactCreditStrategyWrongFalsely : Prop := fnExactCreditStrategyRow.holds Try.pinned (OpenSpec.ofChange fnExactCreditStrategyWrong)

/-- 'laws.FnExactForcedRun': WHATEVER THE INPUT: true; the input reads as it did. -/
def fnExactForcedRunSpec : ChangeSpec := { name := "fnExactForcedRun", fn := fun _ => fun
  | [d1, d2, d3, d4, d5] => { results := [.lit (.bool true)], args := [d1, d2, d3, d4, d5] }
  | _ => none }
def fnExactForcedRunRow : OpenClaim := { program := "ytlmhajdhpdpanaa", sum := "a42a007d0bd0d399b7306e3313923bd7d19810b451d2082b295c8960783c80e0", func := "loop.example/g01087/laws.FnExactForcedRun", spec := "fnExactForcedRun", unfollowed := true, recurses := true, apart := false }
def FnExactForcedRunSaid : Prop := fnExactForcedRunRow.holds Try.pinned (OpenSpec.ofChange fnExactForcedRunSpec)

/-- ITS FALSE NEIGHBOUR: 'it returns false'. Refute it at one input. -/
def fnExactForcedRunWrong : ChangeSpec := { name := "fnExactForcedRun", fn := fun _ => fun
  | [d1, d2, d3, d4, d5] => { results := [.lit (.bool false)], args := [d1, d2, d3, d4, d5] }
  | _ => none }
def FnExactForcedRunWrongFalsely : Prop := fnExactForcedRunRow.holds Try.pinned (OpenSpec.ofChange fnExactForcedRunWrong)

/-- 'laws.FnExactExtraCost': WHATEVER THE INPUT: true; the input reads as it did. -/
def fnExactExtraCostSpec : ChangeSpec := { name := "fnExactExtraCost", fn := fun _ => fun
  | [d1, d2, d3, d4] => { results := [.lit (.bool true)], args := [d1, d2, d3, d4] }
  | _ => none }
def fnExactExtraCostRow : OpenClaim := { program := "ytlmhajdhpdpanaa", sum := "a42a007d0bd0d399b7306e3313923bd7d19810b451d2082b295c8960783c80e0", func := "loop.example/g01087/laws.FnExactExtraCost", spec := "fnExactExtraCost", unfollowed := true, recurses := true, apart := false }
def FnExactExtraCostSaid : Prop := fnExactExtraCostRow.holds Try.pinned (OpenSpec.ofChange fnExactExtraCostSpec)

/-- ITS FALSE NEIGHBOUR: 'it returns false'. Refute it at one input. -/
def fnExactExtraCostWrong : ChangeSpec := { name := "fnExactExtraCost", fn := fun _ => fun
  | [d1, d2, d3, d4] => { results := [.lit (.bool false)], args := [d1, d2, d3, d4] }
  | _ => none }
def FnExactExtraCostWrongFalsely : Prop := fnExactExtraCostRow.holds Try.pinned (OpenSpec.ofChange fnExactExtraCostWrong)

/-- 'laws.FnExactExactRatio': WHATEVER THE INPUT: true; the input reads as it did. -/
def fnExactExactRatioSpec : ChangeSpec := { name := "fnExactExactRatio", fn := fun _ => fun
  | [d1, d2, d3] => { results := [.lit (.bool true)], args := [d1, d2, d3] }
  | _ => none }
def fnExactExactRatioRow : OpenClaim := { program := "ytlmhajdhpdpanaa", sum := "a42a007d0bd0d399b7306e3313923bd7d19810b451d2082b295c8960783c80e0", func := "loop.example/g01087/laws.FnExactExactRatio", spec := "fnExactExactRatio", unfollowed := true, recurses := true, apart := false }
def FnExactExactRatioSaid : Prop := fnExactExactRatioRow.holds Try.pinned (OpenSpec.ofChange fnExactExactRatioSpec)

/-- ITS FALSE NEIGHBOUR: 'it returns false'. Refute it at one input. -/
def fnExactExactRatioWrong : ChangeSpec := { name := "fnExactExactRatio", fn := fun _ => fun
  | [d1, d2, d3] => { results := [.lit (.bool false)], args := [d1, d2, d3] }
  | _ => none }
def FnExactExactRatioWrongFalsely : Prop := fnExactExactRatioRow.holds Try.pinned (OpenSpec.ofChange fnExactExactRatioWrong)

/-- 'laws.FnExactFindPotential': WHATEVER THE INPUT: true; the input reads as it did. -/
def fnExactFindPotentialSpec : ChangeSpec := { name := "fnExactFindPotential", fn := fun _ => fun
  | [d1, d2, d3, d4] => { results := [.lit (.bool true)], args := [d1, d2, d3, d4] }
  | _ => none }
def fnExactFindPotentialRow : OpenClaim := { program := "ytlmhajdhpdpanaa", sum := "a42a007d0bd0d399b7306e3313923bd7d19810b451d2082b295c8960783c80e0", func := "loop.example/g01087/laws.FnExactFindPotential", spec := "fnExactFindPotential", unfollowed := true, recurses := true, apart := false }
def FnExactFindPotentialSaid : Prop := fnExactFindPotentialRow.holds Try.pinned (OpenSpec.ofChange fnExactFindPotentialSpec)

/-- ITS FALSE NEIGHBOUR: 'it returns false'. Refute it at one input. -/
def fnExactFindPotentialWrong : ChangeSpec := { name := "fnExactFindPotential", fn := fun _ => fun
  | [d1, d2, d3, d4] => { results := [.lit (.bool false)], args := [d1, d2, d3, d4] }
  | _ => none }
def FnExactFindPotentialWrongFalsely : Prop := fnExactFindPotentialRow.holds Try.pinned (OpenSpec.ofChange fnExactFindPotentialWrong)

/-- 'laws.FnExactFindCycle': WHATEVER THE INPUT: true; the input reads as it did. -/
def fnExactFindCycleSpec : ChangeSpec := { name := "fnExactFindCycle", fn := fun _ => fun
  | [d1, d2, d3, d4] => { results := [.lit (.bool true)], args := [d1, d2, d3, d4] }
  | _ => none }
def fnExactFindCycleRow : OpenClaim := { program := "ytlmhajdhpdpanaa", sum := "a42a007d0bd0d399b7306e3313923bd7d19810b451d2082b295c8960783c80e0", func := "loop.example/g01087/laws.FnExactFindCycle", spec := "fnExactFindCycle", unfollowed := true, recurses := true, apart := false }
def FnExactFindCycleSaid : Prop := fnExactFindCycleRow.holds Try.pinned (OpenSpec.ofChange fnExactFindCycleSpec)

/-- ITS FALSE NEIGHBOUR: 'it returns false'. Refute it at one input. -/
def fnExactFindCycleWrong : ChangeSpec := { name := "fnExactFindCycle", fn := fun _ => fun
  | [d1, d2, d3, d4] => { results := [.lit (.bool false)], args := [d1, d2, d3, d4] }
  | _ => none }
def FnExactFindCycleWrongFalsely : Prop := fnExactFindCycleRow.holds Try.pinned (OpenSpec.ofChange fnExactFindCycleWrong)

/-- 'laws.FnExactFindCredit': WHATEVER THE INPUT: true; the input reads as it did. -/
def fnExactFindCreditSpec : ChangeSpec := { name := "fnExactFindCredit", fn := fun _ => fun
  | [d1, d2, d3] => { results := [.lit (.bool true)], args := [d1, d2, d3] }
  | _ => none }
def fnExactFindCreditRow : OpenClaim := { program := "ytlmhajdhpdpanaa", sum := "a42a007d0bd0d399b7306e3313923bd7d19810b451d2082b295c8960783c80e0", func := "loop.example/g01087/laws.FnExactFindCredit", spec := "fnExactFindCredit", unfollowed := true, recurses := true, apart := false }
def FnExactFindCreditSaid : Prop := fnExactFindCreditRow.holds Try.pinned (OpenSpec.ofChange fnExactFindCreditSpec)

/-- ITS FALSE NEIGHBOUR: 'it returns false'. Refute it at one input. -/
def fnExactFindCreditWrong : ChangeSpec := { name := "fnExactFindCredit", fn := fun _ => fun
  | [d1, d2, d3] => { results := [.lit (.bool false)], args := [d1, d2, d3] }
  | _ => none }
def FnExactFindCreditWrongFalsely : Prop := fnExactFindCreditRow.holds Try.pinned (OpenSpec.ofChange fnExactFindCreditWrong)

/-- 'laws.FnExactGameRatio': WHATEVER THE INPUT: true; the input reads as it did. -/
def fnExactGameRatioSpec : ChangeSpec := { name := "fnExactGameRatio", fn := fun _ => fun
  | [d1, d2] => { results := [.lit (.bool true)], args := [d1, d2] }
  | _ => none }
def fnExactGameRatioRow : OpenClaim := { program := "ytlmhajdhpdpanaa", sum := "a42a007d0bd0d399b7306e3313923bd7d19810b451d2082b295c8960783c80e0", func := "loop.example/g01087/laws.FnExactGameRatio", spec := "fnExactGameRatio", unfollowed := true, recurses := true, apart := false }
def FnExactGameRatioSaid : Prop := fnExactGameRatioRow.holds Try.pinned (OpenSpec.ofChange fnExactGameRatioSpec)

/-- ITS FALSE NEIGHBOUR: 'it returns false'. Refute it at one input. -/
def fnExactGameRatioWrong : ChangeSpec := { name := "fnExactGameRatio", fn := fun _ => fun
  | [d1, d2] => { results := [.lit (.bool false)], args := [d1, d2] }
  | _ => none }
def FnExactGameRatioWrongFalsely : Prop := fnExactGameRatioRow.holds Try.pinned (OpenSpec.ofChange fnExactGameRatioWrong)

/-- 'laws.FnExactMixtureStates': WHATEVER THE INPUT: true; the input reads as it did. -/
def fnExactMixtureStatesSpec : ChangeSpec := { name := "fnExactMixtureStates", fn := fun _ => fun
  | [d1, d2, d3, d4] => { results := [.lit (.bool true)], args := [d1, d2, d3, d4] }
  | _ => none }
def fnExactMixtureStatesRow : OpenClaim := { program := "ytlmhajdhpdpanaa", sum := "a42a007d0bd0d399b7306e3313923bd7d19810b451d2082b295c8960783c80e0", func := "loop.example/g01087/laws.FnExactMixtureStates", spec := "fnExactMixtureStates", unfollowed := true, recurses := true, apart := false }
def FnExactMixtureStatesSaid : Prop := fnExactMixtureStatesRow.holds Try.pinned (OpenSpec.ofChange fnExactMixtureStatesSpec)

/-- ITS FALSE NEIGHBOUR: 'it returns false'. Refute it at one input. -/
def fnExactMixtureStatesWrong : ChangeSpec := { name := "fnExactMixtureStates", fn := fun _ => fun
  | [d1, d2, d3, d4] => { results := [.lit (.bool false)], args := [d1, d2, d3, d4] }
  | _ => none }
def FnExactMixtureStatesWrongFalsely : Prop := fnExactMixtureStatesRow.holds Try.pinned (OpenSpec.ofChange fnExactMixtureStatesWrong)

/- THE SECOND FORM. 'bulk': how many values and letters a reading holds, each counted each time it is reached (what is shared counts as often as it is met; a slice's spare places count too). A statement '..UptoSaid' is the law's where the arguments, and the package variables that the reading takes, are together of bulk at most 1048576: NARROWER than '..Said'. Prove '..Said' where nothing that the law and all that it calls make is longer than what came in: it says more and counts as full. Else prove '..UptoSaid'. A law counts once. -/
mutual
def uptoBulk {H : Type} : DataW H → Nat
  | .lit (.string bytes) => bytes.length + 1
  | .lit _ => 1
  | .nil => 1
  | .ptr d => uptoBulk d + 1
  | .slice elems spare => uptoBulkAll elems + uptoBulkAll spare + 1
  | .agg parts => uptoBulkAll parts + 1
  | .iface _ d => uptoBulk d + 1
  | .map entries => uptoBulkEntries entries + 1
  | .held _ => 1
def uptoBulkAll {H : Type} : List (DataW H) → Nat
  | [] => 0
  | d :: r => uptoBulk d + uptoBulkAll r
def uptoBulkEntries {H : Type} : List (Lit × DataW H) → Nat
  | [] => 0
  | x :: r => uptoBulkEntry x + uptoBulkEntries r
def uptoBulkEntry {H : Type} : Lit × DataW H → Nat
  | (.string bytes, d) => bytes.length + uptoBulk d + 1
  | (_, d) => uptoBulk d + 1
 end
def uptoSmall : (H : Type) → List (DataW H) → Bool := fun _ ds => decide (uptoBulkAll ds ≤ 1048576)
def OpenSpec.upto (s : _root_.Go.ChangeSpec) : _root_.Go.OpenSpec := { _root_.Go.OpenSpec.ofChange s with cond := some uptoSmall }

/-- 'laws.FnExactIsCredit', WHERE WHAT IT READS IS OF BULK AT MOST 1048576: true; the input reads as it did. -/
def fnExactIsCreditUptoRow : OpenClaim := { program := "ytlmhajdhpdpanaa", sum := "a42a007d0bd0d399b7306e3313923bd7d19810b451d2082b295c8960783c80e0", func := "loop.example/g01087/laws.FnExactIsCredit", spec := "fnExactIsCredit", unfollowed := true, recurses := true, apart := false, narrowed := true }
def FnExactIsCreditUptoSaid : Prop := fnExactIsCreditUptoRow.holds Try.pinned (OpenSpec.upto fnExactIsCreditSpec)

/-- 'laws.FnExactIsHold', WHERE WHAT IT READS IS OF BULK AT MOST 1048576: true; the input reads as it did. -/
def fnExactIsHoldUptoRow : OpenClaim := { program := "ytlmhajdhpdpanaa", sum := "a42a007d0bd0d399b7306e3313923bd7d19810b451d2082b295c8960783c80e0", func := "loop.example/g01087/laws.FnExactIsHold", spec := "fnExactIsHold", unfollowed := true, recurses := true, apart := false, narrowed := true }
def FnExactIsHoldUptoSaid : Prop := fnExactIsHoldUptoRow.holds Try.pinned (OpenSpec.upto fnExactIsHoldSpec)

/-- 'laws.FnExactPairSteps', WHERE WHAT IT READS IS OF BULK AT MOST 1048576: true; the input reads as it did. -/
def fnExactPairStepsUptoRow : OpenClaim := { program := "ytlmhajdhpdpanaa", sum := "a42a007d0bd0d399b7306e3313923bd7d19810b451d2082b295c8960783c80e0", func := "loop.example/g01087/laws.FnExactPairSteps", spec := "fnExactPairSteps", unfollowed := true, recurses := true, apart := false, narrowed := true }
def FnExactPairStepsUptoSaid : Prop := fnExactPairStepsUptoRow.holds Try.pinned (OpenSpec.upto fnExactPairStepsSpec)

/-- 'laws.FnExactCreditStrategy', WHERE WHAT IT READS IS OF BULK AT MOST 1048576: true; the input reads as it did. -/
def fnExactCreditStrategyUptoRow : OpenClaim := { program := "ytlmhajdhpdpanaa", sum := "a42a007d0bd0d399b7306e3313923bd7d19810b451d2082b295c8960783c80e0", func := "loop.example/g01087/laws.FnExactCreditStrategy", spec := "fnExactCreditStrategy", unfollowed := true, recurses := true, apart := false, narrowed := true }
def FnExactCreditStrategyUptoSaid : Prop := fnExactCreditStrategyUptoRow.holds Try.pinned (OpenSpec.upto fnExactCreditStrategySpec)

/-- 'laws.FnExactForcedRun', WHERE WHAT IT READS IS OF BULK AT MOST 1048576: true; the input reads as it did. -/
def fnExactForcedRunUptoRow : OpenClaim := { program := "ytlmhajdhpdpanaa", sum := "a42a007d0bd0d399b7306e3313923bd7d19810b451d2082b295c8960783c80e0", func := "loop.example/g01087/laws.FnExactForcedRun", spec := "fnExactForcedRun", unfollowed := true, recurses := true, apart := false, narrowed := true }
def FnExactForcedRunUptoSaid : Prop := fnExactForcedRunUptoRow.holds Try.pinned (OpenSpec.upto fnExactForcedRunSpec)

/-- 'laws.FnExactExtraCost', WHERE WHAT IT READS IS OF BULK AT MOST 1048576: true; the input reads as it did. -/
def fnExactExtraCostUptoRow : OpenClaim := { program := "ytlmhajdhpdpanaa", sum := "a42a007d0bd0d399b7306e3313923bd7d19810b451d2082b295c8960783c80e0", func := "loop.example/g01087/laws.FnExactExtraCost", spec := "fnExactExtraCost", unfollowed := true, recurses := true, apart := false, narrowed := true }
def FnExactExtraCostUptoSaid : Prop := fnExactExtraCostUptoRow.holds Try.pinned (OpenSpec.upto fnExactExtraCostSpec)

/-- 'laws.FnExactExactRatio', WHERE WHAT IT READS IS OF BULK AT MOST 1048576: true; the input reads as it did. -/
def fnExactExactRatioUptoRow : OpenClaim := { program := "ytlmhajdhpdpanaa", sum := "a42a007d0bd0d399b7306e3313923bd7d19810b451d2082b295c8960783c80e0", func := "loop.example/g01087/laws.FnExactExactRatio", spec := "fnExactExactRatio", unfollowed := true, recurses := true, apart := false, narrowed := true }
def FnExactExactRatioUptoSaid : Prop := fnExactExactRatioUptoRow.holds Try.pinned (OpenSpec.upto fnExactExactRatioSpec)

/-- 'laws.FnExactFindPotential', WHERE WHAT IT READS IS OF BULK AT MOST 1048576: true; the input reads as it did. -/
def fnExactFindPotentialUptoRow : OpenClaim := { program := "ytlmhajdhpdpanaa", sum := "a42a007d0bd0d399b7306e3313923bd7d19810b451d2082b295c8960783c80e0", func := "loop.example/g01087/laws.FnExactFindPotential", spec := "fnExactFindPotential", unfollowed := true, recurses := true, apart := false, narrowed := true }
def FnExactFindPotentialUptoSaid : Prop := fnExactFindPotentialUptoRow.holds Try.pinned (OpenSpec.upto fnExactFindPotentialSpec)

/-- 'laws.FnExactFindCycle', WHERE WHAT IT READS IS OF BULK AT MOST 1048576: true; the input reads as it did. -/
def fnExactFindCycleUptoRow : OpenClaim := { program := "ytlmhajdhpdpanaa", sum := "a42a007d0bd0d399b7306e3313923bd7d19810b451d2082b295c8960783c80e0", func := "loop.example/g01087/laws.FnExactFindCycle", spec := "fnExactFindCycle", unfollowed := true, recurses := true, apart := false, narrowed := true }
def FnExactFindCycleUptoSaid : Prop := fnExactFindCycleUptoRow.holds Try.pinned (OpenSpec.upto fnExactFindCycleSpec)

/-- 'laws.FnExactFindCredit', WHERE WHAT IT READS IS OF BULK AT MOST 1048576: true; the input reads as it did. -/
def fnExactFindCreditUptoRow : OpenClaim := { program := "ytlmhajdhpdpanaa", sum := "a42a007d0bd0d399b7306e3313923bd7d19810b451d2082b295c8960783c80e0", func := "loop.example/g01087/laws.FnExactFindCredit", spec := "fnExactFindCredit", unfollowed := true, recurses := true, apart := false, narrowed := true }
def FnExactFindCreditUptoSaid : Prop := fnExactFindCreditUptoRow.holds Try.pinned (OpenSpec.upto fnExactFindCreditSpec)

/-- 'laws.FnExactGameRatio', WHERE WHAT IT READS IS OF BULK AT MOST 1048576: true; the input reads as it did. -/
def fnExactGameRatioUptoRow : OpenClaim := { program := "ytlmhajdhpdpanaa", sum := "a42a007d0bd0d399b7306e3313923bd7d19810b451d2082b295c8960783c80e0", func := "loop.example/g01087/laws.FnExactGameRatio", spec := "fnExactGameRatio", unfollowed := true, recurses := true, apart := false, narrowed := true }
def FnExactGameRatioUptoSaid : Prop := fnExactGameRatioUptoRow.holds Try.pinned (OpenSpec.upto fnExactGameRatioSpec)

/-- 'laws.FnExactMixtureStates', WHERE WHAT IT READS IS OF BULK AT MOST 1048576: true; the input reads as it did. -/
def fnExactMixtureStatesUptoRow : OpenClaim := { program := "ytlmhajdhpdpanaa", sum := "a42a007d0bd0d399b7306e3313923bd7d19810b451d2082b295c8960783c80e0", func := "loop.example/g01087/laws.FnExactMixtureStates", spec := "fnExactMixtureStates", unfollowed := true, recurses := true, apart := false, narrowed := true }
def FnExactMixtureStatesUptoSaid : Prop := fnExactMixtureStatesUptoRow.holds Try.pinned (OpenSpec.upto fnExactMixtureStatesSpec)

end Rows
end Go.Proofs.Ytlmhajdhpdpanaa
