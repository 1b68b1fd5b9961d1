/-
  No cell of these rows narrows 'for every input' (looked for: loops, veiled, ifaces, maps, wideKeys, modest, calm, conditions, laid).
  DERIVED. THE GIVEN ROWS OF THIS SEAT. 4 by the template 'for every input the law returns true; each argument reads behind the call as it read before'; 0 by the template 'total and deterministic' (their statements: YtlhdeofkhajigaaTotals.lean).
  GIVEN WITH THE SEED: the statements are not yours to turn. If you find one false, say at which input.
  Laid BY PROGRAM, IN A SANDBOX (cutbox-rows.mjs): the forced cells as the released guide's own fill.sh prints them over the translation 1f45b985a72c9032… (all of the seat's roots in one cut). By AI agents, Wed Nov 11 2026. No macro, syntax, notation, axiom, sorry.
-/
import Derived.Test.YtlhdeofkhajigaaChecked
import GoSem.Claim
import GoSem.ClaimJoined
import GoSem.ClaimMapViews
import Derived.JoinedTies
import Derived.KernelRfl
namespace Go.Proofs.Ytlhdeofkhajigaa
/- THE CELL 'sum', in the pinned program and in every row, IS THE sha256 OF THE DUMP (.gsa) THAT YtlhdeofkhajigaaProg.lean LOADS. Nothing in Lean hashes anything: it is a label: what it is worth is what the hold of that sum in a sandbox is worth. -/
noncomputable def Try.pinned : Pinned := { name := "ytlhdeofkhajigaa", sum := "1f45b985a72c9032117fd48d5d1b5c9933812668a7459f61d9c2ade995e4c1a6", checked := Try.checked }
namespace Rows
def none {H : Type} : Left H := { results := [], args := [] }

/-- 'laws.FnExactFindPotential': WHATEVER THE INPUT: true; the input reads as it did. -/
def fnExactFindPotentialSpec : ChangeSpec := { name := "fnExactFindPotential", fn := fun _ => fun
  | [d1, d2, d3, d4] => { results := [.lit (.bool true)], args := [d1, d2, d3, d4] }
  | _ => none }
def fnExactFindPotentialRow : OpenClaim := { program := "ytlhdeofkhajigaa", sum := "1f45b985a72c9032117fd48d5d1b5c9933812668a7459f61d9c2ade995e4c1a6", func := "loop.example/g01087/laws.FnExactFindPotential", spec := "fnExactFindPotential", unfollowed := true, recurses := true, apart := false }
def FnExactFindPotentialSaid : Prop := fnExactFindPotentialRow.holds Try.pinned (OpenSpec.ofChange fnExactFindPotentialSpec)

/-- ITS FALSE NEIGHBOUR: 'it returns false'. Refute it at one input. -/
def fnExactFindPotentialWrong : ChangeSpec := { name := "fnExactFindPotential", fn := fun _ => fun
  | [d1, d2, d3, d4] => { results := [.lit (.bool false)], args := [d1, d2, d3, d4] }
  | _ => none }
def FnExactFindPotentialWrongFalsely : Prop := fnExactFindPotentialRow.holds Try.pinned (OpenSpec.ofChange fnExactFindPotentialWrong)

/-- 'laws.FnExactExtraCost': WHATEVER THE INPUT: true; the input reads as it did. -/
def fnExactExtraCostSpec : ChangeSpec := { name := "fnExactExtraCost", fn := fun _ => fun
  | [d1, d2, d3, d4] => { results := [.lit (.bool true)], args := [d1, d2, d3, d4] }
  | _ => none }
def fnExactExtraCostRow : OpenClaim := { program := "ytlhdeofkhajigaa", sum := "1f45b985a72c9032117fd48d5d1b5c9933812668a7459f61d9c2ade995e4c1a6", func := "loop.example/g01087/laws.FnExactExtraCost", spec := "fnExactExtraCost", unfollowed := true, recurses := true, apart := false }
def FnExactExtraCostSaid : Prop := fnExactExtraCostRow.holds Try.pinned (OpenSpec.ofChange fnExactExtraCostSpec)

/-- ITS FALSE NEIGHBOUR: 'it returns false'. Refute it at one input. -/
def fnExactExtraCostWrong : ChangeSpec := { name := "fnExactExtraCost", fn := fun _ => fun
  | [d1, d2, d3, d4] => { results := [.lit (.bool false)], args := [d1, d2, d3, d4] }
  | _ => none }
def FnExactExtraCostWrongFalsely : Prop := fnExactExtraCostRow.holds Try.pinned (OpenSpec.ofChange fnExactExtraCostWrong)

/-- 'laws.FnExactExactRatio': WHATEVER THE INPUT: true; the input reads as it did. -/
def fnExactExactRatioSpec : ChangeSpec := { name := "fnExactExactRatio", fn := fun _ => fun
  | [d1, d2, d3] => { results := [.lit (.bool true)], args := [d1, d2, d3] }
  | _ => none }
def fnExactExactRatioRow : OpenClaim := { program := "ytlhdeofkhajigaa", sum := "1f45b985a72c9032117fd48d5d1b5c9933812668a7459f61d9c2ade995e4c1a6", func := "loop.example/g01087/laws.FnExactExactRatio", spec := "fnExactExactRatio", unfollowed := true, recurses := true, apart := false }
def FnExactExactRatioSaid : Prop := fnExactExactRatioRow.holds Try.pinned (OpenSpec.ofChange fnExactExactRatioSpec)

/-- ITS FALSE NEIGHBOUR: 'it returns false'. Refute it at one input. -/
def fnExactExactRatioWrong : ChangeSpec := { name := "fnExactExactRatio", fn := fun _ => fun
  | [d1, d2, d3] => { results := [.lit (.bool false)], args := [d1, d2, d3] }
  | _ => none }
def FnExactExactRatioWrongFalsely : Prop := fnExactExactRatioRow.holds Try.pinned (OpenSpec.ofChange fnExactExactRatioWrong)

/-- 'laws.FnExactBestMemoryless': WHATEVER THE INPUT: true; the input reads as it did. -/
def fnExactBestMemorylessSpec : ChangeSpec := { name := "fnExactBestMemoryless", fn := fun _ => fun
  | [d1, d2] => { results := [.lit (.bool true)], args := [d1, d2] }
  | _ => none }
def fnExactBestMemorylessRow : OpenClaim := { program := "ytlhdeofkhajigaa", sum := "1f45b985a72c9032117fd48d5d1b5c9933812668a7459f61d9c2ade995e4c1a6", func := "loop.example/g01087/laws.FnExactBestMemoryless", spec := "fnExactBestMemoryless", unfollowed := true, recurses := true, apart := false }
def FnExactBestMemorylessSaid : Prop := fnExactBestMemorylessRow.holds Try.pinned (OpenSpec.ofChange fnExactBestMemorylessSpec)

/-- ITS FALSE NEIGHBOUR: 'it returns false'. Refute it at one input. -/
def fnExactBestMemorylessWrong : ChangeSpec := { name := "fnExactBestMemoryless", fn := fun _ => fun
  | [d1, d2] => { results := [.lit (.bool false)], args := [d1, d2] }
  | _ => none }
def FnExactBestMemorylessWrongFalsely : Prop := fnExactBestMemorylessRow.holds Try.pinned (OpenSpec.ofChange fnExactBestMemorylessWrong)

/- THE SECOND FORM. 'bulk': how many values and letters a reading holds, each counted each time it is reached (what is shared counts as often as it is met; a slice's spare places count too). A statement '..UptoSaid' is the law's where the arguments, and the package variables that the reading takes, are together of bulk at most 1048576: NARROWER than '..Said'. Prove '..Said' where nothing that the law and all that it calls make is longer than what came in: it says more and counts as full. Else prove '..UptoSaid'. A law counts once. -/
mutual
def uptoBulk {H : Type} : DataW H → Nat
  | .lit (.string bytes) => bytes.length + 1
  | .lit _ => 1
  | .nil => 1
  | .ptr d => uptoBulk d + 1
  | .slice elems spare => uptoBulkAll elems + uptoBulkAll spare + 1
  | .agg parts => uptoBulkAll parts + 1
  | .iface _ d => uptoBulk d + 1
  | .map entries => uptoBulkEntries entries + 1
  | .held _ => 1
def uptoBulkAll {H : Type} : List (DataW H) → Nat
  | [] => 0
  | d :: r => uptoBulk d + uptoBulkAll r
def uptoBulkEntries {H : Type} : List (Lit × DataW H) → Nat
  | [] => 0
  | x :: r => uptoBulkEntry x + uptoBulkEntries r
def uptoBulkEntry {H : Type} : Lit × DataW H → Nat
  | (.string bytes, d) => bytes.length + uptoBulk d + 1
  | (_, d) => uptoBulk d + 1
 end
def uptoSmall : (H : Type) → List (DataW H) → Bool := fun _ ds => decide (uptoBulkAll ds ≤ 1048576)
def OpenSpec.upto (s : _root_.Go.ChangeSpec) : _root_.Go.OpenSpec := { _root_.Go.OpenSpec.ofChange s with cond := some uptoSmall }

/-- 'laws.FnExactFindPotential', WHERE WHAT IT READS IS OF BULK AT MOST 1048576: true; the input reads as it did. -/
def fnExactFindPotentialUptoRow : OpenClaim := { program := "ytlhdeofkhajigaa", sum := "1f45b985a72c9032117fd48d5d1b5c9933812668a7459f61d9c2ade995e4c1a6", func := "loop.example/g01087/laws.FnExactFindPotential", spec := "fnExactFindPotential", unfollowed := true, recurses := true, apart := false, narrowed := true }
def FnExactFindPotentialUptoSaid : Prop := fnExactFindPotentialUptoRow.holds Try.pinned (OpenSpec.upto fnExactFindPotentialSpec)

/-- 'laws.FnExactExtraCost', WHERE WHAT IT READS IS OF BULK AT MOST 1048576: true; the input reads as it did. -/
def fnExactExtraCostUptoRow : OpenClaim := { program := "ytlhdeofkhajigaa", sum := "1f45b985a72c9032117fd48d5d1b5c9933812668a7459f61d9c2ade995e4c1a6", func := "loop.example/g01087/laws.FnExactExtraCost", spec := "fnExactExtraCost", unfollowed := true, recurses := true, apart := false, narrowed := true }
def FnExactExtraCostUptoSaid : Prop := fnExactExtraCostUptoRow.holds Try.pinned (OpenSpec.upto fnExactExtraCostSpec)

/-- 'laws.FnExactExactRatio', WHERE WHAT IT READS IS OF BULK AT MOST 1048576: true; the input reads as it did. -/
def fnExactExactRatioUptoRow : OpenClaim := { program := "ytlhdeofkhajigaa", sum := "1f45b985a72c9032117fd48d5d1b5c9933812668a7459f61d9c2ade995e4c1a6", func := "loop.example/g01087/laws.FnExactExactRatio", spec := "fnExactExactRatio", unfollowed := true, recurses := true, apart := false, narrowed := true }
def FnExactExactRatioUptoSaid : Prop := fnExactExactRatioUptoRow.holds Try.pinned (OpenSpec.upto fnExactExactRatioSpec)

/-- 'laws.FnExactBestMemoryless', WHERE WHAT IT READS IS OF BULK AT MOST 1048576: true; the input reads as it did. -/
def fnExactBestMemorylessUptoRow : OpenClaim := { program := "ytlhdeofkhajigaa", sum := "1f45b985a72c9032117fd48d5d1b5c9933812668a7459f61d9c2ade995e4c1a6", func := "loop.example/g01087/laws.FnExactBestMemoryless", spec := "fnExactBestMemoryless", unfollowed := true, recurses := true, apart := false, narrowed := true }
def FnExactBestMemorylessUptoSaid : Prop := fnExactBestMemorylessUptoRow.holds Try.pinned (OpenSpec.upto fnExactBestMemorylessSpec)

end Rows
end Go.Proofs.Ytlhdeofkhajigaa
