/-
  No cell of these rows narrows 'for every input' (looked for: loops, veiled, ifaces, maps, wideKeys, modest, calm, conditions, laid).
  DERIVED. THE GIVEN ROWS OF THIS SEAT. 3 by the template 'for every input the law returns true; each argument reads behind the call as it read before'; 0 by the template 'total and deterministic' (their statements: YtnblieajjclipaaGreatTotals.lean).
  GIVEN WITH THE SEED: the statements are not yours to turn. If you find one false, say at which input.
  Laid BY PROGRAM, IN A SANDBOX (cutbox-rows.mjs): the forced cells as the released guide's own fill.sh prints them over the translation f066fe8043a1527d… (all of the seat's roots in one cut). By AI agents, Wed Nov 11 2026. No macro, syntax, notation, axiom, sorry.
-/
import Derived.Test.YtnblieajjclipaaGreatChecked
import GoSem.Claim
import GoSem.ClaimJoined
import GoSem.ClaimMapViews
import Derived.JoinedTies
import Derived.KernelRfl
namespace Go.Proofs.YtnblieajjclipaaGreat
/- THE CELL 'sum', in the pinned program and in every row, IS THE sha256 OF THE DUMP (.gsa) THAT YtnblieajjclipaaGreatProg.lean LOADS. Nothing in Lean hashes anything: it is a label: what it is worth is what the hold of that sum in a sandbox is worth. -/
noncomputable def Tryz.pinned : Pinned := { name := "ytnblieajjclipaagreat", sum := "f066fe8043a1527d1a0db3099420f467bb4635d00161814c5d5f005036d47d87", checked := Tryz.checked }
namespace Rows
def none {H : Type} : Left H := { results := [], args := [] }

/-- 'laws.FnExactFindHold': WHATEVER THE INPUT: true; the input reads as it did. -/
def fnExactFindHoldSpec : ChangeSpec := { name := "fnExactFindHold", fn := fun _ => fun
  | [d1, d2] => { results := [.lit (.bool true)], args := [d1, d2] }
  | _ => none }
def fnExactFindHoldRow : OpenClaim := { program := "ytnblieajjclipaagreat", sum := "f066fe8043a1527d1a0db3099420f467bb4635d00161814c5d5f005036d47d87", func := "loop.example/g01087/laws.FnExactFindHold", spec := "fnExactFindHold", unfollowed := true, recurses := true, plainKeys := false, apart := false }
def FnExactFindHoldSaid : Prop := fnExactFindHoldRow.holds Tryz.pinned (OpenSpec.ofChange fnExactFindHoldSpec)

/-- ITS FALSE NEIGHBOUR: 'it returns false'. Refute it at one input. -/
def fnExactFindHoldWrong : ChangeSpec := { name := "fnExactFindHold", fn := fun _ => fun
  | [d1, d2] => { results := [.lit (.bool false)], args := [d1, d2] }
  | _ => none }
def FnExactFindHoldWrongFalsely : Prop := fnExactFindHoldRow.holds Tryz.pinned (OpenSpec.ofChange fnExactFindHoldWrong)

/-- 'laws.FnHolds': WHATEVER THE INPUT: true; the input reads as it did. -/
def fnHoldsSpec : ChangeSpec := { name := "fnHolds", fn := fun _ => fun
  | [d] => { results := [.lit (.bool true)], args := [d] }
  | _ => none }
def fnHoldsRow : OpenClaim := { program := "ytnblieajjclipaagreat", sum := "f066fe8043a1527d1a0db3099420f467bb4635d00161814c5d5f005036d47d87", func := "loop.example/g01087/laws.FnHolds", spec := "fnHolds", unfollowed := true, recurses := true, plainKeys := false, apart := false }
def FnHoldsSaid : Prop := fnHoldsRow.holds Tryz.pinned (OpenSpec.ofChange fnHoldsSpec)

/-- ITS FALSE NEIGHBOUR: 'it returns false'. Refute it at one input. -/
def fnHoldsWrong : ChangeSpec := { name := "fnHolds", fn := fun _ => fun
  | [d] => { results := [.lit (.bool false)], args := [d] }
  | _ => none }
def FnHoldsWrongFalsely : Prop := fnHoldsRow.holds Tryz.pinned (OpenSpec.ofChange fnHoldsWrong)

/-- 'laws.FnGameRatio': WHATEVER THE INPUT: true; the input reads as it did. -/
def fnGameRatioSpec : ChangeSpec := { name := "fnGameRatio", fn := fun _ => fun
  | [d] => { results := [.lit (.bool true)], args := [d] }
  | _ => none }
def fnGameRatioRow : OpenClaim := { program := "ytnblieajjclipaagreat", sum := "f066fe8043a1527d1a0db3099420f467bb4635d00161814c5d5f005036d47d87", func := "loop.example/g01087/laws.FnGameRatio", spec := "fnGameRatio", unfollowed := true, recurses := true, plainKeys := false, apart := false }
def FnGameRatioSaid : Prop := fnGameRatioRow.holds Tryz.pinned (OpenSpec.ofChange fnGameRatioSpec)

/-- ITS FALSE NEIGHBOUR: 'it returns false'. Refute it at one input. -/
def fnGameRatioWrong : ChangeSpec := { name := "fnGameRatio", fn := fun _ => fun
  | [d] => { results := [.lit (.bool false)], args := [d] }
  | _ => none }
def FnGameRatioWrongFalsely : Prop := fnGameRatioRow.holds Tryz.pinned (OpenSpec.ofChange fnGameRatioWrong)

/- THE SECOND FORM. 'bulk': how many values and letters a reading holds, each counted each time it is reached (what is shared counts as often as it is met; a slice's spare places count too). A statement '..UptoSaid' is the law's where the arguments, and the package variables that the reading takes, are together of bulk at most 1048576: NARROWER than '..Said'. Prove '..Said' where nothing that the law and all that it calls make is longer than what came in: it says more and counts as full. Else prove '..UptoSaid'. A law counts once. -/
mutual
def uptoBulk {H : Type} : DataW H → Nat
  | .lit (.string bytes) => bytes.length + 1
  | .lit _ => 1
  | .nil => 1
  | .ptr d => uptoBulk d + 1
  | .slice elems spare => uptoBulkAll elems + uptoBulkAll spare + 1
  | .agg parts => uptoBulkAll parts + 1
  | .iface _ d => uptoBulk d + 1
  | .map entries => uptoBulkEntries entries + 1
  | .held _ => 1
def uptoBulkAll {H : Type} : List (DataW H) → Nat
  | [] => 0
  | d :: r => uptoBulk d + uptoBulkAll r
def uptoBulkEntries {H : Type} : List (Lit × DataW H) → Nat
  | [] => 0
  | x :: r => uptoBulkEntry x + uptoBulkEntries r
def uptoBulkEntry {H : Type} : Lit × DataW H → Nat
  | (.string bytes, d) => bytes.length + uptoBulk d + 1
  | (_, d) => uptoBulk d + 1
 end
def uptoSmall : (H : Type) → List (DataW H) → Bool := fun _ ds => decide (uptoBulkAll ds ≤ 1048576)
def OpenSpec.upto (s : _root_.Go.ChangeSpec) : _root_.Go.OpenSpec := { _root_.Go.OpenSpec.ofChange s with cond := some uptoSmall }

/-- 'laws.FnExactFindHold', WHERE WHAT IT READS IS OF BULK AT MOST 1048576: true; the input reads as it did. -/
def fnExactFindHoldUptoRow : OpenClaim := { program := "ytnblieajjclipaagreat", sum := "f066fe8043a1527d1a0db3099420f467bb4635d00161814c5d5f005036d47d87", func := "loop.example/g01087/laws.FnExactFindHold", spec := "fnExactFindHold", unfollowed := true, recurses := true, plainKeys := false, apart := false, narrowed := true }
def FnExactFindHoldUptoSaid : Prop := fnExactFindHoldUptoRow.holds Tryz.pinned (OpenSpec.upto fnExactFindHoldSpec)

/-- 'laws.FnHolds', WHERE WHAT IT READS IS OF BULK AT MOST 1048576: true; the input reads as it did. -/
def fnHoldsUptoRow : OpenClaim := { program := "ytnblieajjclipaagreat", sum := "f066fe8043a1527d1a0db3099420f467bb4635d00161814c5d5f005036d47d87", func := "loop.example/g01087/laws.FnHolds", spec := "fnHolds", unfollowed := true, recurses := true, plainKeys := false, apart := false, narrowed := true }
def FnHoldsUptoSaid : Prop := fnHoldsUptoRow.holds Tryz.pinned (OpenSpec.upto fnHoldsSpec)

/-- 'laws.FnGameRatio', WHERE WHAT IT READS IS OF BULK AT MOST 1048576: true; the input reads as it did. -/
def fnGameRatioUptoRow : OpenClaim := { program := "ytnblieajjclipaagreat", sum := "f066fe8043a1527d1a0db3099420f467bb4635d00161814c5d5f005036d47d87", func := "loop.example/g01087/laws.FnGameRatio", spec := "fnGameRatio", unfollowed := true, recurses := true, plainKeys := false, apart := false, narrowed := true }
def FnGameRatioUptoSaid : Prop := fnGameRatioUptoRow.holds Tryz.pinned (OpenSpec.upto fnGameRatioSpec)

end Rows
end Go.Proofs.YtnblieajjclipaaGreat
