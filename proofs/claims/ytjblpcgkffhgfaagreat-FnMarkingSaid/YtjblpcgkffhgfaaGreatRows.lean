/-
  No cell of these rows narrows 'for every input' (looked for: loops, veiled, ifaces, maps, wideKeys, modest, calm, conditions, laid).
  DERIVED. THE GIVEN ROWS OF THIS SEAT. 3 by the template 'for every input the law returns true; each argument reads behind the call as it read before'; 0 by the template 'total and deterministic' (their statements: YtjblpcgkffhgfaaGreatTotals.lean).
  GIVEN WITH THE SEED: the statements are not yours to turn. If you find one false, say at which input.
  Laid BY PROGRAM, IN A SANDBOX (cutbox-rows.mjs): the forced cells as the released guide's own fill.sh prints them over the translation 2abec18b8c06c772… (all of the seat's roots in one cut). By AI agents, Wed Nov 11 2026. No macro, syntax, notation, axiom, sorry.
-/
import Derived.Test.YtjblpcgkffhgfaaGreatChecked
import GoSem.Claim
import GoSem.ClaimJoined
import GoSem.ClaimMapViews
import Derived.JoinedTies
import Derived.KernelRfl
namespace Go.Proofs.YtjblpcgkffhgfaaGreat
/- THE CELL 'sum', in the pinned program and in every row, IS THE sha256 OF THE DUMP (.gsa) THAT YtjblpcgkffhgfaaGreatProg.lean LOADS. Nothing in Lean hashes anything: it is a label: what it is worth is what the hold of that sum in a sandbox is worth. -/
noncomputable def Tryz.pinned : Pinned := { name := "ytjblpcgkffhgfaagreat", sum := "2abec18b8c06c772d560bcf1b2724f2597ddf94d4d7f41c71f2f58ec4e0cf0a4", checked := Tryz.checked }
namespace Rows
def none {H : Type} : Left H := { results := [], args := [] }

/-- 'laws.FnMarks': WHATEVER THE INPUT: true; the input reads as it did. -/
def fnMarksSpec : ChangeSpec := { name := "fnMarks", fn := fun _ => fun
  | [d] => { results := [.lit (.bool true)], args := [d] }
  | _ => none }
def fnMarksRow : OpenClaim := { program := "ytjblpcgkffhgfaagreat", sum := "2abec18b8c06c772d560bcf1b2724f2597ddf94d4d7f41c71f2f58ec4e0cf0a4", func := "loop.example/g01087/laws.FnMarks", spec := "fnMarks", unfollowed := true, recurses := true, plainKeys := false, apart := false }
def FnMarksSaid : Prop := fnMarksRow.holds Tryz.pinned (OpenSpec.ofChange fnMarksSpec)

/-- ITS FALSE NEIGHBOUR: 'it returns false'. Refute it at one input. -/
def fnMarksWrong : ChangeSpec := { name := "fnMarks", fn := fun _ => fun
  | [d] => { results := [.lit (.bool false)], args := [d] }
  | _ => none }
def FnMarksWrongFalsely : Prop := fnMarksRow.holds Tryz.pinned (OpenSpec.ofChange fnMarksWrong)

/-- 'laws.FnMarking': WHATEVER THE INPUT: true; the input reads as it did. -/
def fnMarkingSpec : ChangeSpec := { name := "fnMarking", fn := fun _ => fun
  | [d] => { results := [.lit (.bool true)], args := [d] }
  | _ => none }
def fnMarkingRow : OpenClaim := { program := "ytjblpcgkffhgfaagreat", sum := "2abec18b8c06c772d560bcf1b2724f2597ddf94d4d7f41c71f2f58ec4e0cf0a4", func := "loop.example/g01087/laws.FnMarking", spec := "fnMarking", inPlace := ["slices.overlaps[[]int]", "slices.overlaps[loop.example/g01087/impl.Frac]"], unfollowed := true, recurses := true, plainKeys := false, apart := false }
def FnMarkingSaid : Prop := fnMarkingRow.holds Tryz.pinned (OpenSpec.ofChange fnMarkingSpec)

/-- ITS FALSE NEIGHBOUR: 'it returns false'. Refute it at one input. -/
def fnMarkingWrong : ChangeSpec := { name := "fnMarking", fn := fun _ => fun
  | [d] => { results := [.lit (.bool false)], args := [d] }
  | _ => none }
def FnMarkingWrongFalsely : Prop := fnMarkingRow.holds Tryz.pinned (OpenSpec.ofChange fnMarkingWrong)

/-- 'laws.FnFarthest': WHATEVER THE INPUT: true; the input reads as it did. -/
def fnFarthestSpec : ChangeSpec := { name := "fnFarthest", fn := fun _ => fun
  | [d] => { results := [.lit (.bool true)], args := [d] }
  | _ => none }
def fnFarthestRow : OpenClaim := { program := "ytjblpcgkffhgfaagreat", sum := "2abec18b8c06c772d560bcf1b2724f2597ddf94d4d7f41c71f2f58ec4e0cf0a4", func := "loop.example/g01087/laws.FnFarthest", spec := "fnFarthest", unfollowed := true, recurses := true, plainKeys := false, apart := false }
def FnFarthestSaid : Prop := fnFarthestRow.holds Tryz.pinned (OpenSpec.ofChange fnFarthestSpec)

/-- ITS FALSE NEIGHBOUR: 'it returns false'. Refute it at one input. -/
def fnFarthestWrong : ChangeSpec := { name := "fnFarthest", fn := fun _ => fun
  | [d] => { results := [.lit (.bool false)], args := [d] }
  | _ => none }
def FnFarthestWrongFalsely : Prop := fnFarthestRow.holds Tryz.pinned (OpenSpec.ofChange fnFarthestWrong)

/- THE SECOND FORM. 'bulk': how many values and letters a reading holds, each counted each time it is reached (what is shared counts as often as it is met; a slice's spare places count too). A statement '..UptoSaid' is the law's where the arguments, and the package variables that the reading takes, are together of bulk at most 1048576: NARROWER than '..Said'. Prove '..Said' where nothing that the law and all that it calls make is longer than what came in: it says more and counts as full. Else prove '..UptoSaid'. A law counts once. -/
mutual
def uptoBulk {H : Type} : DataW H → Nat
  | .lit (.string bytes) => bytes.length + 1
  | .lit _ => 1
  | .nil => 1
  | .ptr d => uptoBulk d + 1
  | .slice elems spare => uptoBulkAll elems + uptoBulkAll spare + 1
  | .agg parts => uptoBulkAll parts + 1
  | .iface _ d => uptoBulk d + 1
  | .map entries => uptoBulkEntries entries + 1
  | .held _ => 1
def uptoBulkAll {H : Type} : List (DataW H) → Nat
  | [] => 0
  | d :: r => uptoBulk d + uptoBulkAll r
def uptoBulkEntries {H : Type} : List (Lit × DataW H) → Nat
  | [] => 0
  | x :: r => uptoBulkEntry x + uptoBulkEntries r
def uptoBulkEntry {H : Type} : Lit × DataW H → Nat
  | (.string bytes, d) => bytes.length + uptoBulk d + 1
  | (_, d) => uptoBulk d + 1
 end
def uptoSmall : (H : Type) → List (DataW H) → Bool := fun _ ds => decide (uptoBulkAll ds ≤ 1048576)
def OpenSpec.upto (s : _root_.Go.ChangeSpec) : _root_.Go.OpenSpec := { _root_.Go.OpenSpec.ofChange s with cond := some uptoSmall }

/-- 'laws.FnMarks', WHERE WHAT IT READS IS OF BULK AT MOST 1048576: true; the input reads as it did. -/
def fnMarksUptoRow : OpenClaim := { program := "ytjblpcgkffhgfaagreat", sum := "2abec18b8c06c772d560bcf1b2724f2597ddf94d4d7f41c71f2f58ec4e0cf0a4", func := "loop.example/g01087/laws.FnMarks", spec := "fnMarks", unfollowed := true, recurses := true, plainKeys := false, apart := false, narrowed := true }
def FnMarksUptoSaid : Prop := fnMarksUptoRow.holds Tryz.pinned (OpenSpec.upto fnMarksSpec)

/-- 'laws.FnMarking', WHERE WHAT IT READS IS OF BULK AT MOST 1048576: true; the input reads as it did. -/
def fnMarkingUptoRow : OpenClaim := { program := "ytjblpcgkffhgfaagreat", sum := "2abec18b8c06c772d560bcf1b2724f2597ddf94d4d7f41c71f2f58ec4e0cf0a4", func := "loop.example/g01087/laws.FnMarking", spec := "fnMarking", inPlace := ["slices.overlaps[[]int]", "slices.overlaps[loop.example/g01087/impl.Frac]"], unfollowed := true, recurses := true, plainKeys := false, apart := false, narrowed := true }
def FnMarkingUptoSaid : Prop := fnMarkingUptoRow.holds Tryz.pinned (OpenSpec.upto fnMarkingSpec)

/-- 'laws.FnFarthest', WHERE WHAT IT READS IS OF BULK AT MOST 1048576: true; the input reads as it did. -/
def fnFarthestUptoRow : OpenClaim := { program := "ytjblpcgkffhgfaagreat", sum := "2abec18b8c06c772d560bcf1b2724f2597ddf94d4d7f41c71f2f58ec4e0cf0a4", func := "loop.example/g01087/laws.FnFarthest", spec := "fnFarthest", unfollowed := true, recurses := true, plainKeys := false, apart := false, narrowed := true }
def FnFarthestUptoSaid : Prop := fnFarthestUptoRow.holds Tryz.pinned (OpenSpec.upto fnFarthestSpec)

end Rows
end Go.Proofs.YtjblpcgkffhgfaaGreat
