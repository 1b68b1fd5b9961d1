/-
  No cell of these rows narrows 'for every input' (looked for: loops, veiled, ifaces, maps, wideKeys, modest, calm, conditions, laid).
  DERIVED. THE GIVEN ROWS OF THIS SEAT. 6 by the template 'for every input the law returns true; each argument reads behind the call as it read before'; 0 by the template 'total and deterministic' (their statements: YtjleohbjanlamaaTotals.lean).
  GIVEN WITH THE SEED: the statements are not yours to turn. If you find one false, say at which input.
  Laid BY PROGRAM, IN A SANDBOX (cutbox-rows.mjs): the forced cells as the released guide's own fill.sh prints them over the translation aa6e50efbfc8e72b… (all of the seat's roots in one cut). By AI agents, Wed Nov 11 2026. No macro, syntax, notation, axiom, sorry.
-/
import Derived.Test.YtjleohbjanlamaaChecked
import GoSem.Claim
import GoSem.ClaimJoined
import GoSem.ClaimMapViews
import Derived.JoinedTies
import Derived.KernelRfl
namespace Go.Proofs.Ytjleohbjanlamaa
/- THE CELL 'sum', in the pinned program and in every row, IS THE sha256 OF THE DUMP (.gsa) THAT YtjleohbjanlamaaProg.lean LOADS. Nothing in Lean hashes anything: it is a label: what it is worth is what the hold of that sum in a sandbox is worth. -/
noncomputable def Try.pinned : Pinned := { name := "ytjleohbjanlamaa", sum := "aa6e50efbfc8e72bcbbf7a35a88894178a45a04828dc5a73ce8439aa0c4fc7fc", checked := Try.checked }
namespace Rows
def none {H : Type} : Left H := { results := [], args := [] }

/-- 'laws.FnExactIsValidRecord': WHATEVER THE INPUT: true; the input reads as it did. -/
def fnExactIsValidRecordSpec : ChangeSpec := { name := "fnExactIsValidRecord", fn := fun _ => fun
  | [d] => { results := [.lit (.bool true)], args := [d] }
  | _ => none }
def fnExactIsValidRecordRow : OpenClaim := { program := "ytjleohbjanlamaa", sum := "aa6e50efbfc8e72bcbbf7a35a88894178a45a04828dc5a73ce8439aa0c4fc7fc", func := "loop.example/g01087/laws.FnExactIsValidRecord", spec := "fnExactIsValidRecord", inPlace := ["internal/bytealg.IndexByteString", "internal/bytealg.IndexString"], named := ["internal/bytealg.MaxLen"], apart := false }
def FnExactIsValidRecordSaid : Prop := fnExactIsValidRecordRow.holds Try.pinned (OpenSpec.ofChange fnExactIsValidRecordSpec)

/-- ITS FALSE NEIGHBOUR: 'it returns false'. Refute it at one input. -/
def fnExactIsValidRecordWrong : ChangeSpec := { name := "fnExactIsValidRecord", fn := fun _ => fun
  | [d] => { results := [.lit (.bool false)], args := [d] }
  | _ => none }
def FnExactIsValidRecordWrongFalsely : Prop := fnExactIsValidRecordRow.holds Try.pinned (OpenSpec.ofChange fnExactIsValidRecordWrong)

/-- 'laws.FnExactNewTournament': WHATEVER THE INPUT: true; the input reads as it did. -/
def fnExactNewTournamentSpec : ChangeSpec := { name := "fnExactNewTournament", fn := fun _ => fun
  | [d] => { results := [.lit (.bool true)], args := [d] }
  | _ => none }
def fnExactNewTournamentRow : OpenClaim := { program := "ytjleohbjanlamaa", sum := "aa6e50efbfc8e72bcbbf7a35a88894178a45a04828dc5a73ce8439aa0c4fc7fc", func := "loop.example/g01087/laws.FnExactNewTournament", spec := "fnExactNewTournament", apart := false }
def FnExactNewTournamentSaid : Prop := fnExactNewTournamentRow.holds Try.pinned (OpenSpec.ofChange fnExactNewTournamentSpec)

/-- ITS FALSE NEIGHBOUR: 'it returns false'. Refute it at one input. -/
def fnExactNewTournamentWrong : ChangeSpec := { name := "fnExactNewTournament", fn := fun _ => fun
  | [d] => { results := [.lit (.bool false)], args := [d] }
  | _ => none }
def FnExactNewTournamentWrongFalsely : Prop := fnExactNewTournamentRow.holds Try.pinned (OpenSpec.ofChange fnExactNewTournamentWrong)

/-- 'laws.FnExactNewConsole': WHATEVER THE INPUT: true; the input reads as it did. -/
def fnExactNewConsoleSpec : ChangeSpec := { name := "fnExactNewConsole", fn := fun _ => fun
  | [d] => { results := [.lit (.bool true)], args := [d] }
  | _ => none }
def fnExactNewConsoleRow : OpenClaim := { program := "ytjleohbjanlamaa", sum := "aa6e50efbfc8e72bcbbf7a35a88894178a45a04828dc5a73ce8439aa0c4fc7fc", func := "loop.example/g01087/laws.FnExactNewConsole", spec := "fnExactNewConsole", apart := false }
def FnExactNewConsoleSaid : Prop := fnExactNewConsoleRow.holds Try.pinned (OpenSpec.ofChange fnExactNewConsoleSpec)

/-- ITS FALSE NEIGHBOUR: 'it returns false'. Refute it at one input. -/
def fnExactNewConsoleWrong : ChangeSpec := { name := "fnExactNewConsole", fn := fun _ => fun
  | [d] => { results := [.lit (.bool false)], args := [d] }
  | _ => none }
def FnExactNewConsoleWrongFalsely : Prop := fnExactNewConsoleRow.holds Try.pinned (OpenSpec.ofChange fnExactNewConsoleWrong)

/-- 'laws.FnExactRowsWorst': WHATEVER THE INPUT: true; the input reads as it did. -/
def fnExactRowsWorstSpec : ChangeSpec := { name := "fnExactRowsWorst", fn := fun _ => fun
  | [d1, d2] => { results := [.lit (.bool true)], args := [d1, d2] }
  | _ => none }
def fnExactRowsWorstRow : OpenClaim := { program := "ytjleohbjanlamaa", sum := "aa6e50efbfc8e72bcbbf7a35a88894178a45a04828dc5a73ce8439aa0c4fc7fc", func := "loop.example/g01087/laws.FnExactRowsWorst", spec := "fnExactRowsWorst", unfollowed := true, recurses := true, apart := false }
def FnExactRowsWorstSaid : Prop := fnExactRowsWorstRow.holds Try.pinned (OpenSpec.ofChange fnExactRowsWorstSpec)

/-- ITS FALSE NEIGHBOUR: 'it returns false'. Refute it at one input. -/
def fnExactRowsWorstWrong : ChangeSpec := { name := "fnExactRowsWorst", fn := fun _ => fun
  | [d1, d2] => { results := [.lit (.bool false)], args := [d1, d2] }
  | _ => none }
def FnExactRowsWorstWrongFalsely : Prop := fnExactRowsWorstRow.holds Try.pinned (OpenSpec.ofChange fnExactRowsWorstWrong)

/-- 'laws.FnExactColumnsWorst': WHATEVER THE INPUT: true; the input reads as it did. -/
def fnExactColumnsWorstSpec : ChangeSpec := { name := "fnExactColumnsWorst", fn := fun _ => fun
  | [d1, d2] => { results := [.lit (.bool true)], args := [d1, d2] }
  | _ => none }
def fnExactColumnsWorstRow : OpenClaim := { program := "ytjleohbjanlamaa", sum := "aa6e50efbfc8e72bcbbf7a35a88894178a45a04828dc5a73ce8439aa0c4fc7fc", func := "loop.example/g01087/laws.FnExactColumnsWorst", spec := "fnExactColumnsWorst", unfollowed := true, recurses := true, apart := false }
def FnExactColumnsWorstSaid : Prop := fnExactColumnsWorstRow.holds Try.pinned (OpenSpec.ofChange fnExactColumnsWorstSpec)

/-- ITS FALSE NEIGHBOUR: 'it returns false'. Refute it at one input. -/
def fnExactColumnsWorstWrong : ChangeSpec := { name := "fnExactColumnsWorst", fn := fun _ => fun
  | [d1, d2] => { results := [.lit (.bool false)], args := [d1, d2] }
  | _ => none }
def FnExactColumnsWorstWrongFalsely : Prop := fnExactColumnsWorstRow.holds Try.pinned (OpenSpec.ofChange fnExactColumnsWorstWrong)

/-- 'laws.FnExactIsChances': WHATEVER THE INPUT: true; the input reads as it did. -/
def fnExactIsChancesSpec : ChangeSpec := { name := "fnExactIsChances", fn := fun _ => fun
  | [d1, d2] => { results := [.lit (.bool true)], args := [d1, d2] }
  | _ => none }
def fnExactIsChancesRow : OpenClaim := { program := "ytjleohbjanlamaa", sum := "aa6e50efbfc8e72bcbbf7a35a88894178a45a04828dc5a73ce8439aa0c4fc7fc", func := "loop.example/g01087/laws.FnExactIsChances", spec := "fnExactIsChances", unfollowed := true, recurses := true, apart := false }
def FnExactIsChancesSaid : Prop := fnExactIsChancesRow.holds Try.pinned (OpenSpec.ofChange fnExactIsChancesSpec)

/-- ITS FALSE NEIGHBOUR: 'it returns false'. Refute it at one input. -/
def fnExactIsChancesWrong : ChangeSpec := { name := "fnExactIsChances", fn := fun _ => fun
  | [d1, d2] => { results := [.lit (.bool false)], args := [d1, d2] }
  | _ => none }
def FnExactIsChancesWrongFalsely : Prop := fnExactIsChancesRow.holds Try.pinned (OpenSpec.ofChange fnExactIsChancesWrong)

/- THE SECOND FORM. 'bulk': how many values and letters a reading holds, each counted each time it is reached (what is shared counts as often as it is met; a slice's spare places count too). A statement '..UptoSaid' is the law's where the arguments, and the package variables that the reading takes, are together of bulk at most 1048576: NARROWER than '..Said'. Prove '..Said' where nothing that the law and all that it calls make is longer than what came in: it says more and counts as full. Else prove '..UptoSaid'. A law counts once. -/
mutual
def uptoBulk {H : Type} : DataW H → Nat
  | .lit (.string bytes) => bytes.length + 1
  | .lit _ => 1
  | .nil => 1
  | .ptr d => uptoBulk d + 1
  | .slice elems spare => uptoBulkAll elems + uptoBulkAll spare + 1
  | .agg parts => uptoBulkAll parts + 1
  | .iface _ d => uptoBulk d + 1
  | .map entries => uptoBulkEntries entries + 1
  | .held _ => 1
def uptoBulkAll {H : Type} : List (DataW H) → Nat
  | [] => 0
  | d :: r => uptoBulk d + uptoBulkAll r
def uptoBulkEntries {H : Type} : List (Lit × DataW H) → Nat
  | [] => 0
  | x :: r => uptoBulkEntry x + uptoBulkEntries r
def uptoBulkEntry {H : Type} : Lit × DataW H → Nat
  | (.string bytes, d) => bytes.length + uptoBulk d + 1
  | (_, d) => uptoBulk d + 1
 end
def uptoSmall : (H : Type) → List (DataW H) → Bool := fun _ ds => decide (uptoBulkAll ds ≤ 1048576)
def OpenSpec.upto (s : _root_.Go.ChangeSpec) : _root_.Go.OpenSpec := { _root_.Go.OpenSpec.ofChange s with cond := some uptoSmall }

/-- 'laws.FnExactIsValidRecord', WHERE WHAT IT READS IS OF BULK AT MOST 1048576: true; the input reads as it did. -/
def fnExactIsValidRecordUptoRow : OpenClaim := { program := "ytjleohbjanlamaa", sum := "aa6e50efbfc8e72bcbbf7a35a88894178a45a04828dc5a73ce8439aa0c4fc7fc", func := "loop.example/g01087/laws.FnExactIsValidRecord", spec := "fnExactIsValidRecord", inPlace := ["internal/bytealg.IndexByteString", "internal/bytealg.IndexString"], named := ["internal/bytealg.MaxLen"], apart := false, narrowed := true }
def FnExactIsValidRecordUptoSaid : Prop := fnExactIsValidRecordUptoRow.holds Try.pinned (OpenSpec.upto fnExactIsValidRecordSpec)

/-- 'laws.FnExactNewTournament', WHERE WHAT IT READS IS OF BULK AT MOST 1048576: true; the input reads as it did. -/
def fnExactNewTournamentUptoRow : OpenClaim := { program := "ytjleohbjanlamaa", sum := "aa6e50efbfc8e72bcbbf7a35a88894178a45a04828dc5a73ce8439aa0c4fc7fc", func := "loop.example/g01087/laws.FnExactNewTournament", spec := "fnExactNewTournament", apart := false, narrowed := true }
def FnExactNewTournamentUptoSaid : Prop := fnExactNewTournamentUptoRow.holds Try.pinned (OpenSpec.upto fnExactNewTournamentSpec)

/-- 'laws.FnExactNewConsole', WHERE WHAT IT READS IS OF BULK AT MOST 1048576: true; the input reads as it did. -/
def fnExactNewConsoleUptoRow : OpenClaim := { program := "ytjleohbjanlamaa", sum := "aa6e50efbfc8e72bcbbf7a35a88894178a45a04828dc5a73ce8439aa0c4fc7fc", func := "loop.example/g01087/laws.FnExactNewConsole", spec := "fnExactNewConsole", apart := false, narrowed := true }
def FnExactNewConsoleUptoSaid : Prop := fnExactNewConsoleUptoRow.holds Try.pinned (OpenSpec.upto fnExactNewConsoleSpec)

/-- 'laws.FnExactRowsWorst', WHERE WHAT IT READS IS OF BULK AT MOST 1048576: true; the input reads as it did. -/
def fnExactRowsWorstUptoRow : OpenClaim := { program := "ytjleohbjanlamaa", sum := "aa6e50efbfc8e72bcbbf7a35a88894178a45a04828dc5a73ce8439aa0c4fc7fc", func := "loop.example/g01087/laws.FnExactRowsWorst", spec := "fnExactRowsWorst", unfollowed := true, recurses := true, apart := false, narrowed := true }
def FnExactRowsWorstUptoSaid : Prop := fnExactRowsWorstUptoRow.holds Try.pinned (OpenSpec.upto fnExactRowsWorstSpec)

/-- 'laws.FnExactColumnsWorst', WHERE WHAT IT READS IS OF BULK AT MOST 1048576: true; the input reads as it did. -/
def fnExactColumnsWorstUptoRow : OpenClaim := { program := "ytjleohbjanlamaa", sum := "aa6e50efbfc8e72bcbbf7a35a88894178a45a04828dc5a73ce8439aa0c4fc7fc", func := "loop.example/g01087/laws.FnExactColumnsWorst", spec := "fnExactColumnsWorst", unfollowed := true, recurses := true, apart := false, narrowed := true }
def FnExactColumnsWorstUptoSaid : Prop := fnExactColumnsWorstUptoRow.holds Try.pinned (OpenSpec.upto fnExactColumnsWorstSpec)

/-- 'laws.FnExactIsChances', WHERE WHAT IT READS IS OF BULK AT MOST 1048576: true; the input reads as it did. -/
def fnExactIsChancesUptoRow : OpenClaim := { program := "ytjleohbjanlamaa", sum := "aa6e50efbfc8e72bcbbf7a35a88894178a45a04828dc5a73ce8439aa0c4fc7fc", func := "loop.example/g01087/laws.FnExactIsChances", spec := "fnExactIsChances", unfollowed := true, recurses := true, apart := false, narrowed := true }
def FnExactIsChancesUptoSaid : Prop := fnExactIsChancesUptoRow.holds Try.pinned (OpenSpec.upto fnExactIsChancesSpec)

end Rows
end Go.Proofs.Ytjleohbjanlamaa
