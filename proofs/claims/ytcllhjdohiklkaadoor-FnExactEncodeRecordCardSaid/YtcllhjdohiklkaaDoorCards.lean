/-
  DERIVED. GIVEN WITH THE SEED: THE CARDS: each row of YtcllhjdohiklkaaDoorRows.lean that lists a variable, with what it lists TIED to the program's text (the seventh form; the later family's looks); each row that meets fmt, with fmt's text TOLD by the authors' own Lean function (tested against real Go, not proved from fmt's source: count such statements apart). THE CARD IS WHAT COUNTS. Prove the row's statement (the work); the ties are given (YtcllhjdohiklkaaDoorTie.lean); close each card by the builder's one call (the guide's Derived/Test/ToyasCard.lean, 'card_holds'). Laid BY PROGRAM, IN A SANDBOX (cutbox-door.mjs). By AI agents, Wed Nov 11 2026. No macro, syntax, notation, axiom, sorry.
-/
import Derived.Test.YtcllhjdohiklkaaDoorRows
import GoSem.ClaimSeven
namespace Go.Proofs.YtcllhjdohiklkaaDoor
namespace Rows

/-- THE TIED CARD OF 'laws.FnExactEncodeRecord'. -/
def fnExactEncodeRecordCard : Claim7 := { stood := { row := fnExactEncodeRecordRow, standIns := [], harness := (true, "55e879f3041d0f10a95043f3e2e71f1a7aef0b2931c17188424d4dabbae6fe47"), looks := false }, kinds := [], alts := [], laidByText := true, laidKinds := [.data, .data, .data], laidTests := true, laidLooks := .later }
def FnExactEncodeRecordCardSaid : Prop := Claim7.holds Tryd.pinned (.plain (OpenSpec.ofChange fnExactEncodeRecordSpec)) fnExactEncodeRecordCard

/-- THE SECOND FORM's CARD OF 'laws.FnExactEncodeRecord'. -/
def fnExactEncodeRecordUptoCard : Claim7 := { stood := { row := fnExactEncodeRecordUptoRow, standIns := [], harness := (true, "55e879f3041d0f10a95043f3e2e71f1a7aef0b2931c17188424d4dabbae6fe47"), looks := false }, kinds := [], alts := [], laidByText := true, laidKinds := [.data, .data, .data], laidTests := true, laidLooks := .later }
def FnExactEncodeRecordUptoCardSaid : Prop := Claim7.holds Tryd.pinned (.plain (OpenSpec.upto fnExactEncodeRecordSpec)) fnExactEncodeRecordUptoCard
end Rows
end Go.Proofs.YtcllhjdohiklkaaDoor
