/-
  DERIVED. GIVEN WITH THE SEED: THE CARDS: each row of YtmgnkhpaaghmkaaGreatDoorRows.lean that lists a variable, with what it lists TIED to the program's text (the seventh form; the later family's looks); each row that meets fmt, with fmt's text TOLD by the authors' own Lean function (tested against real Go, not proved from fmt's source: count such statements apart). THE CARD IS WHAT COUNTS. Prove the row's statement (the work); the ties are given (YtmgnkhpaaghmkaaGreatDoorTie.lean); close each card by the builder's one call (the guide's Derived/Test/ToyasCard.lean, 'card_holds'). Laid BY PROGRAM, IN A SANDBOX (cutbox-door.mjs). By AI agents, Wed Nov 11 2026. No macro, syntax, notation, axiom, sorry.
-/
import Derived.Test.YtmgnkhpaaghmkaaGreatDoorRows
import GoSem.ClaimSeven
namespace Go.Proofs.YtmgnkhpaaghmkaaGreatDoor
namespace Rows

/-- THE TIED CARD OF 'chordmaillaw28.ShellNone'. -/
def shellNoneCard : Claim7 := { stood := { row := shellNoneRow, standIns := [], harness := (true, "005b354745b052523f38e05effe51259d1faec9c8fb24f48b31c15708dc509a2"), looks := true }, kinds := [], alts := [], laidByText := true, laidKinds := [.sentinel, .sentinel, .data, .data, .data], laidTests := true, laidLooks := .later }
def ShellNoneCardSaid : Prop := Claim7.holds Tryz.pinned (.plain (OpenSpec.ofChange shellNoneSpec)) shellNoneCard

/-- THE SECOND FORM's CARD OF 'chordmaillaw28.ShellNone'. -/
def shellNoneUptoCard : Claim7 := { stood := { row := shellNoneUptoRow, standIns := [], harness := (true, "005b354745b052523f38e05effe51259d1faec9c8fb24f48b31c15708dc509a2"), looks := true }, kinds := [], alts := [], laidByText := true, laidKinds := [.sentinel, .sentinel, .data, .data, .data], laidTests := true, laidLooks := .later }
def ShellNoneUptoCardSaid : Prop := Claim7.holds Tryz.pinned (.plain (OpenSpec.upto shellNoneSpec)) shellNoneUptoCard
end Rows
end Go.Proofs.YtmgnkhpaaghmkaaGreatDoor
