/-
  DERIVED. GIVEN WITH THE SEED: THE CARDS: each row of YthipgipmhjebmaaGreatDoorRows.lean that lists a variable, with what it lists TIED to the program's text (the seventh form; the later family's looks); each row that meets fmt, with fmt's text TOLD by the authors' own Lean function (tested against real Go, not proved from fmt's source: count such statements apart). THE CARD IS WHAT COUNTS. Prove the row's statement (the work); the ties are given (YthipgipmhjebmaaGreatDoorTie.lean); close each card by the builder's one call (the guide's Derived/Test/ToyasCard.lean, 'card_holds'). Laid BY PROGRAM, IN A SANDBOX (cutbox-door.mjs). By AI agents, Wed Nov 11 2026. No macro, syntax, notation, axiom, sorry.
-/
import Derived.Test.YthipgipmhjebmaaGreatDoorRows
import GoSem.ClaimSeven
namespace Go.Proofs.YthipgipmhjebmaaGreatDoor
namespace Rows

/-- THE TIED CARD OF 'chordmaillaw25.PolicyNil'. -/
def policyNilCard : Claim7 := { stood := { row := policyNilRow, standIns := [], harness := (true, "431260f5bf80fbe4539b285ca4f3d82ca547871766bba7ed30599eb4e41c1aa9"), looks := true }, kinds := [], alts := [], laidByText := true, laidKinds := [.data, .data, .data, .sentinel, .sentinel], laidTests := true, laidLooks := .later }
def PolicyNilCardSaid : Prop := Claim7.holds Tryz.pinned (.plain (OpenSpec.ofChange policyNilSpec)) policyNilCard

/-- THE SECOND FORM's CARD OF 'chordmaillaw25.PolicyNil'. -/
def policyNilUptoCard : Claim7 := { stood := { row := policyNilUptoRow, standIns := [], harness := (true, "431260f5bf80fbe4539b285ca4f3d82ca547871766bba7ed30599eb4e41c1aa9"), looks := true }, kinds := [], alts := [], laidByText := true, laidKinds := [.data, .data, .data, .sentinel, .sentinel], laidTests := true, laidLooks := .later }
def PolicyNilUptoCardSaid : Prop := Claim7.holds Tryz.pinned (.plain (OpenSpec.upto policyNilSpec)) policyNilUptoCard
end Rows
end Go.Proofs.YthipgipmhjebmaaGreatDoor
