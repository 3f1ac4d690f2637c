/- Two closed facts of ShellNone's card. -/
import Derived.Test.YtmgnkhpaaghmkaaGreatDoorCards
import Derived.SevenTiedAt
namespace Go.Proofs.YtmgnkhpaaghmkaaGreatDoor.ShnFacts
open Go
theorem w1 : Rows.shellNoneRow.wfByText (OpenSpec.ofChange Rows.shellNoneSpec) = true := by kernel_rfl
theorem m1 : Tryz.pinned.checked.prog.mainIs = some (true, "005b354745b052523f38e05effe51259d1faec9c8fb24f48b31c15708dc509a2".toList) := by kernel_rfl
end Go.Proofs.YtmgnkhpaaghmkaaGreatDoor.ShnFacts
