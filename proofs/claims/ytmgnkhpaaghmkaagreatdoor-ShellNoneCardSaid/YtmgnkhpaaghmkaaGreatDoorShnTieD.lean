/- The tie of ShellNone's listed variables, out of its parts. -/
import Derived.Test.YtmgnkhpaaghmkaaGreatDoorShnTieB
import Derived.Test.YtmgnkhpaaghmkaaGreatDoorShnTieC
import Derived.SevenTiedAt
namespace Go.Proofs.YtmgnkhpaaghmkaaGreatDoor.ShnTie
open Go
theorem tie : Tryz.prog.laidByTextLater lst [.sentinel, .sentinel, .data, .data, .data] true :=
  Program.laidByTextLater_by_one 62 8 65 t1 t2 t3 t4 t5 t6 t7
theorem noUnsafe : Tryz.pinned.checked.prog.headLifts.contains "ownunsafe" = false := by kernel_rfl
theorem row_tie : Rows.shellNoneRow.laidByTextAt .later Tryz.pinned [.sentinel, .sentinel, .data, .data, .data] true :=
  OpenClaim.laidByTextAt_later rfl rfl tie noUnsafe
end Go.Proofs.YtmgnkhpaaghmkaaGreatDoor.ShnTie
