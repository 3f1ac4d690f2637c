/- The closed facts by which ShellNone's listed variables are tied to the program's text, part B (one theorem a fact: all in one pass the memory). -/
import Derived.Test.YtmgnkhpaaghmkaaGreatDoorRows
import Derived.Test.YtmgnkhpaaghmkaaGreatDoorShnTieA
import Derived.LaidByTextLater
import Derived.LaidOnce
namespace Go.Proofs.YtmgnkhpaaghmkaaGreatDoor.ShnTie
open Go
set_option maxRecDepth 100000
theorem t6 : varsNamedLaterB Tryz.prog (varsId Tryz.prog) lst = true := by kernel_rfl
end Go.Proofs.YtmgnkhpaaghmkaaGreatDoor.ShnTie
