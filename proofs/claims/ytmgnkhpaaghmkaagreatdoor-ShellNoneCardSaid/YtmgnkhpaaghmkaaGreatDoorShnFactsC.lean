/- The closed facts of ShellNone's row, one by one, part C (the program is too great for one). -/
import Derived.Test.YtmgnkhpaaghmkaaGreatDoorRows
import Derived.JoinedCond
namespace Go.Proofs.YtmgnkhpaaghmkaaGreatDoor.ShnFacts
open Go
abbrev sbC : ChangeSpec := (OpenSpec.ofChange Rows.shellNoneSpec).bare
theorem k12 : ((Rows.shellNoneRow.recurses == Tryz.prog.recurses 3)) = true := by kernel_rfl
end Go.Proofs.YtmgnkhpaaghmkaaGreatDoor.ShnFacts
