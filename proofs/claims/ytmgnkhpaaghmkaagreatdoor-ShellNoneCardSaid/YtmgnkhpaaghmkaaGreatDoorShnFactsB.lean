/- The closed facts of ShellNone's row, one by one, part B (the program is too great for one). -/
import Derived.Test.YtmgnkhpaaghmkaaGreatDoorRows
import Derived.JoinedCond
namespace Go.Proofs.YtmgnkhpaaghmkaaGreatDoor.ShnFacts
open Go
abbrev sbB : ChangeSpec := (OpenSpec.ofChange Rows.shellNoneSpec).bare
theorem k10 : ((Rows.shellNoneRow.inPlace == Tryz.prog.inPlace 3)) = true := by kernel_rfl
end Go.Proofs.YtmgnkhpaaghmkaaGreatDoor.ShnFacts
