/- The closed facts of ShellNone's row, one by one, part A (the program is too great for one). -/
import Derived.Test.YtmgnkhpaaghmkaaGreatDoorRows
import Derived.JoinedCond
namespace Go.Proofs.YtmgnkhpaaghmkaaGreatDoor.ShnFacts
open Go
abbrev sbA : ChangeSpec := (OpenSpec.ofChange Rows.shellNoneSpec).bare
theorem k1 : (Rows.shellNoneRow.wf (OpenSpec.ofChange sbA)) = true := by kernel_rfl
end Go.Proofs.YtmgnkhpaaghmkaaGreatDoor.ShnFacts
