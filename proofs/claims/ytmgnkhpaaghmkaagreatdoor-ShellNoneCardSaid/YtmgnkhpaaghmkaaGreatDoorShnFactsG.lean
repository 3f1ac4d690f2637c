/- The closed facts of ShellNone's row, one by one, part G (the program is too great for one). -/
import Derived.Test.YtmgnkhpaaghmkaaGreatDoorRows
import Derived.JoinedCond
namespace Go.Proofs.YtmgnkhpaaghmkaaGreatDoor.ShnFacts
open Go
abbrev sbG : ChangeSpec := (OpenSpec.ofChange Rows.shellNoneSpec).bare
theorem k6 : ((Rows.shellNoneRow.stops == [])) = true := by kernel_rfl
theorem k7 : ((Tryz.prog.stops == [])) = true := by kernel_rfl
theorem k8 : ((Rows.shellNoneRow.knobs == [])) = true := by kernel_rfl
theorem k9 : ((Tryz.prog.stopKnobs == [])) = true := by kernel_rfl
end Go.Proofs.YtmgnkhpaaghmkaaGreatDoor.ShnFacts
