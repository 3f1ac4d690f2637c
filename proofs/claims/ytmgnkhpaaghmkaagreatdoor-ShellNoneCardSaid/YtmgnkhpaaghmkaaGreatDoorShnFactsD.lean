/- The closed facts of ShellNone's row, one by one, part D (the program is too great for one). -/
import Derived.Test.YtmgnkhpaaghmkaaGreatDoorRows
import Derived.JoinedCond
namespace Go.Proofs.YtmgnkhpaaghmkaaGreatDoor.ShnFacts
open Go
abbrev sbD : ChangeSpec := (OpenSpec.ofChange Rows.shellNoneSpec).bare
theorem k13 : ((Rows.shellNoneRow.named == Tryz.prog.varsNamed 3)) = true := by kernel_rfl
end Go.Proofs.YtmgnkhpaaghmkaaGreatDoor.ShnFacts
