/- The closed facts of ShellNone's row, one by one, part H (the program is too great for one). -/
import Derived.Test.YtmgnkhpaaghmkaaGreatDoorRows
import Derived.JoinedCond
namespace Go.Proofs.YtmgnkhpaaghmkaaGreatDoor.ShnFacts
open Go
abbrev sbH : ChangeSpec := (OpenSpec.ofChange Rows.shellNoneSpec).bare
theorem k11 : ((Rows.shellNoneRow.unfollowed == Tryz.prog.unfollowed 3)) = true := by kernel_rfl
end Go.Proofs.YtmgnkhpaaghmkaaGreatDoor.ShnFacts
