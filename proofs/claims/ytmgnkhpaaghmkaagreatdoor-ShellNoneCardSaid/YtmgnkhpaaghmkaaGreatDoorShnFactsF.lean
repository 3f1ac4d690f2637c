/- The closed facts of ShellNone's row, one by one, part F (the program is too great for one). -/
import Derived.Test.YtmgnkhpaaghmkaaGreatDoorRows
import Derived.JoinedCond
namespace Go.Proofs.YtmgnkhpaaghmkaaGreatDoor.ShnFacts
open Go
abbrev sbF : ChangeSpec := (OpenSpec.ofChange Rows.shellNoneSpec).bare
theorem k3 : (mapsRowed Tryz.prog) = true := by kernel_rfl
theorem k4 : (Tryz.f3.params.all (Tryz.prog.readableRec ·)) = true := by kernel_rfl
theorem k5 : (namedTie Tryz.prog Rows.shellNoneRow.named sbF.vars) = true := by kernel_rfl
end Go.Proofs.YtmgnkhpaaghmkaaGreatDoor.ShnFacts
