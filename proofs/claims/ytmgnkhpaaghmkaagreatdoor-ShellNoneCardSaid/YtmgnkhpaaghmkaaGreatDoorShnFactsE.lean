/- The closed facts of ShellNone's row, one by one, part E (the program is too great for one). -/
import Derived.Test.YtmgnkhpaaghmkaaGreatDoorRows
import Derived.JoinedCond
namespace Go.Proofs.YtmgnkhpaaghmkaaGreatDoor.ShnFacts
open Go
abbrev sbE : ChangeSpec := (OpenSpec.ofChange Rows.shellNoneSpec).bare
theorem k14 : ((Rows.shellNoneRow.maps == (Tryz.f3.params.toList ++ sbE.plain.varTypes Tryz.prog).any (Tryz.prog.mapsRec ·))) = true := by kernel_rfl
theorem k15 : ((Rows.shellNoneRow.ifaces == (Tryz.f3.params.toList ++ sbE.plain.varTypes Tryz.prog).any (Tryz.prog.ifacesRec ·))) = true := by kernel_rfl
theorem k16 : ((Rows.shellNoneRow.mapsOut == Tryz.prog.mapsAmong Tryz.f3.resultTypes.toList)) = true := by kernel_rfl
theorem k17 : ((Rows.shellNoneRow.loops == (Tryz.f3.params.toList ++ sbE.plain.varTypes Tryz.prog).any (Tryz.prog.loopsFrom ·))) = true := by kernel_rfl
theorem k18 : ((Rows.shellNoneRow.wideKeys == (Tryz.f3.params.toList ++ sbE.plain.varTypes Tryz.prog ++ Tryz.f3.resultTypes.toList).any (Tryz.prog.wideKeysFrom ·))) = true := by kernel_rfl
theorem k19 : (sbE.vars.all (Tryz.prog.varReadable ·)) = true := by kernel_rfl
theorem k20 : (Tryz.f3.resultTypes.all (fun t => Tryz.prog.readableRec t && decide (t < Tryz.prog.types.size))) = true := by kernel_rfl
theorem k21 : ((Rows.shellNoneRow.ifacesOut == Tryz.f3.resultTypes.toList.any (Tryz.prog.ifacesRec ·))) = true := by kernel_rfl
theorem k22 : ((Rows.shellNoneRow.loopsOut == Tryz.f3.resultTypes.toList.any (Tryz.prog.loopsFrom ·))) = true := by kernel_rfl
end Go.Proofs.YtmgnkhpaaghmkaaGreatDoor.ShnFacts
