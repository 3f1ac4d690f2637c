/- The types, the variables and the parameters of ShellNone's program are laid out well: in pieces (the program is too great for one). -/
import Derived.Test.YtmgnkhpaaghmkaaGreatDoorRows
import Derived.JoinedCond
namespace Go.Proofs.YtmgnkhpaaghmkaaGreatDoor.ShnFacts
open Go
theorem r0 : ((List.range' 0 100).all (rowFine Tryz.prog)) = true := by kernel_rfl
theorem r1 : ((List.range' 100 100).all (rowFine Tryz.prog)) = true := by kernel_rfl
theorem r2 : ((List.range' 200 100).all (rowFine Tryz.prog)) = true := by kernel_rfl
theorem r3 : ((List.range' 300 100).all (rowFine Tryz.prog)) = true := by kernel_rfl
theorem r4 : ((List.range' 400 100).all (rowFine Tryz.prog)) = true := by kernel_rfl
theorem r5 : ((List.range' 500 100).all (rowFine Tryz.prog)) = true := by kernel_rfl
theorem r6 : ((List.range' 600 100).all (rowFine Tryz.prog)) = true := by kernel_rfl
theorem r7 : ((List.range' 700 24).all (rowFine Tryz.prog)) = true := by kernel_rfl
theorem size724 : Tryz.prog.types.size = 724 := by kernel_rfl
theorem gl : (Tryz.prog.globals.all (fun g => decide (g.type < Tryz.prog.types.size))) = true := by kernel_rfl
end Go.Proofs.YtmgnkhpaaghmkaaGreatDoor.ShnFacts
