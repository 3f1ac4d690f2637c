/- The closed facts by which ShellNone's listed variables are tied to the program's text, part C (one theorem a fact: all in one pass the memory). -/
import Derived.Test.YtmgnkhpaaghmkaaGreatDoorRows
import Derived.Test.YtmgnkhpaaghmkaaGreatDoorShnTieA
import Derived.LaidByTextLater
import Derived.LaidOnce
namespace Go.Proofs.YtmgnkhpaaghmkaaGreatDoor.ShnTie
open Go
set_option maxRecDepth 100000
theorem t7 : ∀ os tape, doorLeaves Tryz.prog 62 8 65 lst os tape = some (lst.filter fun x => x.2.handleName?.isNone, (funcsListed lst).map (·.2.funcsOut)) := fun _ _ => by kernel_rfl
end Go.Proofs.YtmgnkhpaaghmkaaGreatDoor.ShnTie
