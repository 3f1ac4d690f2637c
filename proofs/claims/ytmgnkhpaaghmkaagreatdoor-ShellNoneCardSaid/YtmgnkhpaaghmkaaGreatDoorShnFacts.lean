/- The closed facts of ShellNone's row, together. -/
import Derived.Test.YtmgnkhpaaghmkaaGreatDoorShnFactsA
import Derived.Test.YtmgnkhpaaghmkaaGreatDoorShnFactsB
import Derived.Test.YtmgnkhpaaghmkaaGreatDoorShnFactsC
import Derived.Test.YtmgnkhpaaghmkaaGreatDoorShnFactsD
import Derived.Test.YtmgnkhpaaghmkaaGreatDoorShnFactsE
import Derived.Test.YtmgnkhpaaghmkaaGreatDoorShnFactsF
import Derived.Test.YtmgnkhpaaghmkaaGreatDoorShnFactsG
import Derived.Test.YtmgnkhpaaghmkaaGreatDoorShnFactsH
import Derived.Test.YtmgnkhpaaghmkaaGreatDoorShnFactsI
import Derived.Test.YtmgnkhpaaghmkaaGreatDoorShnFactsK
namespace Go.Proofs.YtmgnkhpaaghmkaaGreatDoor.ShnFacts
open Go
theorem closed : joinedFacts Tryz.prog 3 Tryz.f3 (OpenSpec.ofChange Rows.shellNoneSpec).bare Rows.shellNoneRow = true := by
  unfold joinedFacts
  simp only [Bool.and_eq_true]
  exact ⟨⟨⟨⟨⟨⟨⟨⟨⟨⟨⟨⟨⟨⟨⟨⟨⟨⟨⟨⟨⟨⟨⟨⟨⟨⟨⟨⟨⟨⟨⟨k1, k2⟩, k3⟩, k4⟩, k5⟩, k6⟩, k7⟩, k8⟩, k9⟩, k10⟩, k11⟩, k12⟩, k13⟩, k14⟩, k15⟩, k16⟩, k17⟩, k18⟩, k19⟩, k20⟩, k21⟩, k22⟩, k23⟩, k24⟩, k25⟩, k26⟩, k27⟩, k28⟩, (by kernel_rfl)⟩, k30⟩, k31⟩, k32⟩
end Go.Proofs.YtmgnkhpaaghmkaaGreatDoor.ShnFacts
