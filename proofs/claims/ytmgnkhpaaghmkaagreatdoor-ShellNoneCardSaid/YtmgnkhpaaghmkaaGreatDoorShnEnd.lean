/- ShellNone: a nil shell, lines and texts that are too long, and such as say nothing, are answered as it is said. The card: its five listed variables are tied to the program's text. -/
import Derived.Test.YtmgnkhpaaghmkaaGreatDoorShnLift
import Derived.Test.YtmgnkhpaaghmkaaGreatDoorShnFacts
import Derived.Test.YtmgnkhpaaghmkaaGreatDoorShnTieD
import Derived.Test.YtmgnkhpaaghmkaaGreatDoorShnGoes
import Derived.Test.YtmgnkhpaaghmkaaGreatDoorShnWf
import Derived.Test.YtmgnkhpaaghmkaaGreatDoorCards
namespace Go.Proofs.YtmgnkhpaaghmkaaGreatDoor.shellNone
open Go

theorem fnNamed : Tryz.prog.funcNamed "chordmail/chordmaillaw28.ShellNone" = some 3 := by kernel_rfl
theorem row : Rows.ShellNoneSaid :=
  OpenClaim.holds_of_cond 3 Tryz.f3 rfl rfl rfl rfl rfl rfl rfl ⟨rfl, rfl, rfl, rfl, rfl⟩ rfl rfl rfl rfl rfl fnNamed Tryz.func3 ShnFacts.closed
    (of_decide_eq_true (by kernel_rfl)) (by unfold Func.isWrapper; first | (rw [if_pos (by decide +kernel)]; kernel_rfl) | (rw [if_neg (by decide +kernel)]; exact ⟨rfl, rfl⟩))
    (fun os started H enc _ F => by rw [OpenClaim.pre_eq_preRow]; exact lifted os started H enc F)

theorem looks0 : true = Tryz.prog.looks [] := by kernel_rfl
theorem plain (f : FuncId) (fn : Func) (hf : Tryz.pinned.checked.prog.funcNamed "chordmail/chordmaillaw28.ShellNone" = some f) (hfn : Tryz.pinned.checked.prog.funcs[f]? = some fn) :
    true = Tryz.pinned.checked.prog.looks [] ∧ ∀ (j : Nat) t, fn.params[j]? = some t → Tryz.pinned.checked.prog.wantsStandIn t = false := by
  obtain rfl : f = 3 := Option.some.inj (fnNamed.symm.trans hf) |>.symm
  obtain rfl : fn = Tryz.f3 := (Option.some.inj (Tryz.func3.symm.trans hfn)).symm
  refine ⟨looks0, fun j t ht => ?_⟩
  rw [Tryz.params3] at ht
  simp at ht

theorem card : Rows.ShellNoneCardSaid :=
  Claim7.holds_tied_plain_at .later [] [.sentinel, .sentinel, .data, .data, .data] true (true, "005b354745b052523f38e05effe51259d1faec9c8fb24f48b31c15708dc509a2") true
    row (fun _ h => by cases h) ShnFacts.w1 (fun _ h => by cases h) ShnTie.row_tie rfl ⟨rfl, rfl⟩ ShnFacts.m1 rfl plain ShnFacts.go1
#print axioms card
end Go.Proofs.YtmgnkhpaaghmkaaGreatDoor.shellNone
namespace Go.Proofs.YtmgnkhpaaghmkaaGreatDoor
theorem shellNone_holds : Rows.ShellNoneCardSaid := shellNone.card
end Go.Proofs.YtmgnkhpaaghmkaaGreatDoor
