/- PolicyNil, where what comes in is of bulk at most 1048576: a nil policy, a nil system, a kind that is none, a program that may not be and a number of steps out of its range are answered and refused as it is said, for every asking. The card: its five listed variables tied to the program's text. -/
import Derived.Test.YthipgipmhjebmaaGreatDoorNilLift
import Derived.Test.YthipgipmhjebmaaGreatDoorNilFacts
import Derived.Test.YthipgipmhjebmaaGreatDoorCards
import Derived.Test.YthipgipmhjebmaaGreatDoorTie
namespace Go.Proofs.YthipgipmhjebmaaGreatDoor.policyNil
open Go

theorem rowUpto : Rows.PolicyNilUptoSaid :=
  OpenClaim.holds_of_cond 3 Tryz.f3 rfl rfl rfl rfl rfl rfl rfl ⟨rfl, rfl, rfl, rfl, rfl⟩ rfl rfl rfl rfl rfl (by kernel_rfl) Tryz.func3 NilFacts.closed
    (of_decide_eq_true (by kernel_rfl)) (by unfold Func.isWrapper; first | (rw [if_pos (by decide +kernel)]; kernel_rfl) | (rw [if_neg (by decide +kernel)]; exact ⟨rfl, rfl⟩))
    (fun os started H enc _ F => by rw [OpenClaim.pre_eq_preRow]; exact liftedUpto os started H enc F)

theorem plain (f : FuncId) (fn : Func) (hf : Tryz.pinned.checked.prog.funcNamed "chordmail/chordmaillaw25.PolicyNil" = some f) (hfn : Tryz.pinned.checked.prog.funcs[f]? = some fn) :
    true = Tryz.pinned.checked.prog.looks [] ∧ ∀ (j : Nat) t, fn.params[j]? = some t → Tryz.pinned.checked.prog.wantsStandIn t = false := by
  obtain rfl : f = 3 := Option.some.inj ((show Tryz.prog.funcNamed "chordmail/chordmaillaw25.PolicyNil" = some 3 by kernel_rfl).symm.trans hf) |>.symm
  obtain rfl : fn = Tryz.f3 := (Option.some.inj (Tryz.func3.symm.trans hfn)).symm
  refine ⟨by kernel_rfl, fun j t ht => ?_⟩
  rw [Tryz.params3] at ht
  obtain rfl : t = 25 := by simpa using Array.mem_of_getElem? ht
  exact (show Tryz.prog.wantsStandIn 25 = false by kernel_rfl)

theorem cardUpto : Rows.PolicyNilUptoCardSaid :=
  Claim7.holds_tied_plain_at .later [] _ _ _ _ rowUpto (fun _ h => by cases h) (by kernel_rfl) (fun _ h => by cases h) policyNilUpto_row_tie rfl ⟨rfl, rfl⟩ (by kernel_rfl) rfl plain (by kernel_rfl)
#print axioms cardUpto
end Go.Proofs.YthipgipmhjebmaaGreatDoor.policyNil
namespace Go.Proofs.YthipgipmhjebmaaGreatDoor
theorem policyNilUpto_holds : Rows.PolicyNilUptoCardSaid := policyNil.cardUpto
end Go.Proofs.YthipgipmhjebmaaGreatDoor
