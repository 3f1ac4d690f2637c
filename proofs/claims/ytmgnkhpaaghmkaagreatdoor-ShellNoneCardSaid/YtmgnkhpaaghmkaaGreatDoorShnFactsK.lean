/- .. the parameters of its functions; together. -/
import Derived.Test.YtmgnkhpaaghmkaaGreatDoorShnFactsJ
namespace Go.Proofs.YtmgnkhpaaghmkaaGreatDoor.ShnFacts
open Go
theorem fu : (Tryz.prog.funcs.all (fun f => f.params.all fun t => decide (t < Tryz.prog.types.size))) = true := by kernel_rfl
theorem range_all {p : Nat → Bool} : ∀ (n a : Nat), (List.range' a n).all p = true → ∀ i, a ≤ i → i < a + n → p i = true := fun n a h i h1 h2 => List.all_eq_true.1 h i (by rw [List.mem_range'_1]; omega)
theorem k2 : laidOutB Tryz.prog = true := by
  unfold laidOutB
  rw [Bool.and_eq_true, Bool.and_eq_true]
  refine ⟨⟨?_, gl⟩, fu⟩
  rw [size724, List.all_eq_true]
  intro i hi
  have hi := List.mem_range.1 hi
  by_cases h0 : i < 100
  · exact range_all 100 0 r0 i (by omega) (by omega)
  by_cases h1 : i < 200
  · exact range_all 100 100 r1 i (by omega) (by omega)
  by_cases h2 : i < 300
  · exact range_all 100 200 r2 i (by omega) (by omega)
  by_cases h3 : i < 400
  · exact range_all 100 300 r3 i (by omega) (by omega)
  by_cases h4 : i < 500
  · exact range_all 100 400 r4 i (by omega) (by omega)
  by_cases h5 : i < 600
  · exact range_all 100 500 r5 i (by omega) (by omega)
  by_cases h6 : i < 700
  · exact range_all 100 600 r6 i (by omega) (by omega)
  exact range_all 24 700 r7 i (by omega) (by omega)
end Go.Proofs.YtmgnkhpaaghmkaaGreatDoor.ShnFacts
