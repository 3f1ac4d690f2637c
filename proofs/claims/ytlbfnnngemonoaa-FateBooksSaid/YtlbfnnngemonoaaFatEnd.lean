/- Proved: a book of the program and one of the document answer every offer and every firing alike and tell the same fates and counts, two pairs of books in turns, one of them nil or not (chordmaillaw24.FateBooks answers true and leaves its arguments as they were), for every input; no condition on it. -/
import Derived.Test.YtlbfnnngemonoaaRows
import Derived.Test.YtlbfnnngemonoaaFatOpen
import Derived.WalkKit
import Derived.ProofKit
import Derived.OpenShut
import Derived.ShutString
import Derived.ChangeOld
import Derived.Below
import Derived.SizedLaws
namespace Go.Proofs.Ytlbfnnngemonoaa.fateBooks
open Go.ChangeShapes Go.WideShapes Go.ChangeAt Go.RowKit Go.Deep
open Go.ChangeMaps (open_string shut_string)
open Go.Proofs.YtlbfnnngemonoaaW.PrintWords Go.Proofs.Ytlbfnnngemonoaa.PFateBooks
theorem own : ownKnob Try.prog.godebug = none := by kernel_rfl
theorem laidOut : laidOutB Try.prog = true := by kernel_rfl
set_option maxRecDepth 100000 in
theorem lifted (os : Os) (started : os.Started) (H : Type) (enc : TypeId × Value → H) :
    ReturnsInHanded {} Try.checked os 3 .any (Rows.fateBooksSpec.pre6 enc Try.prog Try.f3 Rows.fateBooksRow.domain false) (Rows.fateBooksSpec.post enc Try.prog Try.f3 false true false false) := by
  refine returnsInHanded_of_change_sized (C := Try.checked) own started (by kernel_rfl) Try.func3
    (ChangeSpec.witness6 (enc := enc) (C := Try.checked) false ⟨#[], #[.slice none 0 0, .slice none 0 0, .bool false], []⟩ 8 (by kernel_rfl) (by kernel_rfl) (by kernel_rfl) (by kernel_rfl)) ?_
  intro W base args ds gs before hval0 hW hcnd hsz0 _
  have hval : ∀ (j : Nat) t v, Try.f3.params[j]? = some t → args[j]? = some v → Value.okWide Try.prog W .any base t v := hval0
  have hW' := hW
  obtain ⟨p, q, hA0, hV, rfl, hfz, hnd⟩ := hW
  have hA : DataW.TrodAll enc Try.prog W 0 (fun _ => true) true Try.f3.params.toList args.toList ds p := hA0
  rw [Try.params3] at hA hval hsz0
  obtain ⟨v0, vs0, d0, ds0, p0, q0, hargs, rfl, rfl, h0, r0⟩ := trodAll_cons hA
  obtain ⟨v1, vs1, d1, ds1, p1, q1, rfl, rfl, rfl, h1, r1⟩ := trodAll_cons r0
  obtain ⟨v2, vs2, d2, ds2, p2, q2, rfl, rfl, rfl, h2, r2⟩ := trodAll_cons r1
  obtain ⟨rfl, rfl, rfl⟩ := trodAll_nil r2
  obtain rfl : args = #[v0, v1, v2] := by cases args; simp_all
  obtain ⟨rfl, rfl⟩ := trodVars_none hV
  have k0 := h0
  have lt0 : ∀ x ∈ p0, x.block < W.heap.size := by obtain ⟨m, hm⟩ := k0; exact DataW.trod_lt m _ _ _ hm
  have k1 := h1
  have lt1 : ∀ x ∈ p1, x.block < W.heap.size := by obtain ⟨m, hm⟩ := k1; exact DataW.trod_lt m _ _ _ hm
  obtain ⟨a0, len0, cap0, rfl⟩ := okWide_slice Try.underlying22 (hval 0 22 v0 rfl rfl)
  obtain ⟨a1, len1, cap1, rfl⟩ := okWide_slice Try.underlying22 (hval 1 22 v1 rfl rfl)
  obtain ⟨nn, rfl, rfl, rfl⟩ := open_bool Try.underlying4 (hval 2 4 v2 rfl rfl) h2
  obtain ⟨f0, g0⟩ := h0
  obtain ⟨A0, c0, l, e0, hc0, hm0, hC0, hd0⟩ := Fat.open_C Fat.kSt (G := Fat.longS) Try.underlying22 Fat.cells33 (fun n cs y hy => Fat.open_step n cs y hy) g0
  simp only [Value.cells, List.cons.injEq, and_true, Value.slice.injEq] at e0
  obtain ⟨rfl, rfl, rfl⟩ := e0
  obtain ⟨f1, g1⟩ := h1
  obtain ⟨A1, c1, m, e1, hc1, hm1, hC1, hd1⟩ := Fat.open_C Fat.kSt (G := Fat.longS) Try.underlying22 Fat.cells33 (fun n cs y hy => Fat.open_step n cs y hy) g1
  simp only [Value.cells, List.cons.injEq, and_true, Value.slice.injEq] at e1
  obtain ⟨rfl, rfl, rfl⟩ := e1
  have hw0 : ∀ x ∈ DataW.weights Try.prog 22 d0, x ≤ reachBytes := by
    intro x hx
    have h := List.all_eq_true.1 hsz0 x (DataW.weights_mem_each (j := 0) (t := 22) rfl rfl x hx)
    simpa using h
  have hw1 : ∀ x ∈ DataW.weights Try.prog 22 d1, x ≤ reachBytes := by
    intro x hx
    have h := List.all_eq_true.1 hsz0 x (DataW.weights_mem_each (j := 1) (t := 22) rfl rfl x hx)
    simpa using h
  obtain ⟨z0, y0⟩ := Fat.steps_sized hd0 hw0
  obtain ⟨z1, y1⟩ := Fat.steps_sized hd1 hw1
  have hcall : Calls Try.prog 3 #[.slice a0 l.length cap0, .slice a1 m.length cap1, .bool nn] W fun e w' => e = .returned (.bool true) ∧ Below W.heap.size W w' := by
    cases nn with
    | true => exact Fat.books_true a0 a1 cap0 cap1 l m W hC0 hC1 hc0 hc1 z0 z1 y0 y1
    | false => exact Fat.books_false a0 a1 cap0 cap1 l m W hC0 hC1 hc0 hc1 z0 z1 y0 y1
  clear hA0 hval0 hsz0 hw0 hw1 g0 g1 hd0 hd1
  refine hcall.mono fun e W' ⟨he, bel⟩ => ?_
  subst he
  exact ⟨_, rfl, _, _, _, [], _, [], hW', trodAll_mk1 (shut_bool Try.underlying4 _), (trodAll_cons_mk (Below.trod laidOut (by kernel_rfl) (of_decide_eq_true (by kernel_rfl)) k0 bel lt0) (trodAll_cons_mk (Below.trod laidOut (by kernel_rfl) (of_decide_eq_true (by kernel_rfl)) k1 bel lt1) (trodAll_cons_mk (shut_bool Try.underlying4 _) trodAll_mk0))), rfl, bel.frame _, fun h => by cases h⟩
theorem over : Rows.fateBooksRow.holds Try.pinned (OpenSpec.ofChange Rows.fateBooksSpec) :=
  OpenClaim.holds_of_wide 3 Try.f3 rfl rfl rfl rfl rfl rfl rfl ⟨rfl, rfl, rfl, rfl, rfl⟩ rfl rfl rfl rfl rfl (by kernel_rfl) Try.func3 (by kernel_rfl)
    (of_decide_eq_true (by kernel_rfl)) (by unfold Func.isWrapper; first | (rw [if_pos (by decide +kernel)]; kernel_rfl) | (rw [if_neg (by decide +kernel)]; exact ⟨rfl, rfl⟩))
    (fun os started H enc _ => lifted os started H enc)
theorem proved : Rows.FateBooksSaid := over
#print axioms proved
end Go.Proofs.Ytlbfnnngemonoaa.fateBooks
namespace Go.Proofs.Ytlbfnnngemonoaa
theorem fateBooks_holds : Rows.FateBooksSaid := fateBooks.proved
end Go.Proofs.Ytlbfnnngemonoaa
