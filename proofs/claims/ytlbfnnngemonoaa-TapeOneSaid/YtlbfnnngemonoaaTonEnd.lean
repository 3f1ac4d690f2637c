/- Proved: bytes that tape.Decode reads as calls are just the bytes that tape.Encode lays these calls as (chordmaillaw26.TapeOne answers true and leaves its arguments as they were), for every input; no condition on it. -/
import Derived.Test.YtlbfnnngemonoaaRows
import Derived.Test.YtlbfnnngemonoaaWirOpen
import Derived.Test.YtlbfnnngemonoaaTonB
import Derived.WalkKit
import Derived.ProofKit
import Derived.OpenShut
import Derived.ShutString
import Derived.ChangeOld
import Derived.Below
import Derived.SizedLaws
namespace Go.Proofs.Ytlbfnnngemonoaa.tapeOne
open Go.ChangeShapes Go.WideShapes Go.ChangeAt Go.RowKit Go.Deep
open Go.ChangeMaps (open_string shut_string)
open Go.Proofs.YtlbfnnngemonoaaW.PrintWords Go.Proofs.Ytlbfnnngemonoaa.PWireReads
theorem own : ownKnob Try.prog.godebug = none := by kernel_rfl
theorem laidOut : laidOutB Try.prog = true := by kernel_rfl
set_option maxRecDepth 100000 in
theorem lifted (os : Os) (started : os.Started) (H : Type) (enc : TypeId × Value → H) :
    ReturnsInHanded {} Try.checked os 9 .any (Rows.tapeOneSpec.pre6 enc Try.prog Try.f9 Rows.tapeOneRow.domain false) (Rows.tapeOneSpec.post enc Try.prog Try.f9 false true false false) := by
  refine returnsInHanded_of_change_sized (C := Try.checked) own started (by kernel_rfl) Try.func9
    (ChangeSpec.witness6 (enc := enc) (C := Try.checked) false ⟨#[], #[.slice none 0 0], []⟩ 8 (by kernel_rfl) (by kernel_rfl) (by kernel_rfl) (by kernel_rfl)) ?_
  intro W base args ds gs before hval0 hW hcnd hsz0 _
  have hval : ∀ (j : Nat) t v, Try.f9.params[j]? = some t → args[j]? = some v → Value.okWide Try.prog W .any base t v := hval0
  have hW' := hW
  obtain ⟨p, q, hA0, hV, rfl, hfz, hnd⟩ := hW
  have hA : DataW.TrodAll enc Try.prog W 0 (fun _ => true) true Try.f9.params.toList args.toList ds p := hA0
  rw [Try.params9] at hA hval hsz0
  obtain ⟨v0, vs0, d0, ds0, p0, q0, hargs, rfl, rfl, h0, r0⟩ := trodAll_cons hA
  obtain ⟨rfl, rfl, rfl⟩ := trodAll_nil r0
  obtain rfl : args = #[v0] := by cases args; simp_all
  obtain ⟨rfl, rfl⟩ := trodVars_none hV
  have k0 := h0
  have lt0 : ∀ x ∈ p0, x.block < W.heap.size := by obtain ⟨m, hm⟩ := k0; exact DataW.trod_lt m _ _ _ hm
  obtain ⟨a0, len0, cap0, rfl⟩ := okWide_slice Try.underlying45 (hval 0 45 v0 rfl rfl)
  obtain ⟨f0, g0⟩ := h0
  obtain ⟨A0, c0, l, e0, hc0, hm0, hC0, hd0⟩ := Wir.open_C (Kd.int .u8) (G := fun a _ => 0 ≤ a ∧ a < 256) Try.underlying45 Wir.cells5 (fun n cs y hy => Wir.open_byte n cs y hy) g0
  simp only [Value.cells, List.cons.injEq, and_true, Value.slice.injEq] at e0
  obtain ⟨rfl, rfl, rfl⟩ := e0
  have hw0 : ∀ x ∈ DataW.weights Try.prog 45 d0, x ≤ reachBytes := by
    intro x hx
    have h := List.all_eq_true.1 hsz0 x (DataW.weights_mem_each (j := 0) (t := 45) rfl rfl x hx)
    simpa using h
  obtain ⟨z0, y0⟩ := Wir.bytes_sized hd0 hw0
  have hcall := Wir.tapeone_any a0 cap0 l W hC0 hc0 z0 y0
  clear hA0 hval0 hsz0 hw0 g0 hd0
  refine hcall.mono fun e W' ⟨he, bel⟩ => ?_
  subst he
  exact ⟨_, rfl, _, _, _, [], _, [], hW', trodAll_mk1 (shut_bool Try.underlying4 _), (trodAll_cons_mk (Below.trod laidOut (by kernel_rfl) (of_decide_eq_true (by kernel_rfl)) k0 bel lt0) trodAll_mk0), rfl, bel.frame _, fun h => by cases h⟩
theorem over : Rows.tapeOneRow.holds Try.pinned (OpenSpec.ofChange Rows.tapeOneSpec) :=
  OpenClaim.holds_of_wide 9 Try.f9 rfl rfl rfl rfl rfl rfl rfl ⟨rfl, rfl, rfl, rfl, rfl⟩ rfl rfl rfl rfl rfl (by kernel_rfl) Try.func9 (by kernel_rfl)
    (of_decide_eq_true (by kernel_rfl)) (by unfold Func.isWrapper; first | (rw [if_pos (by decide +kernel)]; kernel_rfl) | (rw [if_neg (by decide +kernel)]; exact ⟨rfl, rfl⟩))
    (fun os started H enc _ => lifted os started H enc)
theorem proved : Rows.TapeOneSaid := over
#print axioms proved
end Go.Proofs.Ytlbfnnngemonoaa.tapeOne
namespace Go.Proofs.Ytlbfnnngemonoaa
theorem tapeOne_holds : Rows.TapeOneSaid := tapeOne.proved
end Go.Proofs.Ytlbfnnngemonoaa
