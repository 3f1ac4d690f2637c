/- Proved: a policy of the program and one of the document name the same place, list by list, whatever the kind, the seed and the lists; the lists stay; copies go on alike (chordmaillaw25.PolicyPicks answers true and leaves its arguments as they were), for every input; no condition on it. -/
import Derived.Test.YtfflfhkbnmoalaaRows
import Derived.Test.YtfflfhkbnmoalaaPicLaw1
import Derived.Test.YtfflfhkbnmoalaaPolOpen
import Derived.WalkKit
import Derived.ProofKit
import Derived.OpenShut
import Derived.ShutString
import Derived.ChangeOld
import Derived.Below
import Derived.SizedLaws
namespace Go.Proofs.Ytfflfhkbnmoalaa.policyPicks
open Go.ChangeShapes Go.WideShapes Go.ChangeAt Go.RowKit Go.Deep
open Go.ChangeMaps (open_string shut_string)
open Go.Proofs.YtfflfhkbnmoalaaW.PrintWords Go.Proofs.Ytfflfhkbnmoalaa.PPolicyPicks
theorem own : ownKnob Try.prog.godebug = none := by kernel_rfl
theorem laidOut : laidOutB Try.prog = true := by kernel_rfl
section
variable {H : Type} {enc : TypeId × Value → H} {w : World} {base : Nat} {spare : Nat → Bool} {held : Bool}
def wf2 (p : S42) : Prop := (Lit.int .i64 p.f0).wf = true ∧ (Lit.int .i64 p.f1).wf = true
theorem open_p (n : Nat) (cs : List Value) (y : DataW H × List MemPlace) (h : DataW.trod enc Try.prog w base spare held n 42 cs = some y) : ∃ a, k42.K w a cs ∧ wf2 a := by
  obtain ⟨y0, y1, m, rfl, hl, h0, h1⟩ := trod_struct2 Try.underlying42 h
  have hl2 : cs.length = 2 := hl.trans Pol.cells42
  obtain ⟨c0, c1, rfl⟩ := Pol.two_of_len hl2
  clear hl hl2
  obtain ⟨a, e0, _, w0⟩ := DataW.trod_int Try.underlying3 h0
  obtain ⟨b, e1, _, w1⟩ := DataW.trod_int Try.underlying3 h1
  rw [Pol.cells3] at e0 e1
  simp at e0 e1
  subst e0 e1
  exact ⟨⟨a, b⟩, k42_mk w ⟨a, b⟩, w0, w1⟩
theorem open_ps (n : Nat) (cs : List Value) (y : DataW H × List MemPlace) (h : DataW.trod enc Try.prog w base spare held n 28 cs = some y) : ∃ xs, (Kd.slice 42 k42).K w xs cs ∧ ∀ p ∈ xs, wf2 p := by
  obtain ⟨A, c, xs, rfl, h2, h3, h4, h5⟩ := Pol.open_C k42 (G := fun a _ => wf2 a) Try.underlying28 Pol.cells42 (fun n cs y hy => open_p n cs y hy) h
  refine ⟨xs, ⟨A, c, rfl, h2, h4⟩, ?_⟩
  rcases h5 with ⟨rfl, _⟩ | ⟨D, sp, _, hG⟩
  · simp
  · intro p hp
    obtain ⟨i, hi, rfl⟩ := List.getElem_of_mem hp
    exact hG i hi
end
set_option maxRecDepth 100000 in
theorem lifted (os : Os) (started : os.Started) (H : Type) (enc : TypeId × Value → H) :
    ReturnsInHanded {} Try.checked os 7 .any (Rows.policyPicksSpec.pre6 enc Try.prog Try.f7 Rows.policyPicksRow.domain false) (Rows.policyPicksSpec.post enc Try.prog Try.f7 false true false false) := by
  refine returnsInHanded_of_change_sized (C := Try.checked) own started (by kernel_rfl) Try.func7
    (ChangeSpec.witness6 (enc := enc) (C := Try.checked) false ⟨#[], #[.int .i64 0, .int .u64 0, .slice none 0 0], []⟩ 8 (by kernel_rfl) (by kernel_rfl) (by kernel_rfl) (by kernel_rfl)) ?_
  intro W base args ds gs before hval0 hW hcnd hsz0 _
  have hval : ∀ (j : Nat) t v, Try.f7.params[j]? = some t → args[j]? = some v → Value.okWide Try.prog W .any base t v := hval0
  have hW' := hW
  obtain ⟨p, q, hA0, hV, rfl, hfz, hnd⟩ := hW
  have hA : DataW.TrodAll enc Try.prog W 0 (fun _ => true) true Try.f7.params.toList args.toList ds p := hA0
  rw [Try.params7] at hA hval
  obtain ⟨v0, vs0, d0, ds0, p0, q0, hargs, rfl, rfl, h0, r0⟩ := trodAll_cons hA
  obtain ⟨v1, vs1, d1, ds1, p1, q1, rfl, rfl, rfl, h1, r1⟩ := trodAll_cons r0
  obtain ⟨v2, vs2, d2, ds2, p2, q2, rfl, rfl, rfl, h2, r2⟩ := trodAll_cons r1
  obtain ⟨rfl, rfl, rfl⟩ := trodAll_nil r2
  obtain rfl : args = #[v0, v1, v2] := by cases args; simp_all
  obtain ⟨rfl, rfl⟩ := trodVars_none hV
  have k2 := h2
  have lt2 : ∀ x ∈ p2, x.block < W.heap.size := by obtain ⟨m, hm⟩ := k2; exact DataW.trod_lt m _ _ _ hm
  obtain ⟨k, rfl, rfl, rfl, w0⟩ := open_int Try.underlying3 (hval 0 3 v0 rfl rfl) h0
  obtain ⟨seed, rfl, rfl, rfl, w1⟩ := open_int Try.underlying35 (hval 1 35 v1 rfl rfl) h1
  obtain ⟨a2, len2, cap2, rfl⟩ := okWide_slice Try.underlying44 (hval 2 44 v2 rfl rfl)
  obtain ⟨f2, g2⟩ := h2
  obtain ⟨A, c, L, e2, hc, hm, hC, hd⟩ := Pol.open_C (Kd.slice 42 k42) (G := fun xs _ => ∀ p ∈ xs, wf2 p) Try.underlying44 Pol.cells28 (fun n cs y hy => open_ps n cs y hy) g2
  simp only [Value.cells, List.cons.injEq, and_true, Value.slice.injEq] at e2
  obtain ⟨rfl, rfl, rfl⟩ := e2
  have hwf : ∀ xs ∈ L, ∀ p ∈ Pic.pr xs, (Lit.int .i64 p.1).wf = true ∧ (Lit.int .i64 p.2).wf = true := by
    intro xs hxs p hp
    obtain ⟨r, hr, rfl⟩ := List.mem_map.1 hp
    rcases hd with ⟨rfl, _⟩ | ⟨D, sp, _, hG⟩
    · simp at hxs
    · obtain ⟨i, hi, rfl⟩ := List.getElem_of_mem hxs
      exact hG i hi r hr
  clear hA0 hval0 hsz0 g2 hm hd
  refine (Pic.picks_go k seed a2 cap2 L W hC hc hwf).mono fun e W' ⟨he, bel⟩ => ?_
  subst he
  exact ⟨_, rfl, _, _, _, [], _, [], hW', trodAll_mk1 (shut_bool Try.underlying4 _), (trodAll_cons_mk (shut_int Try.underlying3 w0) (trodAll_cons_mk (shut_int Try.underlying35 w1) (trodAll_cons_mk (Below.trod laidOut (by kernel_rfl) (of_decide_eq_true (by kernel_rfl)) k2 bel lt2) trodAll_mk0))), rfl, bel.frame _, fun h => by cases h⟩
theorem over : Rows.policyPicksRow.holds Try.pinned (OpenSpec.ofChange Rows.policyPicksSpec) :=
  OpenClaim.holds_of_wide 7 Try.f7 rfl rfl rfl rfl rfl rfl rfl ⟨rfl, rfl, rfl, rfl, rfl⟩ rfl rfl rfl rfl rfl (by kernel_rfl) Try.func7 (by kernel_rfl)
    (of_decide_eq_true (by kernel_rfl)) (by unfold Func.isWrapper; first | (rw [if_pos (by decide +kernel)]; kernel_rfl) | (rw [if_neg (by decide +kernel)]; exact ⟨rfl, rfl⟩))
    (fun os started H enc _ => lifted os started H enc)
theorem proved : Rows.PolicyPicksSaid := over
#print axioms proved
end Go.Proofs.Ytfflfhkbnmoalaa.policyPicks
namespace Go.Proofs.Ytfflfhkbnmoalaa
theorem policyPicks_holds : Rows.PolicyPicksSaid := policyPicks.proved
end Go.Proofs.Ytfflfhkbnmoalaa
