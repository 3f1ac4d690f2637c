/- Proved: of any report and any state, the program's explore.Way answers what the document's Way answers (the shortest row of steps, or the error), and the report stays (chordmaillaw27.ExploreWays answers true and leaves its arguments as they were), for every report and every int; no condition on the input. -/
import Derived.Test.YtfflfhkbnmoalaaRows
import Derived.Test.YtfflfhkbnmoalaaWayLaw2
import Derived.Test.YtfflfhkbnmoalaaPolOpen
import Derived.WalkKit
import Derived.ProofKit
import Derived.OpenShut
import Derived.ShutString
import Derived.ChangeOld
import Derived.Below
import Derived.SizedLaws
import Derived.Lib.SmallJoins
namespace Go.Proofs.Ytfflfhkbnmoalaa.exploreWays
open Go.ChangeShapes Go.WideShapes Go.ChangeAt Go.RowKit Go.Deep Go.Joins
open Go.ChangeMaps (open_string shut_string)
open Go.Proofs.YtfflfhkbnmoalaaW.PrintWords Go.Proofs.Ytfflfhkbnmoalaa.PExploreWays
theorem own : ownKnob Try.prog.godebug = none := by kernel_rfl
theorem laidOut : laidOutB Try.prog = true := by kernel_rfl
theorem cells3 : Try.prog.cellsOf 3 = 1 := by kernel_rfl
theorem cells55 : Try.prog.cellsOf 55 = 4 := by kernel_rfl
theorem cells50 : Try.prog.cellsOf 50 = 4 := by kernel_rfl
theorem bytes3 : Try.prog.bytesOf 3 = 8 := by kernel_rfl
section
variable {H : Type} {enc : TypeId × Value → H} {w : World} {base : Nat} {spare : Nat → Bool} {held : Bool}
theorem four_of_len {α : Type} {l : List α} (h : l.length = 4) : ∃ a b c d, l = [a, b, c, d] := by
  match l, h with
  | [a, b, c, d], _ => exact ⟨a, b, c, d, rfl⟩
theorem open_step (n : Nat) (cs : List Value) (y : DataW H × List MemPlace) (h : DataW.trod enc Try.prog w base spare held n 55 cs = some y) : ∃ a, k55.K w a cs ∧ True := by
  obtain ⟨y0, y1, y2, y3, m, rfl, hl, h0, h1, h2, h3⟩ := trod_struct4 Try.underlying55 h
  have hl2 : cs.length = 4 := hl.trans cells55
  obtain ⟨c0, c1, c2, c3, rfl⟩ := four_of_len hl2
  clear hl hl2
  obtain ⟨a, e0, _, _⟩ := DataW.trod_int Try.underlying3 h0
  obtain ⟨b, e1, _, _⟩ := DataW.trod_int Try.underlying3 h1
  obtain ⟨c, e2, _, _⟩ := DataW.trod_int Try.underlying3 h2
  obtain ⟨d, e3, _, _⟩ := DataW.trod_int Try.underlying3 h3
  rw [cells3] at e0 e1 e2 e3
  simp at e0 e1 e2 e3
  subst e0 e1 e2 e3
  exact ⟨⟨a, b, c, d⟩, k55_mk w ⟨a, b, c, d⟩, trivial⟩
theorem open_num (n : Nat) (cs : List Value) (y : DataW H × List MemPlace) (h : DataW.trod enc Try.prog w base spare held n 3 cs = some y) : ∃ a, (Kd.int .i64).K w a cs ∧ True := by
  obtain ⟨a, e0, _, _⟩ := DataW.trod_int Try.underlying3 h
  exact ⟨a, e0, trivial⟩
end
set_option maxRecDepth 100000 in
theorem lifted (os : Os) (started : os.Started) (H : Type) (enc : TypeId × Value → H) :
    ReturnsInHanded {} Try.checked os 6 .any (Rows.exploreWaysSpec.pre6 enc Try.prog Try.f6 Rows.exploreWaysRow.domain false) (Rows.exploreWaysSpec.post enc Try.prog Try.f6 false true false false) := by
  refine returnsInHanded_of_change_sized (C := Try.checked) own started (by kernel_rfl) Try.func6
    (ChangeSpec.witness6 (enc := enc) (C := Try.checked) false ⟨#[], #[.agg #[.int .i64 0, .slice none 0 0, .slice none 0 0, .slice none 0 0], .int .i64 0], []⟩ 8 (by kernel_rfl) (by kernel_rfl) (by kernel_rfl) (by kernel_rfl)) ?_
  intro W base args ds gs before hval0 hW hcnd hsz0 _
  have hval : ∀ (j : Nat) t v, Try.f6.params[j]? = some t → args[j]? = some v → Value.okWide Try.prog W .any base t v := hval0
  have hW' := hW
  obtain ⟨p, q, hA0, hV, rfl, hfz, hnd⟩ := hW
  have hA : DataW.TrodAll enc Try.prog W 0 (fun _ => true) true Try.f6.params.toList args.toList ds p := hA0
  rw [Try.params6] at hA hval hsz0
  obtain ⟨v0, vs0, d0, ds0, p0, q0, hargs, rfl, rfl, h0, r0⟩ := trodAll_cons hA
  obtain ⟨v1, vs1, d1, ds1, p1, q1, rfl, rfl, rfl, h1, r1⟩ := trodAll_cons r0
  obtain ⟨rfl, rfl, rfl⟩ := trodAll_nil r1
  obtain rfl : args = #[v0, v1] := by cases args; simp_all
  obtain ⟨rfl, rfl⟩ := trodVars_none hV
  have k0 := h0
  have lt0 : ∀ x ∈ p0, x.block < W.heap.size := by obtain ⟨m, hm⟩ := k0; exact DataW.trod_lt m _ _ _ hm
  obtain ⟨u0, u1, u2, u3, y0, y1, y2, y3, n, rfl, hd0, _, g0, g1, g2, g3⟩ := open_agg4 Try.underlying50 (by kernel_rfl) cells50 (hval 0 50 v0 rfl rfl) h0
  have hszA : ∀ x ∈ DataW.weightsEach Try.prog [3, 48, 36, 36] [y0.1, y1.1, y2.1, y3.1], x ≤ reachBytes := by
    intro x hx
    have hw : x ∈ DataW.weights Try.prog 50 d0 := by
      rw [hd0]
      simp only [DataW.weights, Try.underlying50]
      exact hx
    have h := List.all_eq_true.1 hsz0 x (DataW.weights_mem_each (j := 0) (t := 50) rfl rfl x hw)
    simpa using h
  have hszB : (DataW.weightsEach Try.prog [3, 48, 36, 36] [y0.1, y1.1, y2.1, y3.1]).all (· ≤ reachBytes) = true := by
    rw [List.all_eq_true]
    intro x hx
    simpa using hszA x hx
  obtain ⟨a, e0, _, _⟩ := DataW.trod_int Try.underlying3 g0
  obtain ⟨A1, c1, m, e1, hc1, hm1, hC1, _⟩ := Pol.open_C k55 (G := fun _ _ => True) Try.underlying48 cells55 (fun n cs y hy => open_step n cs y hy) g1
  obtain ⟨A2, c2, q2, e2, hc2, hm2, hC2, hd2⟩ := Pol.open_C (Kd.int .i64) (G := fun _ _ => True) Try.underlying36 cells3 (fun n cs y hy => open_num n cs y hy) g2
  obtain ⟨A3, c3, q3, e3, hc3, hm3, hC3, hd3⟩ := Pol.open_C (Kd.int .i64) (G := fun _ _ => True) Try.underlying36 cells3 (fun n cs y hy => open_num n cs y hy) g3
  simp only [List.cons.injEq, and_true] at e0 e1 e2 e3
  subst e0 e1 e2 e3
  have hB2 : q2.length * 8 ≤ 140737488355328 := by
    rcases hd2 with ⟨rfl, _⟩ | ⟨D, sp, hd, _⟩
    · simp
    · have z := sized_slice (j := 2) hszB rfl (by rw [← hd]; rfl) Try.underlying36
      rw [bytes3, List.length_map, List.length_range] at z
      have := reachBytes_lt
      have h2 : q2.length * 8 ≤ (q2.length + sp.length) * 8 := Nat.mul_le_mul_right _ (Nat.le_add_right _ _)
      omega
  have hB3 : q3.length * 8 ≤ 140737488355328 := by
    rcases hd3 with ⟨rfl, _⟩ | ⟨D, sp, hd, _⟩
    · simp
    · have z := sized_slice (j := 3) hszB rfl (by rw [← hd]; rfl) Try.underlying36
      rw [bytes3, List.length_map, List.length_range] at z
      have := reachBytes_lt
      have h2 : q3.length * 8 ≤ (q3.length + sp.length) * 8 := Nat.mul_le_mul_right _ (Nat.le_add_right _ _)
      omega
  obtain ⟨s, rfl, rfl, rfl, w1⟩ := open_int Try.underlying3 (hval 1 3 v1 rfl rfl) h1
  have hcall : Calls Try.prog 6 #[.agg #[.int .i64 a, .slice A1 m.length c1, .slice A2 q2.length c2, .slice A3 q3.length c3], .int .i64 s] W fun e w' => e = .returned (.bool true) ∧ Below W.heap.size W w' := by
    by_cases hp : (60 < a ∧ a ≤ 4096) ∨ 200 < m.length
    · exact Way.ways_pass a s A1 A2 A3 m.length c1 q2.length c2 q3.length c3 W hp
    · exact Way.ways_go a s m q2 q3 A1 A2 A3 c1 c2 c3 W hp hC1 hc1 hC2 hc2 hC3 hc3 hB2 hB3
  clear hA0 hval0 hsz0 hszA hszB g0 g1 g2 g3
  refine hcall.mono fun e W' ⟨he, bel⟩ => ?_
  subst he
  exact ⟨_, rfl, _, _, _, [], _, [], hW', trodAll_mk1 (shut_bool Try.underlying4 _), (trodAll_cons_mk (Below.trod laidOut (by kernel_rfl) (of_decide_eq_true (by kernel_rfl)) k0 bel lt0) (trodAll_cons_mk (shut_int Try.underlying3 w1) trodAll_mk0)), rfl, bel.frame _, fun h => by cases h⟩
theorem over : Rows.exploreWaysRow.holds Try.pinned (OpenSpec.ofChange Rows.exploreWaysSpec) :=
  OpenClaim.holds_of_wide 6 Try.f6 rfl rfl rfl rfl rfl rfl rfl ⟨rfl, rfl, rfl, rfl, rfl⟩ rfl rfl rfl rfl rfl (by kernel_rfl) Try.func6 (by kernel_rfl)
    (of_decide_eq_true (by kernel_rfl)) (by unfold Func.isWrapper; first | (rw [if_pos (by decide +kernel)]; kernel_rfl) | (rw [if_neg (by decide +kernel)]; exact ⟨rfl, rfl⟩))
    (fun os started H enc _ => lifted os started H enc)
theorem proved : Rows.ExploreWaysSaid := over
#print axioms proved
end Go.Proofs.Ytfflfhkbnmoalaa.exploreWays
namespace Go.Proofs.Ytfflfhkbnmoalaa
theorem exploreWays_holds : Rows.ExploreWaysSaid := exploreWays.proved
end Go.Proofs.Ytfflfhkbnmoalaa
