/- PolicyNil: what the walk gives, for every argument; a world for the witness. -/
import Derived.Test.YthipgipmhjebmaaGreatDoorRows
import Derived.Test.YthipgipmhjebmaaGreatDoorNilLaw
import Derived.Test.YthipgipmhjebmaaGreatDoorNilOpen
import Derived.WalkKit
import Derived.ProofKit
import Derived.OpenShut
import Derived.Lay
import Derived.LaidMore
import Derived.Lib.SmallJoins
import Derived.Deep.DeepHandedRow
namespace Go.Proofs.YthipgipmhjebmaaGreatDoor.policyNil
open Go.ChangeShapes Go.WideShapes Go.ChangeAt Go.RowKit
open Joins
open Pol (kP open_pairs cells3 laidOut)

theorem own : ownKnob Tryz.prog.godebug = none := by kernel_rfl
theorem cells25 : Tryz.prog.cellsOf 25 = 4 := by kernel_rfl
theorem cells22 : Tryz.prog.cellsOf 22 = 1 := by kernel_rfl
theorem cells23 : Tryz.prog.cellsOf 23 = 1 := by kernel_rfl

theorem length_le {H : Type} (l : List (DataW H)) : l.length ≤ Rows.uptoBulkAll l := by
  induction l with
  | nil => simp [Rows.uptoBulkAll]
  | cons x r ih =>
    have : 1 ≤ Rows.uptoBulk x := by
      cases x with
      | lit l => cases l <;> simp [Rows.uptoBulk]
      | nil => simp [Rows.uptoBulk]
      | ptr d => simp [Rows.uptoBulk]
      | slice elems spare => simp [Rows.uptoBulk]
      | agg parts => simp [Rows.uptoBulk]
      | iface t d => simp [Rows.uptoBulk]
      | map entries => simp [Rows.uptoBulk]
      | held h => simp [Rows.uptoBulk]
    simp only [Rows.uptoBulkAll, List.length_cons]; omega

set_option maxRecDepth 100000 in
theorem contract (H : Type) (enc : TypeId × Value → H) (W : World) (base : Nat) (args : Array Value) (ds gs : List (DataW H)) (before : List MemPlace)
    (hval : ∀ (j : Nat) t v, Tryz.f3.params[j]? = some t → args[j]? = some v → Value.okWide Tryz.prog W .any base t v)
    (hW : DataW.Whole enc Tryz.prog Tryz.f3.params.toList Rows.policyNilSpec.vars false W args.toList ds gs before) (hk : Rows.uptoSmall H (ds ++ gs) = true) :
    Calls Tryz.prog 3 args W fun e W' => ∃ v, e = .returned v ∧ Rows.policyNilSpec.post enc Tryz.prog Tryz.f3 false true false false W args v W' := by
  have hW' := hW
  obtain ⟨p, q, hA0, hV, rfl, hfz, hnd⟩ := hW
  have hA : DataW.TrodAll enc Tryz.prog W 0 (fun _ => true) true Tryz.f3.params.toList args.toList ds p := hA0
  rw [Tryz.params3] at hA hval
  obtain ⟨v0, vs0, d0, ds0, p0, q0, hargs, rfl, rfl, h0, r0⟩ := trodAll_cons hA
  obtain ⟨rfl, rfl, rfl⟩ := trodAll_nil r0
  obtain rfl : args = #[v0] := by cases args; simp_all
  obtain ⟨rfl, rfl⟩ := trodVars_none hV
  have k0 := h0
  have lt0 : ∀ x ∈ p0, x.block < W.heap.size := by obtain ⟨m, hm⟩ := k0; exact DataW.trod_lt m _ _ _ hm
  obtain ⟨cs, rfl, hsz⟩ := okWide_struct Tryz.underlying25 (hval 0 25 v0 rfl rfl)
  obtain ⟨c0, c1, c2, c3, rfl⟩ := array4 (hsz.trans cells25)
  obtain ⟨fuel, hf⟩ := h0
  obtain ⟨y0, y1, y2, y3, m, hx, _, g0, g1, g2, g3⟩ := trod_struct4 Tryz.underlying25 hf
  simp only [Prod.mk.injEq] at hx
  obtain ⟨kind, e0, _, w0⟩ := DataW.trod_int Tryz.underlying3 g0
  obtain ⟨seed, e1, _, w1⟩ := DataW.trod_int Tryz.underlying22 g1
  obtain ⟨A, c, xs, e2, hxc, _, hC, _, hd2⟩ := open_pairs g2
  obtain ⟨most, e3, _, w3⟩ := DataW.trod_int Tryz.underlying3 g3
  rw [cells3] at e0 e3
  rw [cells22] at e1
  rw [cells23] at e2
  simp [Value.cells] at e0 e1 e2 e3
  subst e0 e1 e2 e3
  have hN : Rows.uptoBulkAll [d0] ≤ 1048576 := of_decide_eq_true hk
  rw [hx.1] at hN
  simp only [Rows.uptoBulkAll, Rows.uptoBulk] at hN
  have hl : xs.length ≤ 1048576 := by
    rcases hd2 with ⟨rfl, _⟩ | ⟨D, sp, hd⟩
    · simp
    · rw [hd] at hN
      have h1 := length_le ((List.range xs.length).map D)
      simp only [Rows.uptoBulk] at hN
      simp at h1
      omega
  clear hA0 hd2 g0 g1 g2 g3 hx hf
  refine (Pol.law_any kind seed most A c xs W hC hxc hl).mono fun e W' ⟨he, bel⟩ => ?_
  subst he
  exact ⟨_, rfl, _, _, _, [], _, [], hW', trodAll_mk1 (shut_bool Tryz.underlying4 _), (trodAll_cons_mk (Below.trod laidOut (by kernel_rfl) (of_decide_eq_true (by kernel_rfl)) k0 bel lt0) trodAll_mk0), rfl, bel.frame _, fun h => by cases h⟩

/-- A world for the witness: the settled one, the listed variables laid. -/
noncomputable def laidWorld (os : Os) : World := World.laidAll Tryz.prog os Rows.policyNilUptoRow.laid
def wargs : Array Value := #[.agg #[.int .i64 0, .int .u64 0, .slice none 0 0, .int .i64 0]]
theorem laid_met (os : Os) : laidMetH Tryz.prog Rows.policyNilUptoRow.laid ((laidWorld os).forCall (fun _ _ => 0) ⟨#[], wargs, []⟩).memory := by
  rw [MakeChecks.laidMetH_plain _ _ _ (by kernel_rfl)]
  exact laidMet_laidAll _ (by kernel_rfl) (by kernel_rfl)
theorem reads (os : Os) {H : Type} (enc : TypeId × Value → H) : ∃ places, DataW.whole enc Tryz.prog ((laidWorld os).forCall (fun _ _ => 0) ⟨#[], wargs, []⟩).memory Tryz.f3.params.toList Rows.policyNilSpec.vars false wargs.toList 8 = some ([.agg [.lit (.int .i64 0), .lit (.int .u64 0), .nil, .lit (.int .i64 0)]], [], places) :=
  ⟨[], by kernel_rfl⟩

set_option maxRecDepth 100000 in
theorem liftedUpto (os : Os) (started : os.Started) (H : Type) (enc : TypeId × Value → H) (F : Stop.Interp) :
    ReturnsInHanded {} Tryz.checked os 3 .any ((Rows.OpenSpec.upto Rows.policyNilSpec).preRow enc Tryz.prog Tryz.f3 Rows.policyNilUptoRow.domain false Rows.policyNilUptoRow.laid) (((Rows.OpenSpec.upto Rows.policyNilSpec).at F).post enc Tryz.prog Tryz.f3 false true false false) := by
  obtain ⟨places, hx⟩ := reads os enc
  refine returnsInHanded_of_row (C := Tryz.checked) (s := Rows.OpenSpec.upto Rows.policyNilSpec) own started (by kernel_rfl) Tryz.func3
    ⟨laidWorld os, fun _ _ => 0, ⟨#[], wargs, []⟩, World.laidAll_os _ _ _, World.shaped_of_ZipB (by kernel_rfl) (by kernel_rfl), rfl, (Input.okWide_of_okWideB (by kernel_rfl)).2,
      OpenSpec.preRow_of_cond 8 hx (by kernel_rfl) (fun k hk => by cases hk; kernel_rfl) (by kernel_rfl) (laid_met os), by simp [Assume.holds]⟩ ?_
  intro W base args ds gs before hval hW _ hcond _ hL _ _
  exact contract H enc W base args ds gs before hval hW (hcond _ rfl)
end Go.Proofs.YthipgipmhjebmaaGreatDoor.policyNil
