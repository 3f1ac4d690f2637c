/- A name of one letter is scanned: lex.letter, lex.name, lex.next. -/
import Derived.Test.YthipgipmhjebmaaGreatDoorPolBase
import Derived.Test.YthipgipmhjebmaaGreatDoorWWords
import Derived.WalkMore
import Derived.ScopeJumps
import Derived.Outline
import Derived.RegionTactic
import Derived.BigQuiet
import Derived.Deep.QuietTactic
import Derived.Laws.EntriesVeiled
import Derived.Handy
namespace Go.Proofs.YthipgipmhjebmaaGreatDoor.Pol
open Go.RowKit Go.Proofs.YthipgipmhjebmaaGreatDoorW.PrintWords
theorem run_store_float {P : Program} {w : World} {a : Addr} {m : Mode} (k : FloatKind) (b : Nat) : (store a (.float k b) m).run P w = stored P w a (.float k b) m := run_store P w a _ m rfl
attribute [local go_sem] run_store_float
set_option linter.unusedVariables false
set_option linter.unusedSimpArgs false

/-- A scope with jumps forward: what stands behind the label is walked at each jump. -/
theorem wp_scope_fwd {P : Program} {a : Act} {w : World} {Q : Exit → Act → World → Prop} {c rest : Code} (l : Nat) (hf : findLabel c l = some rest)
    (first : c.wp P (Exit.jump l (fun a w => rest.wp P (Exit.jump l (fun _ _ => False) Q) a w) Q) a w) : (Code.scope c).wp P Q a w :=
  wp_scope_jumps l _ (fun _ _ => 0) hf first (fun a w h => Code.wp_mono (fun e a w h => by
    cases e with
    | goto l' => exact ⟨h.1, h.2.elim⟩
    | normal => exact h
    | exit id => exact h
    | ret => exact h
    | panic ch => exact h
    | outgrown => exact h) h)

/-- A word of one letter, and its token. -/
def isC (c : Nat) : Prop := c = 97 ∨ c = 107
def tokC (s : ByteArray) (at_ size : Int) : Value := .agg #[.int .i64 1, .string s, .int .i64 0, .float .f64 0, .int .i64 at_, .int .i64 size]

theorem letter_any (c : Int) (h : c = 97 ∨ c = 107) (w : World) : Calls Tryz.prog 195 #[.int .u8 c] w fun e w' => e = .returned (.bool true) ∧ Below w.heap.size w w' := by
  rcases h with rfl | rfl
  all_goals
    go_enter Tryz.func195, Tryz.ntmps195
    go_wp2
    go_returns
    exact ⟨rfl, Below.refl _ _⟩
theorem keyword_any (c : UInt8) (h : c = 97 ∨ c = 107) (w : World) : Calls Tryz.prog 86 #[.string ⟨#[c]⟩] w fun e w' => e = .returned (.bool false) ∧ Below w.heap.size w w' := by
  rcases h with rfl | rfl
  all_goals
    go_enter Tryz.func86, Tryz.ntmps86
    go_wp2
    go_returns
    exact ⟨rfl, Below.refl _ _⟩
theorem cell_C {w : World} {g : Nat} {x : Int} (hc : w.cell? ⟨g, 0, none⟩ = some (.int .u8 x)) : Kd.C (Kd.int .u8) w (some ⟨g, 0, none⟩) 1 [x] := by
  refine ⟨rfl, by omega, fun _ => ⟨_, rfl, fun j p hp => ?_⟩⟩
  have hj : j = 0 := by have := (List.getElem?_eq_some_iff.1 hp).1; simp at this; exact this
  subst hj
  simp at hp
  subst hp
  refine ⟨[.int .u8 x], rfl, rfl, fun i u hu => ?_⟩
  have hi : i = 0 := by have := (List.getElem?_eq_some_iff.1 hu).1; simp at this; exact this
  subst hi
  simp at hu
  subst hu
  exact hc
theorem str_C {w W : World} {g cap : Nat} {c : UInt8} (h : c = 97 ∨ c = 107) (hc : w.cell? ⟨g, 0, none⟩ = some (.int .u8 c.toNat)) (hb : Below w.heap.size w W) : (convert 238 9 (.slice (some ⟨g, 0, none⟩) 1 cap)).run Tryz.prog W = .ok (.string ⟨#[c]⟩) W := by
  have h1 := Kd.C_string Tryz.underlying238 Tryz.underlying5 Tryz.underlying9 (c := cap) (Kd.C_below (cell_C hc) hb)
  rcases h with rfl | rfl <;> exact h1
set_option maxRecDepth 20000 in
set_option maxHeartbeats 1000000 in
theorem name_any (c : UInt8) (h : c = 97 ∨ c = 107) (g cap : Nat) (hcap : 1 ≤ cap) (w : World) (hc : w.cell? ⟨g, 0, none⟩ = some (.int .u8 c.toNat)) :
    Calls Tryz.prog 196 #[.slice (some ⟨g, 0, none⟩) 1 cap] w fun e w' => e = .returned (tokC ⟨#[c]⟩ 0 1) ∧ Below w.heap.size w w' := by
  have hst := fun W hb => str_C (W := W) (cap := cap) h hc hb
  have hst2 := hst (w.alloc (.cells #[.int .i64 0, .string { data := #[] }, .int .i64 0, .float .f64 0, .int .i64 0, .int .i64 0] 240)) ((Below.refl _ _).alloc (Nat.le_refl _) _)
  clear hst h
  go_enter Tryz.func196, Tryz.ntmps196
  go_wp2_with fail
  go_loopw [3] (fun i wr => i = .int .i64 1 ∧ wr = w.alloc (.cells #[.int .i64 0, .string { data := #[] }, .int .i64 0, .float .f64 0, .int .i64 0, .int .i64 0] 240)) (fun _ _ => 0)
  case atStart => exact ⟨rfl, rfl⟩
  case round =>
    obtain ⟨rfl, rfl⟩ := hrel
    go_wp2_with fail
    go_returns
    exact ⟨rfl, (Below.refl _ _).alloc (Nat.le_refl _) _⟩
set_option maxRecDepth 20000 in
set_option maxHeartbeats 1000000 in
theorem lexnext_any (c : UInt8) (h : c = 97 ∨ c = 107) (g cap : Nat) (hcap : 1 ≤ cap) (w : World) (hc : w.cell? ⟨g, 0, none⟩ = some (.int .u8 c.toNat)) :
    Calls Tryz.prog 172 #[.slice (some ⟨g, 0, none⟩) 1 cap, .int .i64 0] w fun e w' => e = .returned (.tuple #[tokC ⟨#[c]⟩ 0 1, .bool true, .int .i64 0]) ∧ Below w.heap.size w w' := by
  have hlt := World.block_lt_of_cell? w _ hc
  have HL := fun W => letter_any (c.toNat : Int) (by rcases h with rfl | rfl <;> decide) W
  have HN := Lib.hid (fun W (hb : Below w.heap.size w W) => name_any c h g cap hcap W ((hb.cell hlt).trans hc))
  have d1 : ((c.toNat : Int) == 32) = false := by rcases h with rfl | rfl <;> decide
  have d2 : ((c.toNat : Int) == 9) = false := by rcases h with rfl | rfl <;> decide
  have d3 : ((c.toNat : Int) == 10) = false := by rcases h with rfl | rfl <;> decide
  have d4 : ((c.toNat : Int) == 13) = false := by rcases h with rfl | rfl <;> decide
  have d5 : ((c.toNat : Int) == 35) = false := by rcases h with rfl | rfl <;> decide
  have HLT := Lib.hid HL
  clear HL
  go_enter Tryz.func172, Tryz.ntmps172
  go_wp2_with fail
  refine wp_scope_fwd 2 (by rfl) ?_
  go_wp2_with fail
  go_step3
  go_wp2_with fail
  refine (HLT.out _).mono ?_
  rintro e w1 ⟨rfl, hb1⟩
  obtain ⟨W0, hW0⟩ : ∃ W0, W0 = (w.alloc (.cells #[.int .i64 0, .string { data := #[] }, .int .i64 0, .float .f64 0, .int .i64 0, .int .i64 0] 240)).alloc (.cells #[.int .i64 0, .string { data := #[] }, .int .i64 0, .float .f64 0, .int .i64 0, .int .i64 0] 240) := ⟨_, rfl⟩
  have B0 : Blk W0 w.heap.size 240 #[.int .i64 0, .string { data := #[] }, .int .i64 0, .float .f64 0, .int .i64 0, .int .i64 0] := by rw [hW0]; exact (Blk.new w _ _).alloc _
  have B1 : Blk W0 (w.heap.size + 1) 240 #[.int .i64 0, .string { data := #[] }, .int .i64 0, .float .f64 0, .int .i64 0, .int .i64 0] := by rw [hW0]; simpa using Blk.new (w.alloc (.cells #[.int .i64 0, .string { data := #[] }, .int .i64 0, .float .f64 0, .int .i64 0, .int .i64 0] 240)) 240 #[.int .i64 0, .string { data := #[] }, .int .i64 0, .float .f64 0, .int .i64 0, .int .i64 0]
  have hb0 : Below w.heap.size w W0 := by rw [hW0]; exact ((Below.refl _ _).alloc (Nat.le_refl _) _).alloc (by simp) _
  rw [← hW0] at hb1
  clear hW0
  have HB1 := Lib.hid (hb0.trans (hb1.mono hb0.size))
  have C0 := B0.below hb1 B0.lt
  have C1 := B1.below hb1 B1.lt
  clear B0 B1 hb0 hb1
  have HN1 := Lib.hid (HN.out w1 HB1.out)
  clear HN
  go_wp2_with fail
  refine HN1.out.mono ?_
  rintro e w2 ⟨rfl, hb2⟩
  have D0 := C0.below hb2 C0.lt
  have D1 := C1.below hb2 C1.lt
  have HB2 := Lib.hid (HB1.out.trans (hb2.mono HB1.out.size))
  clear C0 C1 hb2
  have f0 := fun i => D0.frozen i
  have f1 := fun i => D1.frozen i
  have x0 := D0.cell 0
  have x1 := D0.cell 1
  have x2 := D0.cell 2
  have x3 := D0.cell 3
  have x4 := D0.cell 4
  have x5 := D0.cell 5
  have y0 := D1.cell 0
  have y1 := D1.cell 1
  have y2 := D1.cell 2
  have y3 := D1.cell 3
  have y4 := D1.cell 4
  have y5 := D1.cell 5
  simp at x0 x1 x2 x3 x4 x5 y0 y1 y2 y3 y4 y5
  unfold tokC
  go_wp2_with fail
  go_step3
  refine And.intro rfl ?_
  have E0 := (((((D0.far (p := ⟨w.heap.size + 1, 0, none⟩) (by simp) (.int .i64 1)).far (p := ⟨w.heap.size + 1, 1, none⟩) (by simp) (.string ⟨#[c]⟩)).far (p := ⟨w.heap.size + 1, 2, none⟩) (by simp) (.int .i64 0)).far (p := ⟨w.heap.size + 1, 3, none⟩) (by simp) (.float .f64 0)).far (p := ⟨w.heap.size + 1, 4, none⟩) (by simp) (.int .i64 0)).far (p := ⟨w.heap.size + 1, 5, none⟩) (by simp) (.int .i64 1)
  have E1 := (((((D1.set_ 0 (.int .i64 1)).set_ 1 (.string ⟨#[c]⟩)).set_ 2 (.int .i64 0)).set_ 3 (.float .f64 0)).set_ 4 (.int .i64 0)).set_ 5 (.int .i64 1)
  have hb3 : Below w.heap.size w ((((((w2.setCell ⟨w.heap.size + 1, 0, none⟩ (.int .i64 1)).setCell ⟨w.heap.size + 1, 1, none⟩ (.string ⟨#[c]⟩)).setCell ⟨w.heap.size + 1, 2, none⟩ (.int .i64 0)).setCell ⟨w.heap.size + 1, 3, none⟩ (.float .f64 0)).setCell ⟨w.heap.size + 1, 4, none⟩ (.int .i64 0)).setCell ⟨w.heap.size + 1, 5, none⟩ (.int .i64 1)) := by
    have := HB2.out
    go_grown
  generalize (((((w2.setCell _ _).setCell _ _).setCell _ _).setCell _ _).setCell _ _).setCell _ _ = W3 at E0 E1 hb3 ⊢
  clear D0 D1 f0 f1 x0 x1 x2 x3 x4 x5 y0 y1 y2 y3 y4 y5
  have f0 := fun i => E0.frozen i
  have f1 := fun i => E1.frozen i
  have x0 := E0.cell 0
  have x1 := E0.cell 1
  have x2 := E0.cell 2
  have x3 := E0.cell 3
  have x4 := E0.cell 4
  have x5 := E0.cell 5
  have y0 := E1.cell 0
  have y1 := E1.cell 1
  have y2 := E1.cell 2
  have y3 := E1.cell 3
  have y4 := E1.cell 4
  have y5 := E1.cell 5
  simp at x0 x1 x2 x3 x4 x5 y0 y1 y2 y3 y4 y5
  have HB3 := Lib.hid hb3
  have E1' : Hid (Blk W3 (w.heap.size + 1) 240 #[.int .i64 1, .string ⟨#[c]⟩, .int .i64 0, .float .f64 0, .int .i64 0, .int .i64 1]) := Lib.hid (by simpa using E1)
  clear hb3 E1
  go_wp2_with fail
  simp only [Exit.jump]
  have E2 := (((((E0.far (p := ⟨w.heap.size + 1, 4, none⟩) (by simp) (.int .i64 0)).set_ 0 (.int .i64 1)).set_ 1 (.string ⟨#[c]⟩)).set_ 2 (.int .i64 0)).set_ 3 (.float .f64 0)).set_ 4 (.int .i64 0)
  have E3 := E2.set_ 5 (.int .i64 1)
  refine bodyPost_ret (results_ctt rfl _ _ w.heap.size 240 #[.int .i64 1, .string ⟨#[c]⟩, .int .i64 0, .float .f64 0, .int .i64 0, .int .i64 1] (0, 0) _ rfl (show Blk _ w.heap.size 240 _ from by simpa using E3) Tryz.underlying240 rfl (by kernel_rfl)) rfl ?_
  refine ⟨rfl, ?_⟩
  have := HB3.out
  go_grown
set_option maxRecDepth 20000 in
set_option maxHeartbeats 1000000 in
theorem lexnext_end (g cap : Nat) (w : World) :
    Calls Tryz.prog 172 #[.slice (some ⟨g, 0, none⟩) 1 cap, .int .i64 1] w fun e w' => e = .returned (.tuple #[.agg #[.int .i64 0, .string { data := #[] }, .int .i64 0, .float .f64 0, .int .i64 0, .int .i64 0], .bool false, .int .i64 0]) ∧ Below w.heap.size w w' := by
  go_enter Tryz.func172, Tryz.ntmps172
  go_wp2_with fail
  refine wp_scope_fwd 2 (by rfl) ?_
  go_wp2_with fail
  go_step3
  go_wp2_with fail
  simp only [Exit.jump]
  refine bodyPost_ret (results_ctt rfl _ _ w.heap.size 240 #[.int .i64 0, .string { data := #[] }, .int .i64 0, .float .f64 0, .int .i64 0, .int .i64 0] (0, 0) _ rfl (show Blk _ w.heap.size 240 _ from (Blk.new w _ _).alloc _) Tryz.underlying240 rfl (by kernel_rfl)) rfl ?_
  exact ⟨rfl, ((Below.refl _ _).alloc (Nat.le_refl _) _).alloc (by simp) _⟩
end Go.Proofs.YthipgipmhjebmaaGreatDoor.Pol
