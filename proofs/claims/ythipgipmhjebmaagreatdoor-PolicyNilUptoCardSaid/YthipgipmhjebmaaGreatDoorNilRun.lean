/- system.New of the small program; policy.Run of a system without actors. -/
import Derived.Test.YthipgipmhjebmaaGreatDoorNilCop
import Derived.Test.YthipgipmhjebmaaGreatDoorPolAwake
namespace Go.Proofs.YthipgipmhjebmaaGreatDoor.Pol
open Go.RowKit Go.Proofs.YthipgipmhjebmaaGreatDoorW.PrintWords
set_option linter.unusedVariables false
set_option linter.unusedSimpArgs false

/-- A system without actors. -/
def Sys (w : World) (s : Nat) : Prop := w.cell? ⟨s, 2, none⟩ = some (.slice none 0 0)
def SysPost (w : World) (e : Ending) (w' : World) : Prop := ∃ s, e = .returned (.tuple #[.pointer (some ⟨s, 0, none⟩), .int .i64 0]) ∧ w.heap.size ≤ s ∧ Sys w' s ∧ Below w.heap.size w w'
set_option maxRecDepth 20000 in
set_option maxHeartbeats 1000000 in
theorem sysnew_any (tb ct kb ck : Nat) (w : World) (hp : Pr w tb kb) : Calls Tryz.prog 10 #[prV tb ct kb ck] w (SysPost w) := by
  have hb : Below w.heap.size w (w.alloc (.cells #[.slice (some ⟨tb, 0, none⟩) 1 ct, .slice (some ⟨kb, 0, none⟩) 1 ck] 51)) := by go_grown
  have b0 := Blk.new w 51 #[.slice (some ⟨tb, 0, none⟩) 1 ct, .slice (some ⟨kb, 0, none⟩) 1 ck]
  have HC := Lib.hid (check_any tb ct kb ck _ (hp.below hb))
  have HP := Lib.hid hp
  have HB := Lib.hid hb
  have HB0 := Lib.hid b0
  clear hp hb b0
  unfold prV z7 at HC
  unfold prV
  go_enter Tryz.func10, Tryz.ntmps10
  go_wp2_with fail
  refine HC.out.mono ?_
  rintro e w1 ⟨rfl, hb1⟩
  have b1 := HB0.out.below hb1 HB0.out.lt
  have HB1 := Lib.hid (HB.out.trans (hb1.mono HB.out.size))
  have c1 := b1.alloc (.cells #[.int .i64 0, .int .i64 0, .int .i64 0, .int .i64 0, .int .i64 0, .int .i64 0, .int .i64 0] 87)
  have x0 := b1.cell 0
  have x1 := b1.cell 1
  simp at x0 x1
  have l0 := World.block_lt_of_cell? _ _ x0
  simp only at l0
  have hb2 : Below w.heap.size w (w1.alloc (.cells #[.int .i64 0, .int .i64 0, .int .i64 0, .int .i64 0, .int .i64 0, .int .i64 0, .int .i64 0] 87)) := HB1.out.alloc HB1.out.size _
  have HCP := Lib.hid (copied_any tb ct kb ck _ (HP.out.below hb2))
  have HB2 := Lib.hid hb2
  unfold prV at HCP
  clear b1 c1 hb1 hb2
  go_wp2_with fail
  refine HCP.out.mono ?_
  rintro e w2 ⟨r0, c0, r1, c1, rfl, hb3⟩
  have HB3 := Lib.hid (HB2.out.trans (hb3.mono HB2.out.size))
  clear hb3
  go_wp2_with fail
  go_returns
  refine ⟨_, rfl, HB3.out.size, ?_, HB3.out.alloc HB3.out.size _⟩
  exact ((Blk.new w2 95 _).cell 2).trans rfl
theorem choices_any (s : Nat) (w : World) (hs : Sys w s) : Calls Tryz.prog 11 #[.pointer (some ⟨s, 0, none⟩)] w fun e w' => e = .returned (.slice none 0 0) ∧ w' = w := by
  unfold Sys at hs
  go_enter Tryz.func11, Tryz.ntmps11
  go_wp2_with fail
  go_loopw [2, 14] (fun v i wr => v = .slice none 0 0 ∧ i = .int .i64 0 ∧ wr = w) (fun _ _ _ => 0)
  case atStart => exact ⟨rfl, rfl, rfl⟩
  case round =>
    obtain ⟨rfl, rfl, rfl⟩ := hrel
    go_wp2_with fail
    go_returns
    exact ⟨rfl, rfl⟩
theorem copy_nil (w : World) : Calls Tryz.prog 9 #[.pointer none] w fun e w' => e = .returned (.pointer none) ∧ w' = w := by
  go_enter Tryz.func9, Tryz.ntmps9
  go_wp2
  go_returns
  exact ⟨rfl, rfl⟩
def RPostN (k : Int) (w : World) (e : Ending) (w' : World) : Prop := e = .returned (.tuple #[.slice none 0 0, .int .i64 k]) ∧ Below w.heap.size w w'
theorem run_nil1 (p : Option Addr) (most : Int) (w : World) : Calls Tryz.prog 8 #[.pointer none, .pointer p, .int .i64 most] w (RPostN 1 w) := by
  go_enter Tryz.func8, Tryz.ntmps8
  go_wp2
  go_returns
  exact ⟨rfl, Below.refl _ _⟩
theorem run_nil2 (s : Addr) (most : Int) (w : World) : Calls Tryz.prog 8 #[.pointer (some s), .pointer none, .int .i64 most] w (RPostN 1 w) := by
  go_enter Tryz.func8, Tryz.ntmps8
  go_wp2
  go_returns
  exact ⟨rfl, Below.refl _ _⟩
theorem run_out (s p : Addr) (most : Int) (w : World) (h : most < 0 ∨ 4096 < most) : Calls Tryz.prog 8 #[.pointer (some s), .pointer (some p), .int .i64 most] w (RPostN 2 w) := by
  rcases h with h | h
  · have h1 : decide (most < 0) = true := decide_eq_true h
    clear h
    go_enter Tryz.func8, Tryz.ntmps8
    go_wp2
    go_returns
    exact ⟨rfl, Below.refl _ _⟩
  · have h1 : decide (most < 0) = false := decide_eq_false (by omega)
    have h2 : decide (most > 4096) = true := decide_eq_true h
    clear h
    go_enter Tryz.func8, Tryz.ntmps8
    go_wp2
    go_returns
    exact ⟨rfl, Below.refl _ _⟩
set_option maxRecDepth 20000 in
set_option maxHeartbeats 1000000 in
theorem run_ok (s p : Nat) (S : List Nat) (st : PS) (most : Int) (w : World) (hP : Pl w p S st) (hs : Sys w s) (h0 : 0 ≤ most) (h1 : most ≤ 4096) : Calls Tryz.prog 8 #[.pointer (some ⟨s, 0, none⟩), .pointer (some ⟨p, 0, none⟩), .int .i64 most] w (RPostN 0 w) := by
  have d0 : decide (most < 0) = false := decide_eq_false (by omega)
  have d1 : decide (most > 4096) = false := decide_eq_false (by omega)
  have HN := Lib.hid (next_empty p S st none 0 w hP)
  have HC := Lib.hid (choices_any s w hs)
  clear hP hs
  go_enter Tryz.func8, Tryz.ntmps8
  go_wp2_with fail
  go_loopw [8, 29] (fun v i wr => v = .slice none 0 0 ∧ i = .int .i64 0 ∧ wr = w) (fun _ _ _ => 0)
  case atStart => exact ⟨rfl, rfl, rfl⟩
  case round =>
    obtain ⟨rfl, rfl, rfl⟩ := hrel
    by_cases hm : 0 < most
    · have d2 : decide (0 < most) = true := decide_eq_true hm
      clear hm
      go_wp2_with fail
      refine HC.out.mono ?_
      rintro e w1 ⟨rfl, rfl⟩
      go_wp2_with fail
      refine HN.out.mono ?_
      rintro e w2 ⟨rfl, hb2⟩
      have HB2 := Lib.hid hb2
      clear hb2
      go_wp2_with fail
      go_returns
      exact ⟨rfl, HB2.out⟩
    · have d2 : decide (0 < most) = false := decide_eq_false hm
      clear hm
      go_wp2_with fail
      go_returns
      exact ⟨rfl, Below.refl _ _⟩
end Go.Proofs.YthipgipmhjebmaaGreatDoor.Pol
