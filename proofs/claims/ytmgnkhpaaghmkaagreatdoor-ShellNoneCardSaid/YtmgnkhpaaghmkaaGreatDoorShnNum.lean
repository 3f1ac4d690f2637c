/- How the two errors 280 and 90 are told: strconv.Itoa, shell.refused. -/
import Derived.Test.YtmgnkhpaaghmkaaGreatDoorShnBase
namespace Go.Proofs.YtmgnkhpaaghmkaaGreatDoor.Shn
open Go.RowKit Go.Proofs.YtmgnkhpaaghmkaaGreatDoorW.PrintWords
set_option linter.unusedVariables false
set_option linter.unusedSimpArgs false

/-- strconv's powers of ten, as far as they are asked. -/
def Tab (w : World) : Prop := w.cell? ⟨2, 2, none⟩ = some (.int .u64 100)
theorem Tab.below {w w' : World} (h : Tab w) (hb : Below w.heap.size w w') : Tab w' := (hb.cell (World.block_lt_of_cell? w _ h)).trans h
theorem Tab.chg {S : List Nat} {w w' : World} (h : Tab w) (hc : Chg S w w') (hS : 2 ∉ S) : Tab w' := (World.cell?_of_block (hc.block 2 (World.block_lt_of_cell? w _ h) hS)).trans h

set_option maxRecDepth 20000 in
theorem len64_280 (w : World) : Calls Tryz.prog 211 #[.int .u64 280] w fun e w' => e = .returned (.int .i64 9) ∧ w' = w := by
  go_enter Tryz.func211, Tryz.ntmps211
  go_wp2
  go_returns
  exact ⟨by kernel_rfl, rfl⟩
set_option maxRecDepth 20000 in
theorem digits_280 (w : World) (hT : Tab w) : Calls Tryz.prog 147 #[.int .u64 280] w fun e w' => e = .returned (.int .i64 3) ∧ w' = w := by
  unfold Tab at hT
  go_enter Tryz.func147, Tryz.ntmps147
  go_wp2_with fail
  refine (len64_280 _).mono ?_
  rintro e w1 ⟨rfl, rfl⟩
  go_wp2
  go_returns
  exact ⟨rfl, rfl⟩
/-- The digits' cells. -/
def row24 (a b c : Int) : Array Value := #[.int .u8 0, .int .u8 a, .int .u8 b, .int .u8 c, .int .u8 0, .int .u8 0, .int .u8 0, .int .u8 0, .int .u8 0, .int .u8 0, .int .u8 0, .int .u8 0, .int .u8 0, .int .u8 0, .int .u8 0, .int .u8 0, .int .u8 0, .int .u8 0, .int .u8 0, .int .u8 0, .int .u8 0, .int .u8 0, .int .u8 0, .int .u8 0]
set_option maxRecDepth 20000 in
set_option maxHeartbeats 1000000 in
theorem base10_280 (g cap : Nat) (w : World) (hb : Blk w g 287 (row24 0 0 0)) : Calls Tryz.prog 148 #[.slice (some ⟨g, 1, none⟩) 3 cap, .int .u64 280] w fun e w' => e = .returned (.tuple #[]) ∧ Blk w' g 287 (row24 50 56 48) ∧ Chg [g] w w' := by
  have HB := Lib.hid hb
  have f := fun i => hb.frozen i
  have x1 := hb.cell 1
  have x2 := hb.cell 2
  have x3 := hb.cell 3
  simp [row24] at x1 x2 x3
  clear hb
  go_enter Tryz.func148, Tryz.ntmps148
  go_wp2_with fail
  go_loopw [1, 4] (fun u nd wr => u = .int .u64 280 ∧ nd = .int .i64 3 ∧ wr = w) (fun _ _ _ => 0)
  case atStart => exact ⟨rfl, rfl, rfl⟩
  case round =>
  obtain ⟨rfl, rfl, rfl⟩ := hrel
  go_wp2_with fail
  go_region
  change Exit.then _ _ _ _ (World.drew (World.setCell (World.setCell wr ⟨g, 3, none⟩ (.int .u8 48)) ⟨g, 2, none⟩ (.int .u8 56)))
  have h2 : Blk (World.drew (World.setCell (World.setCell wr ⟨g, 3, none⟩ (.int .u8 48)) ⟨g, 2, none⟩ (.int .u8 56))) g 287 (row24 0 56 48) := (HB.out.set_ 3 _).set_ 2 _
  have c2 : Chg [g] wr (World.drew (World.setCell (World.setCell wr ⟨g, 3, none⟩ (.int .u8 48)) ⟨g, 2, none⟩ (.int .u8 56))) := (((Chg.refl [g] wr).setCell (.inl (by simp)) _).setCell (.inl (by simp)) _).drew
  generalize World.drew (World.setCell (World.setCell wr ⟨g, 3, none⟩ (.int .u8 48)) ⟨g, 2, none⟩ (.int .u8 56)) = w2 at h2 c2 ⊢
  clear f x1 x2 x3
  have HB2 := Lib.hid h2
  have HC2 := Lib.hid c2
  have f := fun i => h2.frozen i
  have x1 := h2.cell 1
  simp [row24] at x1
  clear h2 c2 HB
  go_wp2_with fail
  go_end0
  exact ⟨rfl, HB2.out.set_ 1 _, HC2.out.setCell (.inl (by simp)) _⟩
def d280 : ByteArray := ⟨#[50, 56, 48]⟩
def d90 : ByteArray := ⟨#[57, 48]⟩
/-- "error 280", "error 90", each with its line's end. -/
def e280 : ByteArray := ⟨#[101, 114, 114, 111, 114, 32, 50, 56, 48, 10]⟩
def e90 : ByteArray := ⟨#[101, 114, 114, 111, 114, 32, 57, 48, 10]⟩
theorem row_C {w : World} {g : Nat} {a b c : Int} (h : Blk w g 287 (row24 a b c)) : Kd.C (Kd.int .u8) w (some ⟨g, 1, none⟩) [a, b, c].length [a, b, c] := by
  refine ⟨rfl, by simp, fun _ => ⟨_, rfl, fun j p hp => ?_⟩⟩
  have hj : j < 3 := by have := (List.getElem?_eq_some_iff.1 hp).1; simpa using this
  have hc : w.cell? ⟨g, 1 + j, none⟩ = some (.int .u8 p) := by
    rw [h.cell]
    rcases (by omega : j = 0 ∨ j = 1 ∨ j = 2) with rfl | rfl | rfl <;> simp [row24] at hp ⊢ <;> exact hp
  refine ⟨[.int .u8 p], rfl, rfl, fun i u hu => ?_⟩
  have hi : i = 0 := by have := (List.getElem?_eq_some_iff.1 hu).1; simp at this; exact this
  subst hi
  simp at hu
  subst hu
  rw [show (⟨g, 1, none⟩ : Addr).add (j * (Kd.int .u8).sz + 0) = ⟨g, 1 + j, none⟩ from by
    show (⟨g, 1, none⟩ : Addr).add (j * 1 + 0) = _
    unfold Addr.add
    by_cases h0 : j = 0 <;> simp [h0]]
  exact hc
set_option maxRecDepth 20000 in
set_option maxHeartbeats 1000000 in
theorem format_280 (w : World) (hT : Tab w) : Calls Tryz.prog 91 #[.int .i64 280, .int .i64 10] w fun e w' => e = .returned (.string d280) ∧ Below w.heap.size w w' := by
  have hb0 : Below w.heap.size w (w.alloc (.cells (row24 0 0 0) 287)) := (Below.refl _ _).alloc (Nat.le_refl _) _
  have HT := Lib.hid (hT.below hb0)
  have HB0 := Lib.hid hb0
  have HR := Lib.hid (Blk.new w 287 (row24 0 0 0))
  clear hT hb0
  go_enter Tryz.func91, Tryz.ntmps91
  go_wp2_with fail
  change Calls _ _ _ (w.alloc (.cells (row24 0 0 0) 287)) _
  generalize w.alloc (.cells (row24 0 0 0) 287) = w1 at HT HB0 HR ⊢
  refine (digits_280 _ HT.out).mono ?_
  rintro e w2 ⟨rfl, rfl⟩
  go_wp2_with fail
  refine (base10_280 _ _ _ HR.out).mono ?_
  rintro e w3 ⟨rfl, hb3, hc3⟩
  have hs : (convert 23 9 (.slice (some ⟨w.heap.size, 1, none⟩) 3 23)).run Tryz.prog w3 = .ok (.string d280) w3 := str_C (c := 23) (row_C hb3)
  have HB3 := Lib.hid (HB0.out.trans (hc3.below HB0.out.size (by simp)))
  clear hb3 hc3
  go_wp2_with fail
  go_returns
  exact ⟨rfl, HB3.out⟩
set_option maxRecDepth 20000 in
theorem format_90 (w : World) : Calls Tryz.prog 91 #[.int .i64 90, .int .i64 10] w fun e w' => e = .returned (.string d90) ∧ Below w.heap.size w w' := by
  go_enter Tryz.func91, Tryz.ntmps91
  go_wp2
  go_returns
  exact ⟨rfl, by go_grown⟩
theorem itoa_280 (w : World) (hT : Tab w) : Calls Tryz.prog 16 #[.int .i64 280] w fun e w' => e = .returned (.string d280) ∧ Below w.heap.size w w' := by
  have HT := Lib.hid hT
  clear hT
  go_enter Tryz.func16, Tryz.ntmps16
  go_wp2_with (first | (go_at_call 41; go_in))
  refine (format_280 _ HT.out).mono ?_
  rintro e w1 ⟨rfl, hb⟩
  go_wp2
  go_returns
  exact ⟨rfl, hb⟩
theorem itoa_90 (w : World) : Calls Tryz.prog 16 #[.int .i64 90] w fun e w' => e = .returned (.string d90) ∧ Below w.heap.size w w' := by
  go_enter Tryz.func16, Tryz.ntmps16
  go_wp2_with (first | (go_at_call 41; go_in))
  refine (format_90 _).mono ?_
  rintro e w1 ⟨rfl, hb⟩
  go_wp2
  go_returns
  exact ⟨rfl, hb⟩
theorem refused_280 (w : World) (hT : Tab w) : Calls Tryz.prog 10 #[.int .i64 280] w fun e w' => e = .returned (.string e280) ∧ Below w.heap.size w w' := by
  have HT := Lib.hid hT
  clear hT
  go_enter Tryz.func10, Tryz.ntmps10
  go_wp2_with fail
  refine (itoa_280 _ HT.out).mono ?_
  rintro e w1 ⟨rfl, hb⟩
  go_wp2_with fail
  go_returns
  exact ⟨rfl, hb⟩
theorem refused_90 (w : World) : Calls Tryz.prog 10 #[.int .i64 90] w fun e w' => e = .returned (.string e90) ∧ Below w.heap.size w w' := by
  go_enter Tryz.func10, Tryz.ntmps10
  go_wp2_with fail
  refine (itoa_90 _).mono ?_
  rintro e w1 ⟨rfl, hb⟩
  go_wp2_with fail
  go_returns
  exact ⟨rfl, hb⟩
end Go.Proofs.YtmgnkhpaaghmkaaGreatDoor.Shn
