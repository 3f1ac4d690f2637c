/- valid.Check of the small program: it finds nothing. -/
import Derived.Test.YthipgipmhjebmaaGreatDoorNilValid
namespace Go.Proofs.YthipgipmhjebmaaGreatDoor.Pol
open Go.RowKit Go.Proofs.YthipgipmhjebmaaGreatDoorW.PrintWords
set_option linter.unusedVariables false
set_option linter.unusedSimpArgs false

theorem index_nil (f : Value) (w : World) : Calls Tryz.prog 88 #[.slice none 0 0, f] w fun e w' => e = .returned (.int .i64 (-1)) ∧ w' = w := by
  go_enter Tryz.func88, Tryz.ntmps88
  go_wp2_with fail
  go_loopw [5, 8] (fun _ i wr => i = .int .i64 0 ∧ wr = w) (fun _ _ _ => 0)
  case atStart => exact ⟨rfl, rfl⟩
  case round =>
    obtain ⟨rfl, rfl⟩ := hrel
    go_wp2_with fail
    go_returns
    exact ⟨rfl, rfl⟩
theorem contains_nil (f : Value) (w : World) : Calls Tryz.prog 59 #[.slice none 0 0, f] w fun e w' => e = .returned (.bool false) ∧ w' = w := by
  go_enter Tryz.func59, Tryz.ntmps59
  go_wp2_with fail
  refine (index_nil _ _).mono ?_
  rintro e w1 ⟨rfl, rfl⟩
  go_wp2_with fail
  go_returns
  exact ⟨rfl, rfl⟩
set_option maxRecDepth 20000 in
set_option maxHeartbeats 1000000 in
theorem tag_any (tb ct kb ck : Nat) (w : World) (hp : Pr w tb kb) : Calls Tryz.prog 28 #[prV tb ct kb ck, .int .i64 0] w fun e w' => e = .returned (.int .i64 0) ∧ Below w.heap.size w w' := by
  have x0 := hp.1
  have x1 := hp.2.1
  have hlt := World.block_lt_of_cell? w _ x0
  have HP := Lib.hid hp
  obtain ⟨W1, hW1⟩ : ∃ W1, W1 = (w.alloc (.cells #[.slice (some ⟨tb, 0, none⟩) 1 ct, .slice (some ⟨kb, 0, none⟩) 1 ck] 51)).alloc (.cells #[.string ⟨#[97]⟩, .slice none 0 0] 44) := ⟨_, rfl⟩
  have b0 : Blk W1 w.heap.size 51 #[.slice (some ⟨tb, 0, none⟩) 1 ct, .slice (some ⟨kb, 0, none⟩) 1 ck] := by rw [hW1]; exact (Blk.new w _ _).alloc _
  have b1 : Blk W1 (w.heap.size + 1) 44 #[.string ⟨#[97]⟩, .slice none 0 0] := by rw [hW1]; simpa using Blk.new (w.alloc (.cells #[.slice (some ⟨tb, 0, none⟩) 1 ct, .slice (some ⟨kb, 0, none⟩) 1 ck] 51)) 44 #[.string ⟨#[97]⟩, .slice none 0 0]
  have hb : Below w.heap.size w W1 := by rw [hW1]; go_grown
  have HW1 := Lib.hid hW1
  have HF := Lib.hid (find_tag tb ct kb ck W1 (hp.below hb))
  clear hp hW1
  unfold prV at HF ⊢
  go_enter Tryz.func28, Tryz.ntmps28
  go_wp2_with fail
  have e0 := HW1.out
  rw [← e0]
  clear e0
  refine HF.out.mono ?_
  rintro e w2 ⟨rfl, hb2⟩
  have c1 := b1.below hb2 b1.lt
  have HB2 := Lib.hid (hb.trans (hb2.mono hb.size))
  have y0 := c1.cell 0
  have y1 := c1.cell 1
  simp at y0 y1
  clear b0 b1 hb hb2 x0 x1
  go_wp2_with fail
  refine (word_any 97 (.inl rfl) _).mono ?_
  rintro e w3 ⟨rfl, hb3⟩
  have d1 := c1.below hb3 c1.lt
  have HB3 := Lib.hid (HB2.out.trans (hb3.mono HB2.out.size))
  have z0 := d1.cell 0
  have z1 := d1.cell 1
  simp at z0 z1
  clear y0 y1 c1 hb3 HB2
  go_wp2_with fail
  refine (contains_nil _ _).mono ?_
  rintro e w4 ⟨rfl, rfl⟩
  go_wp2_with fail
  go_returns
  exact ⟨rfl, HB3.out⟩
set_option maxRecDepth 20000 in
set_option maxHeartbeats 1000000 in
theorem kind_any (tb ct kb ck : Nat) (w : World) (hp : Pr w tb kb) : Calls Tryz.prog 29 #[prV tb ct kb ck, .int .i64 0] w fun e w' => e = .returned (.int .i64 0) ∧ Below w.heap.size w w' := by
  have x0 := hp.2.2.1
  have x1 := hp.2.2.2
  have hlt := World.block_lt_of_cell? w _ x0
  obtain ⟨W1, hW1⟩ : ∃ W1, W1 = (w.alloc (.cells #[.slice (some ⟨tb, 0, none⟩) 1 ct, .slice (some ⟨kb, 0, none⟩) 1 ck] 51)).alloc (.cells #[.string ⟨#[107]⟩, .slice none 0 0] 48) := ⟨_, rfl⟩
  have b0 : Blk W1 w.heap.size 51 #[.slice (some ⟨tb, 0, none⟩) 1 ct, .slice (some ⟨kb, 0, none⟩) 1 ck] := by rw [hW1]; exact (Blk.new w _ _).alloc _
  have b1 : Blk W1 (w.heap.size + 1) 48 #[.string ⟨#[107]⟩, .slice none 0 0] := by rw [hW1]; simpa using Blk.new (w.alloc (.cells #[.slice (some ⟨tb, 0, none⟩) 1 ct, .slice (some ⟨kb, 0, none⟩) 1 ck] 51)) 48 #[.string ⟨#[107]⟩, .slice none 0 0]
  have hb : Below w.heap.size w W1 := by rw [hW1]; go_grown
  have HW1 := Lib.hid hW1
  have HF := Lib.hid (find_kind tb ct kb ck W1 (hp.below hb))
  clear hp hW1
  unfold prV at HF ⊢
  go_enter Tryz.func29, Tryz.ntmps29
  go_wp2_with fail
  have e0 := HW1.out
  rw [← e0]
  clear e0
  refine HF.out.mono ?_
  rintro e w2 ⟨rfl, hb2⟩
  have c1 := b1.below hb2 b1.lt
  have HB2 := Lib.hid (hb.trans (hb2.mono hb.size))
  have y0 := c1.cell 0
  have y1 := c1.cell 1
  simp at y0 y1
  clear b0 b1 hb hb2 x0 x1
  go_wp2_with fail
  refine (word_any 107 (.inr rfl) _).mono ?_
  rintro e w3 ⟨rfl, hb3⟩
  have d1 := c1.below hb3 c1.lt
  have HB3 := Lib.hid (HB2.out.trans (hb3.mono HB2.out.size))
  have z0 := d1.cell 0
  have z1 := d1.cell 1
  simp at z0 z1
  clear y0 y1 c1 hb3 HB2
  go_wp2_with fail
  go_returns
  exact ⟨rfl, HB3.out⟩
set_option maxRecDepth 20000 in
set_option maxHeartbeats 1000000 in
theorem chords_any (tb ct kb ck : Nat) (w : World) (hp : Pr w tb kb) : Calls Tryz.prog 30 #[prV tb ct kb ck, .int .i64 0] w fun e w' => e = .returned (.tuple #[.agg #[.int .i64 0, .int .i64 0, .int .i64 0, .int .i64 0, .int .i64 0, .int .i64 0, .int .i64 0], .int .i64 0]) ∧ Below w.heap.size w w' := by
  have x0 := hp.2.2.1
  have x1 := hp.2.2.2
  have hlt := World.block_lt_of_cell? w _ x0
  unfold prV
  clear hp
  go_enter Tryz.func30, Tryz.ntmps30
  go_wp2_with fail
  go_loopw [7, 21] (fun _ i wr => i = .int .i64 0 ∧ wr = (w.alloc (.cells #[.slice (some ⟨tb, 0, none⟩) 1 ct, .slice (some ⟨kb, 0, none⟩) 1 ck] 51)).alloc (.cells #[.int .i64 0, .int .i64 0, .int .i64 0, .int .i64 0, .int .i64 0, .int .i64 0, .int .i64 0] 87)) (fun _ _ _ => 0)
  case atStart => exact ⟨rfl, rfl⟩
  case round =>
    obtain ⟨rfl, rfl⟩ := hrel
    go_wp2_with fail
    go_returns
    exact ⟨rfl, by go_grown⟩
end Go.Proofs.YthipgipmhjebmaaGreatDoor.Pol
