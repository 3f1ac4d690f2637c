/- valid.Check of the small program. -/
import Derived.Test.YthipgipmhjebmaaGreatDoorNilWord
namespace Go.Proofs.YthipgipmhjebmaaGreatDoor.Pol
open Go.RowKit Go.Proofs.YthipgipmhjebmaaGreatDoorW.PrintWords
set_option linter.unusedVariables false
set_option linter.unusedSimpArgs false

/-- The small program: one tag a, one kind k. -/
def Pr (w : World) (tb kb : Nat) : Prop := w.cell? ⟨tb, 0, none⟩ = some (.string ⟨#[97]⟩) ∧ w.cell? ⟨tb, 1, none⟩ = some (.slice none 0 0) ∧ w.cell? ⟨kb, 0, none⟩ = some (.string ⟨#[107]⟩) ∧ w.cell? ⟨kb, 1, none⟩ = some (.slice none 0 0)
theorem Pr.below {w w' : World} {tb kb : Nat} (h : Pr w tb kb) (hb : Below w.heap.size w w') : Pr w' tb kb :=
  ⟨(hb.cell (World.block_lt_of_cell? w _ h.1)).trans h.1, (hb.cell (World.block_lt_of_cell? w _ h.2.1)).trans h.2.1, (hb.cell (World.block_lt_of_cell? w _ h.2.2.1)).trans h.2.2.1, (hb.cell (World.block_lt_of_cell? w _ h.2.2.2)).trans h.2.2.2⟩
def prV (tb ct kb ck : Nat) : Value := .agg #[.slice (some ⟨tb, 0, none⟩) 1 ct, .slice (some ⟨kb, 0, none⟩) 1 ck]
theorem clos_tag (s : ByteArray) (b : Nat) (w : World) (hb : w.cell? ⟨b, 0, none⟩ = some (.string s)) : Calls Tryz.prog 85 #[.agg #[.string s, .slice none 0 0], .pointer (some ⟨b, 0, none⟩)] w fun e w' => e = .returned (.bool true) ∧ Below w.heap.size w w' := by
  have hlt := World.block_lt_of_cell? w _ hb
  go_enter Tryz.func85, Tryz.ntmps85
  go_wp2
  go_returns
  exact ⟨by simp, (Below.refl _ _).alloc (Nat.le_refl _) _⟩
set_option maxRecDepth 20000 in
theorem index_tag (s : ByteArray) (b tb ct : Nat) (w : World) (hb : w.cell? ⟨b, 0, none⟩ = some (.string s)) (h0 : w.cell? ⟨tb, 0, none⟩ = some (.string s)) (h1 : w.cell? ⟨tb, 1, none⟩ = some (.slice none 0 0)) :
    Calls Tryz.prog 84 #[.slice (some ⟨tb, 0, none⟩) 1 ct, .func (.func 85) #[] #[.pointer (some ⟨b, 0, none⟩)]] w fun e w' => e = .returned (.int .i64 0) ∧ Below w.heap.size w w' := by
  have HC := Lib.hid (clos_tag s b w hb)
  clear hb
  go_enter Tryz.func84, Tryz.ntmps84
  go_wp2_with fail
  go_loopw [5, 8] (fun _ i wr => i = .int .i64 0 ∧ wr = w) (fun _ _ _ => 0)
  case atStart => exact ⟨rfl, rfl⟩
  case round =>
    obtain ⟨rfl, rfl⟩ := hrel
    go_wp2_with fail
    refine HC.out.mono ?_
    rintro e w1 ⟨rfl, hb1⟩
    go_wp2_with fail
    go_returns
    exact ⟨rfl, hb1⟩
set_option maxRecDepth 20000 in
theorem find_tag (tb ct kb ck : Nat) (w : World) (hp : Pr w tb kb) : Calls Tryz.prog 57 #[prV tb ct kb ck, .string ⟨#[97]⟩] w fun e w' => e = .returned (.tuple #[.int .i64 0, .bool true]) ∧ Below w.heap.size w w' := by
  have hb : Below w.heap.size w ((w.alloc (.cells #[.slice (some ⟨tb, 0, none⟩) 1 ct, .slice (some ⟨kb, 0, none⟩) 1 ck] 51)).alloc (.cells #[.string ⟨#[97]⟩] 9)) := by go_grown
  have hq := hp.below hb
  have hx : ((w.alloc (.cells #[.slice (some ⟨tb, 0, none⟩) 1 ct, .slice (some ⟨kb, 0, none⟩) 1 ck] 51)).alloc (.cells #[.string ⟨#[97]⟩] 9)).cell? ⟨w.heap.size + 1, 0, none⟩ = some (.string ⟨#[97]⟩) := by simp
  have HX := Lib.hid (index_tag ⟨#[97]⟩ (w.heap.size + 1) tb ct _ hx hq.1 hq.2.1)
  have HB := Lib.hid hb
  clear hp hq hx hb
  unfold prV
  go_enter Tryz.func57, Tryz.ntmps57
  go_wp2_with fail
  refine HX.out.mono ?_
  rintro e w1 ⟨rfl, hb1⟩
  have HB1 := Lib.hid (HB.out.trans (hb1.mono HB.out.size))
  clear hb1
  go_wp2_with fail
  go_returns
  exact ⟨by simp, HB1.out⟩
theorem clos_kind (s : ByteArray) (b : Nat) (w : World) (hb : w.cell? ⟨b, 0, none⟩ = some (.string s)) : Calls Tryz.prog 90 #[.agg #[.string s, .slice none 0 0], .pointer (some ⟨b, 0, none⟩)] w fun e w' => e = .returned (.bool true) ∧ Below w.heap.size w w' := by
  have hlt := World.block_lt_of_cell? w _ hb
  go_enter Tryz.func90, Tryz.ntmps90
  go_wp2
  go_returns
  exact ⟨by simp, (Below.refl _ _).alloc (Nat.le_refl _) _⟩
set_option maxRecDepth 20000 in
theorem index_kind (s : ByteArray) (b tb ct : Nat) (w : World) (hb : w.cell? ⟨b, 0, none⟩ = some (.string s)) (h0 : w.cell? ⟨tb, 0, none⟩ = some (.string s)) (h1 : w.cell? ⟨tb, 1, none⟩ = some (.slice none 0 0)) :
    Calls Tryz.prog 89 #[.slice (some ⟨tb, 0, none⟩) 1 ct, .func (.func 90) #[] #[.pointer (some ⟨b, 0, none⟩)]] w fun e w' => e = .returned (.int .i64 0) ∧ Below w.heap.size w w' := by
  have HC := Lib.hid (clos_kind s b w hb)
  clear hb
  go_enter Tryz.func89, Tryz.ntmps89
  go_wp2_with fail
  go_loopw [5, 8] (fun _ i wr => i = .int .i64 0 ∧ wr = w) (fun _ _ _ => 0)
  case atStart => exact ⟨rfl, rfl⟩
  case round =>
    obtain ⟨rfl, rfl⟩ := hrel
    go_wp2_with fail
    refine HC.out.mono ?_
    rintro e w1 ⟨rfl, hb1⟩
    go_wp2_with fail
    go_returns
    exact ⟨rfl, hb1⟩
set_option maxRecDepth 20000 in
theorem find_kind (tb ct kb ck : Nat) (w : World) (hp : Pr w tb kb) : Calls Tryz.prog 61 #[prV tb ct kb ck, .string ⟨#[107]⟩] w fun e w' => e = .returned (.tuple #[.int .i64 0, .bool true]) ∧ Below w.heap.size w w' := by
  have hb : Below w.heap.size w ((w.alloc (.cells #[.slice (some ⟨tb, 0, none⟩) 1 ct, .slice (some ⟨kb, 0, none⟩) 1 ck] 51)).alloc (.cells #[.string ⟨#[107]⟩] 9)) := by go_grown
  have hq := hp.below hb
  have hx : ((w.alloc (.cells #[.slice (some ⟨tb, 0, none⟩) 1 ct, .slice (some ⟨kb, 0, none⟩) 1 ck] 51)).alloc (.cells #[.string ⟨#[107]⟩] 9)).cell? ⟨w.heap.size + 1, 0, none⟩ = some (.string ⟨#[107]⟩) := by simp
  have HX := Lib.hid (index_kind ⟨#[107]⟩ (w.heap.size + 1) kb ck _ hx hq.2.2.1 hq.2.2.2)
  have HB := Lib.hid hb
  clear hp hq hx hb
  unfold prV
  go_enter Tryz.func61, Tryz.ntmps61
  go_wp2_with fail
  refine HX.out.mono ?_
  rintro e w1 ⟨rfl, hb1⟩
  have HB1 := Lib.hid (HB.out.trans (hb1.mono HB.out.size))
  clear hb1
  go_wp2_with fail
  go_returns
  exact ⟨by simp, HB1.out⟩
end Go.Proofs.YthipgipmhjebmaaGreatDoor.Pol
