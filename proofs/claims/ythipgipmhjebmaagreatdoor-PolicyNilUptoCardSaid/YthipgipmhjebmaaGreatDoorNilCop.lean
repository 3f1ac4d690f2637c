/- system.copied of the small program. -/
import Derived.Test.YthipgipmhjebmaaGreatDoorNilNew
import Derived.Test.YthipgipmhjebmaaGreatDoorPolWords
namespace Go.Proofs.YthipgipmhjebmaaGreatDoor.Pol
open Go.RowKit Go.Proofs.YthipgipmhjebmaaGreatDoorW.PrintWords
set_option linter.unusedVariables false
set_option linter.unusedSimpArgs false

set_option maxRecDepth 20000 in
theorem clone31 (w : World) : Calls Tryz.prog 31 #[.slice none 0 0] w fun e w' => e = .returned (.slice none 0 0) ∧ w' = w := by
  have h : ∀ W : World, (binOp .eql 42 (.slice none 0 0) (.slice none 0 0)).run Tryz.prog W = .ok (.bool true) W := fun W => by kernel_rfl
  go_enter Tryz.func31, Tryz.ntmps31
  go_wp2
  go_returns
  exact ⟨rfl, rfl⟩
set_option maxRecDepth 20000 in
theorem clone34 (w : World) : Calls Tryz.prog 34 #[.slice none 0 0] w fun e w' => e = .returned (.slice none 0 0) ∧ w' = w := by
  have h : ∀ W : World, (binOp .eql 46 (.slice none 0 0) (.slice none 0 0)).run Tryz.prog W = .ok (.bool true) W := fun W => by kernel_rfl
  go_enter Tryz.func34, Tryz.ntmps34
  go_wp2
  go_returns
  exact ⟨rfl, rfl⟩
theorem info44 : (Tryz.prog.info? 44).map (fun i => (i.zero, i.size, i.bytes)) = some (some (.agg #[.string { data := #[] }, .slice none 0 0]), 2, 40) := by kernel_rfl
theorem info48 : (Tryz.prog.info? 48).map (fun i => (i.zero, i.size, i.bytes)) = some (some (.agg #[.string { data := #[] }, .slice none 0 0]), 2, 40) := by kernel_rfl
theorem reads_new2 (W : World) (a b : Value) (t : TypeId) : Reads (W.alloc (.cells #[a, b] t)) (W.heap.size + 1) 2 (some ⟨W.heap.size, 0, none⟩) 1 [a, b] := by
  refine ⟨rfl, fun _ => ⟨_, rfl, by simp, fun j u hj => ?_⟩⟩
  have h1 := (Blk.new W t #[a, b]).cell j
  rw [show (⟨W.heap.size, 0, none⟩ : Addr).add j = ⟨W.heap.size, j, none⟩ from by unfold Addr.add; by_cases hj : j = 0 <;> simp [hj], h1]
  simpa using hj
theorem Blk.grown0 {w w' : World} {g : Nat} {t : TypeId} {cs : Array Value} (h : Blk w g t cs) (hg : w.grownBy w' none) : Blk w' g t cs := (hg.block g h.lt (by simp)).trans h
theorem below_grown0 {B : Nat} {w w' w2 : World} (h : Below B w w') (hg : w'.grownBy w2 none) (hB : B ≤ w.heap.size) : Below B w w2 := h.grown hg (Nat.le_trans hB h.size) (fun k e => by cases e)

set_option maxRecDepth 20000 in
set_option maxHeartbeats 4000000 in
theorem copied_any (tb ct kb ck : Nat) (w : World) (hp : Pr w tb kb) : Calls Tryz.prog 14 #[prV tb ct kb ck] w fun e w' => ∃ r0 c0 r1 c1, e = .returned (prV r0 c0 r1 c1) ∧ Below w.heap.size w w' := by
  obtain ⟨i0, hi, he⟩ := Option.map_eq_some_iff.1 info44
  simp only [Prod.mk.injEq] at he
  have HI := Lib.hid (And.intro hi he)
  clear hi he
  obtain ⟨i1, hi, he⟩ := Option.map_eq_some_iff.1 info48
  simp only [Prod.mk.injEq] at he
  have HJ := Lib.hid (And.intro hi he)
  clear hi he
  have HP := Lib.hid hp
  obtain ⟨W1, hW1⟩ : ∃ W1, W1 = (w.alloc (.cells #[.slice (some ⟨tb, 0, none⟩) 1 ct, .slice (some ⟨kb, 0, none⟩) 1 ck] 51)).alloc (.cells #[.slice none 0 0, .slice none 0 0] 51) := ⟨_, rfl⟩
  have b0 : Blk W1 w.heap.size 51 #[.slice (some ⟨tb, 0, none⟩) 1 ct, .slice (some ⟨kb, 0, none⟩) 1 ck] := by rw [hW1]; exact (Blk.new w _ _).alloc _
  have b1 : Blk W1 (w.heap.size + 1) 51 #[.slice none 0 0, .slice none 0 0] := by rw [hW1]; simpa using Blk.new (w.alloc (.cells #[.slice (some ⟨tb, 0, none⟩) 1 ct, .slice (some ⟨kb, 0, none⟩) 1 ck] 51)) 51 #[.slice none 0 0, .slice none 0 0]
  have hb : Below w.heap.size w W1 := by rw [hW1]; go_grown
  have HW1 := Lib.hid hW1
  have HB0 := Lib.hid b0
  have HB1 := Lib.hid b1
  have HB := Lib.hid hb
  have HSZ := Lib.hid (show W1.heap.size = w.heap.size + 2 by rw [hW1]; simp)
  clear hp hW1 b0 b1 hb
  unfold prV
  go_enter Tryz.func14, Tryz.ntmps14
  go_wp2_with fail
  have e0 := HW1.out
  rw [← e0]
  clear e0 HW1
  go_loopw [17] (fun i wr => Blk wr w.heap.size 51 #[.slice (some ⟨tb, 0, none⟩) 1 ct, .slice (some ⟨kb, 0, none⟩) 1 ck] ∧ Below w.heap.size w wr ∧ w.heap.size + 2 ≤ wr.heap.size ∧ ((i = .int .i64 0 ∧ Blk wr (w.heap.size + 1) 51 #[.slice none 0 0, .slice none 0 0]) ∨ (i = .int .i64 1 ∧ ∃ r0 c0, Blk wr (w.heap.size + 1) 51 #[.slice (some ⟨r0, 0, none⟩) 1 c0, .slice none 0 0]))) (fun i _ => 1 - (intOf i).toNat)
  case atStart => exact ⟨HB0.out, HB.out, by rw [HSZ.out]; exact Nat.le_refl _, .inl ⟨rfl, HB1.out⟩⟩
  case round =>
    clear HB0 HB1 HB HSZ
    obtain ⟨d0, hb, hsz, hrel⟩ := hrel
    have HD0 := Lib.hid d0
    have HB := Lib.hid hb
    have hq := HP.out.below hb
    have HQ := Lib.hid hq
    have x0 := d0.cell 0
    have x1 := d0.cell 1
    simp at x0 x1
    clear d0 hb
    rcases hrel with ⟨rfl, d1⟩ | ⟨rfl, r0, c0, d1⟩
    · have y0 := d1.cell 0
      have f1 := fun i => d1.frozen i
      have HD1 := Lib.hid d1
      simp at y0
      have t0 := hq.1
      have t1 := hq.2.1
      have l1 := World.block_lt_of_cell? _ _ y0
      have l0 := World.block_lt_of_cell? _ _ x0
      simp only at l1 l0
      clear d1 hq
      go_wp2_with fail
      refine (clone31 _).mono ?_
      rintro e w2 ⟨rfl, rfl⟩
      go_wp2_with (refine wpList_append_any _ rfl (.tmp 26) (.tmp 28) 45 rfl w.heap.size 44 i0 _ 2 40 Tryz.underlying45 HI.out.1 HI.out.2.1 HI.out.2.2.1 HI.out.2.2.2 rfl (by decide) (.slice none 0 0) 0 [] rfl ⟨rfl, .inl ⟨rfl, rfl⟩⟩ (wr.heap.size + 2) (some ⟨wr.heap.size + 1, 0, none⟩) 1 1 [.string ⟨#[97]⟩, .slice none 0 0] rfl (by simpa using reads_new2 (wr.alloc (.cells #[.string ⟨#[97]⟩, .slice none 0 0] 44)) (.string ⟨#[97]⟩) (.slice none 0 0) 44) (by simp [Value.oneCell']) (by simp only [maxLen]; omega) (by omega) (by simp; omega) ?_; intro v' w3 hown hg hob; have HG := Lib.hid hg; obtain ⟨r0, c0, rfl⟩ := ownsRow_succ hown; have d3 := ((HD1.out.alloc (.cells #[.string ⟨#[97]⟩, .slice none 0 0] 44)).alloc (.cells #[.string ⟨#[97]⟩, .slice none 0 0] 44)).grown0 HG.out; have z0 := d3.cell 0; have z1 := d3.cell 1; have f3 := fun i => d3.frozen i; simp at z0 z1; clear hown hg hob)
      have d4 := (((HD0.out.alloc (.cells #[.string ⟨#[97]⟩, .slice none 0 0] 44)).alloc (.cells #[.string ⟨#[97]⟩, .slice none 0 0] 44)).grown0 HG.out).far (p := ⟨w.heap.size + 1, 0, none⟩) (by simp) (.slice (some ⟨r0, 0, none⟩) 1 c0)
      have hb3 := (below_grown0 ((HB.out.alloc HB.out.size (.cells #[.string ⟨#[97]⟩, .slice none 0 0] 44)).alloc (by have := HB.out.size; simp; omega) (.cells #[.string ⟨#[97]⟩, .slice none 0 0] 44)) HG.out (Nat.le_refl _)).setCell (p := ⟨w.heap.size + 1, 0, none⟩) (by simp) (.slice (some ⟨r0, 0, none⟩) 1 c0)
      have hs3 : w.heap.size + 2 ≤ (w3.setCell ⟨w.heap.size + 1, 0, none⟩ (.slice (some ⟨r0, 0, none⟩) 1 c0)).heap.size := by have := HG.out.size; simp at this ⊢; omega
      exact ⟨⟨d4, hb3, hs3, .inr ⟨rfl, r0, c0, by simpa using d3.set_ 0 (.slice (some ⟨r0, 0, none⟩) 1 c0)⟩⟩, by simp [intOf]⟩
    · have HD1 := Lib.hid d1
      clear d1 hq
      go_wp2_with fail
      clear x0 x1
      go_loopw [35] (fun i wr => Blk wr w.heap.size 51 #[.slice (some ⟨tb, 0, none⟩) 1 ct, .slice (some ⟨kb, 0, none⟩) 1 ck] ∧ Below w.heap.size w wr ∧ w.heap.size + 2 ≤ wr.heap.size ∧ ((i = .int .i64 0 ∧ Blk wr (w.heap.size + 1) 51 #[.slice (some ⟨r0, 0, none⟩) 1 c0, .slice none 0 0]) ∨ (i = .int .i64 1 ∧ ∃ r1 c1, Blk wr (w.heap.size + 1) 51 #[.slice (some ⟨r0, 0, none⟩) 1 c0, .slice (some ⟨r1, 0, none⟩) 1 c1]))) (fun i _ => 1 - (intOf i).toNat)
      case atStart => exact ⟨HD0.out, HB.out, hsz, .inl ⟨rfl, HD1.out⟩⟩
      case round =>
        clear HD0 HB hsz HD1 HQ
        obtain ⟨d0, hb, hsz, hrel⟩ := hrel
        have HD0 := Lib.hid d0
        have HB := Lib.hid hb
        have hq := HP.out.below hb
        have x0 := d0.cell 0
        have x1 := d0.cell 1
        simp at x0 x1
        clear d0 hb
        rcases hrel with ⟨rfl, d1⟩ | ⟨rfl, r1, c1, d1⟩
        · have y0 := d1.cell 0
          have y1 := d1.cell 1
          have f1 := fun i => d1.frozen i
          have HD1 := Lib.hid d1
          simp at y0 y1
          have t0 := hq.2.2.1
          have t1 := hq.2.2.2
          have l1 := World.block_lt_of_cell? _ _ y0
          have l0 := World.block_lt_of_cell? _ _ x0
          simp only at l1 l0
          clear d1 hq
          go_wp2_with fail
          refine (clone34 _).mono ?_
          rintro e w2 ⟨rfl, rfl⟩
          go_wp2_with fail
          go_loopw [46] (fun i wq => i = .int .i64 0 ∧ wq = wr.alloc (.cells #[.string ⟨#[107]⟩, .slice none 0 0] 48)) (fun _ _ => 0)
          case atStart => exact ⟨rfl, rfl⟩
          case round =>
            obtain ⟨rfl, rfl⟩ := hrel
            go_wp2_with (refine wpList_append_any _ rfl (.tmp 131) (.tmp 133) 49 rfl w.heap.size 48 i1 _ 2 40 Tryz.underlying49 HJ.out.1 HJ.out.2.1 HJ.out.2.2.1 HJ.out.2.2.2 rfl (by decide) (.slice none 0 0) 0 [] rfl ⟨rfl, .inl ⟨rfl, rfl⟩⟩ (_ + 2) (some ⟨_ + 1, 0, none⟩) 1 1 [.string ⟨#[107]⟩, .slice none 0 0] rfl (by simpa using reads_new2 (World.alloc _ (.cells #[.string ⟨#[107]⟩, .slice none 0 0] 48)) (.string ⟨#[107]⟩) (.slice none 0 0) 48) (by simp [Value.oneCell']) (by simp only [maxLen]; omega) (by omega) (by simp; omega) ?_; intro v' w3 hown hg hob; have HG := Lib.hid hg; obtain ⟨r1, c1, rfl⟩ := ownsRow_succ hown; have d3 := ((HD1.out.alloc (.cells #[.string ⟨#[107]⟩, .slice none 0 0] 48)).alloc (.cells #[.string ⟨#[107]⟩, .slice none 0 0] 48)).grown0 HG.out; have z0 := d3.cell 0; have z1 := d3.cell 1; have f3 := fun i => d3.frozen i; simp at z0 z1; clear hown hg hob)
            have d4 := (((HD0.out.alloc (.cells #[.string ⟨#[107]⟩, .slice none 0 0] 48)).alloc (.cells #[.string ⟨#[107]⟩, .slice none 0 0] 48)).grown0 HG.out).far (p := ⟨w.heap.size + 1, 1, none⟩) (by simp) (.slice (some ⟨r1, 0, none⟩) 1 c1)
            have hb3 := (below_grown0 ((HB.out.alloc HB.out.size (.cells #[.string ⟨#[107]⟩, .slice none 0 0] 48)).alloc (by have := HB.out.size; simp; omega) (.cells #[.string ⟨#[107]⟩, .slice none 0 0] 48)) HG.out (Nat.le_refl _)).setCell (p := ⟨w.heap.size + 1, 1, none⟩) (by simp) (.slice (some ⟨r1, 0, none⟩) 1 c1)
            have hs3 : w.heap.size + 2 ≤ (w3.setCell ⟨w.heap.size + 1, 1, none⟩ (.slice (some ⟨r1, 0, none⟩) 1 c1)).heap.size := by have := HG.out.size; simp at this ⊢; omega
            exact ⟨⟨d4, hb3, hs3, .inr ⟨rfl, r1, c1, by simpa using d3.set_ 1 (.slice (some ⟨r1, 0, none⟩) 1 c1)⟩⟩, by simp [intOf]⟩
        · have y0 := d1.cell 0
          have y1 := d1.cell 1
          have f1 := fun i => d1.frozen i
          have HD1 := Lib.hid d1
          simp at y0 y1
          clear d1 hq
          go_wp2_with fail
          have e1 := (HD1.out.set_ 0 (.slice (some ⟨r0, 0, none⟩) 1 c0)).set_ 1 (.slice (some ⟨r1, 0, none⟩) 1 c1)
          refine bodyPost_ret (results_single rfl (.cell (w.heap.size + 1) 51 #[.slice (some ⟨r0, 0, none⟩) 1 c0, .slice (some ⟨r1, 0, none⟩) 1 c1] (0, 0) _ rfl (show Blk _ (w.heap.size + 1) 51 _ from by simpa using e1) Tryz.underlying51 rfl (by kernel_rfl) .nil)) rfl ?_
          have hbq := HB.out
          exact ⟨r0, c0, r1, c1, rfl, by go_grown⟩
end Go.Proofs.YthipgipmhjebmaaGreatDoor.Pol
