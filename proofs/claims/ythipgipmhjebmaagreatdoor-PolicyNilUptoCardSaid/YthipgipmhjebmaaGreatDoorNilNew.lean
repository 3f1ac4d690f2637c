/- valid.Check and system.New of the small program. -/
import Derived.Test.YthipgipmhjebmaaGreatDoorNilCheck
namespace Go.Proofs.YthipgipmhjebmaaGreatDoor.Pol
open Go.RowKit Go.Proofs.YthipgipmhjebmaaGreatDoorW.PrintWords
set_option linter.unusedVariables false
set_option linter.unusedSimpArgs false

def z7 : Array Value := #[.int .i64 0, .int .i64 0, .int .i64 0, .int .i64 0, .int .i64 0, .int .i64 0, .int .i64 0]
set_option maxRecDepth 20000 in
set_option maxHeartbeats 2000000 in
theorem check_any (tb ct kb ck : Nat) (w : World) (hp : Pr w tb kb) : Calls Tryz.prog 13 #[prV tb ct kb ck] w fun e w' => e = .returned (.tuple #[.agg z7, .int .i64 0]) ∧ Below w.heap.size w w' := by
  have HP := Lib.hid hp
  obtain ⟨W1, hW1⟩ : ∃ W1, W1 = (w.alloc (.cells #[.slice (some ⟨tb, 0, none⟩) 1 ct, .slice (some ⟨kb, 0, none⟩) 1 ck] 51)).alloc (.cells z7 87) := ⟨_, rfl⟩
  have b0 : Blk W1 w.heap.size 51 #[.slice (some ⟨tb, 0, none⟩) 1 ct, .slice (some ⟨kb, 0, none⟩) 1 ck] := by rw [hW1]; exact (Blk.new w _ _).alloc _
  have b1 : Blk W1 (w.heap.size + 1) 87 z7 := by rw [hW1]; simpa using Blk.new (w.alloc (.cells #[.slice (some ⟨tb, 0, none⟩) 1 ct, .slice (some ⟨kb, 0, none⟩) 1 ck] 51)) 87 z7
  have hb : Below w.heap.size w W1 := by rw [hW1]; go_grown
  unfold z7 at hW1
  have HW1 := Lib.hid hW1
  have HB0 := Lib.hid b0
  have HB1 := Lib.hid b1
  have HB := Lib.hid hb
  clear hp hW1 b0 b1 hb
  unfold prV
  go_enter Tryz.func13, Tryz.ntmps13
  go_wp2_with fail
  have e0 := HW1.out
  rw [← e0]
  clear e0
  have hsz : w.heap.size + 2 = W1.heap.size := by rw [HW1.out]; simp
  have HSZ := Lib.hid hsz
  clear hsz HW1
  obtain ⟨wo, rfl⟩ : ∃ wo : World, wo = W1 := ⟨_, rfl⟩
  go_loopw [37] (fun i wr => ∃ k : Nat, i = .int .i64 k ∧ k ≤ 1 ∧ Below wo.heap.size wo wr) (fun i _ => 1 - (intOf i).toNat)
  case atStart => exact ⟨0, rfl, by omega, Below.refl _ _⟩
  case round =>
    obtain ⟨k, rfl, hk, hbr⟩ := hrel
    have HBR := Lib.hid hbr
    clear hbr
    have d0 := HB0.out.below HBR.out HB0.out.lt
    have x0 := d0.cell 0
    have x1 := d0.cell 1
    simp at x0 x1
    clear d0
    rcases (by omega : k = 0 ∨ k = 1) with rfl | rfl
    · have HT := Lib.hid (tag_any tb ct kb ck wr (HP.out.below (HB.out.trans (HBR.out.mono HB.out.size))))
      unfold prV at HT
      go_wp2_with fail
      refine HT.out.mono ?_
      rintro e w2 ⟨rfl, hb2⟩
      have HB2 := Lib.hid (HBR.out.trans (hb2.mono HBR.out.size))
      clear hb2
      go_wp2_with fail
      go_roundw
      case rel => exact ⟨1, rfl, by omega, HB2.out⟩
      case measure => simp [intOf]
    · go_wp2_with fail
      clear x0 x1
      go_loopw [52] (fun i wq => ∃ k : Nat, i = .int .i64 k ∧ k ≤ 1 ∧ Below wo.heap.size wo wq) (fun i _ => 1 - (intOf i).toNat)
      case atStart => exact ⟨0, rfl, by omega, HBR.out⟩
      case round =>
        clear HBR
        obtain ⟨k, rfl, hk, hbr⟩ := hrel
        have HBR := Lib.hid hbr
        clear hbr
        have d0 := HB0.out.below HBR.out HB0.out.lt
        have x0 := d0.cell 0
        have x1 := d0.cell 1
        simp at x0 x1
        clear d0
        rcases (by omega : k = 0 ∨ k = 1) with rfl | rfl
        · have HT := Lib.hid (kind_any tb ct kb ck wr (HP.out.below (HB.out.trans (HBR.out.mono HB.out.size))))
          unfold prV at HT
          go_wp2_with fail
          refine HT.out.mono ?_
          rintro e w2 ⟨rfl, hb2⟩
          have HB2 := Lib.hid (HBR.out.trans (hb2.mono HBR.out.size))
          have d0 := HB0.out.below HB2.out HB0.out.lt
          have x0 := d0.cell 0
          have x1 := d0.cell 1
          simp at x0 x1
          have HC := Lib.hid (chords_any tb ct kb ck w2 (HP.out.below (HB.out.trans (HB2.out.mono HB.out.size))))
          unfold prV at HC
          clear hb2 d0 HT
          go_wp2_with fail
          refine HC.out.mono ?_
          rintro e w3 ⟨rfl, hb3⟩
          have HB3 := Lib.hid (HB2.out.trans (hb3.mono HB2.out.size))
          have hb4 := HB3.out
          clear hb3
          go_wp2_with fail
          go_roundw
          case rel =>
            have hfin : Below wo.heap.size wo (w3.alloc (.cells #[.int .i64 0, .int .i64 0, .int .i64 0, .int .i64 0, .int .i64 0, .int .i64 0, .int .i64 0] 87)) := hb4.alloc hb4.size _
            exact ⟨_, _, _, _, _, _, _, _, _, _, _, _, _, _, _, _, _, _, _, _, _, _, _, _, _, _, _, ⟨1, rfl, by omega, hfin⟩, rfl⟩
          case measure => simp [intOf]
        · have d1 := HB1.out.below HBR.out HB1.out.lt
          unfold z7 at d1
          have f1 := fun i => d1.frozen i
          have y0 := d1.cell 0
          have y1 := d1.cell 1
          have y2 := d1.cell 2
          have y3 := d1.cell 3
          have y4 := d1.cell 4
          have y5 := d1.cell 5
          have y6 := d1.cell 6
          simp at y0 y1 y2 y3 y4 y5 y6
          go_wp2_with fail
          have e1 := ((((((d1.set_ 0 (.int .i64 0)).set_ 1 (.int .i64 0)).set_ 2 (.int .i64 0)).set_ 3 (.int .i64 0)).set_ 4 (.int .i64 0)).set_ 5 (.int .i64 0)).set_ 6 (.int .i64 0)
          refine bodyPost_ret (results_ct rfl _ _ (w.heap.size + 1) 87 z7 (0, 0) _ rfl (show Blk _ (w.heap.size + 1) 87 z7 from by simpa [z7] using e1) Tryz.underlying87 rfl (by kernel_rfl)) rfl ?_
          have hbq := HB.out.trans (HBR.out.mono HB.out.size)
          exact ⟨rfl, by go_grown⟩
end Go.Proofs.YthipgipmhjebmaaGreatDoor.Pol
