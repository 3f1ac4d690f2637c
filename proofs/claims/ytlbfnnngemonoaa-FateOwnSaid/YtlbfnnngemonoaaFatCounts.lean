/- (*fate.Book).Counts. -/
import Derived.Test.YtlbfnnngemonoaaFatCount
namespace Go.Proofs.Ytlbfnnngemonoaa.Fat
open Go.RowKit Go.Proofs.Ytlbfnnngemonoaa.PFateBooks
open Go.Proofs.YtlbfnnngemonoaaW.PrintWords Go.Proofs.YtlbfnnngemonoaaW.PrintLast Go.Proofs.YtlbfnnngemonoaaW.PrintMore
set_option linter.unusedVariables false
set_option linter.unusedSimpArgs false
theorem st_of (t : S134) (k : Nat) : (fateOf t k).f1 = (gOf t k).f1 := by
  unfold fateOf gOf
  split
  · rfl
  · split <;> rfl
theorem st_in (t : S134) (k : Nat) : (gOf t k).f1 = 1 ∨ (gOf t k).f1 = 2 ∨ (gOf t k).f1 = 3 := by
  unfold gOf
  split
  · exact .inl rfl
  · split
    · exact .inr (.inl rfl)
    · exact .inr (.inr rfl)

set_option maxRecDepth 20000 in
set_option maxHeartbeats 1000000 in
theorem counts_nil (w : World) : Calls Try.prog 46 #[.pointer none] w fun e w' => e = .returned (.tuple #[.int .i64 0, .int .i64 0, .int .i64 0]) ∧ Below w.heap.size w w' := by
  go_enter Try.func46, Try.ntmps46
  go_upto_region 8 with fail
  have h5 := Blk.new w 135 #[.int .i64 0, .int .i64 0, .int .i64 0, .int .i64 0]
  have hb := (Below.refl w.heap.size w).alloc (Nat.le_refl _) (.cells #[.int .i64 0, .int .i64 0, .int .i64 0, .int .i64 0] 135)
  generalize hg : w.heap.size = g5 at h5 ⊢
  rw [hg] at hb
  generalize w.alloc (.cells #[.int .i64 0, .int .i64 0, .int .i64 0, .int .i64 0] 135) = w1 at h5 hb ⊢
  have z1 := h5.cell 1
  have z2 := h5.cell 2
  have z3 := h5.cell 3
  simp at z1 z2 z3
  go_quiet (fail)
  go_wp2_with fail
  first | go_ret3 | go_ret
  exact ⟨rfl, by first | exact pw_below_drewN hb nq | (rw [hg]; exact pw_below_drewN hb nq)⟩

set_option maxRecDepth 20000 in
set_option maxHeartbeats 2000000 in
theorem counts_any (p : Nat) (S : List Nat) (ts : List S134) (n : Int) (w : World) (hK : Bk w p S ts n) (hl : ts.length * 40 ≤ 140737488355328) :
    Calls Try.prog 46 #[.pointer (some ⟨p, 0, none⟩)] w fun e w' => e = .returned (.tuple #[.int .i64 (cntTo ts 1 ts.length), .int .i64 (cntTo ts 2 ts.length), .int .i64 (cntTo ts 3 ts.length)]) ∧ Below w.heap.size w w' := by
  obtain ⟨v, rfl, hB, hR⟩ := hK
  obtain ⟨A, c, rfl⟩ := Kd.R_slice hR
  have hCr := (Kd.R_reads' hR).2.2
  rw [FF_len] at hB hCr
  have HB := Lib.hid hB
  have HC := Lib.hid hCr
  have hlb := hB.lt
  clear hB hR hCr
  go_enter Try.func46, Try.ntmps46
  go_upto_region 2 with fail
  have h5 := Blk.new w 135 #[.int .i64 0, .int .i64 0, .int .i64 0, .int .i64 0]
  have hb := (Below.refl w.heap.size w).alloc (Nat.le_refl _) (.cells #[.int .i64 0, .int .i64 0, .int .i64 0, .int .i64 0] 135)
  have hg5 : w.heap.size ≤ w.heap.size := Nat.le_refl _
  obtain ⟨g5, hg⟩ : ∃ g5 : Nat, g5 = w.heap.size := ⟨_, rfl⟩
  rw [← hg] at h5
  have hc0 := (HB.out.below hb HB.out.lt).cell 0
  simp at hc0
  have hgle : w.heap.size ≤ g5 := by omega
  have hgo : (Value.pointer (some ⟨w.heap.size, 0, none⟩)) = .pointer (some ⟨g5, 0, none⟩) := by rw [hg]
  rw [hgo]
  clear hg5 hgo hg
  have hg5 := hgle
  clear hgle
  generalize w.alloc (.cells #[.int .i64 0, .int .i64 0, .int .i64 0, .int .i64 0] 135) = w1 at h5 hb hc0 ⊢
  go_wp2_with fail
  go_loopw [15] (fun i W => ∃ (k a b d : Nat), k ≤ ts.length ∧ i = .int .i64 k ∧ a ≤ k ∧ b ≤ k ∧ d ≤ k ∧ Hid (Blk W g5 135 #[.int .i64 0, .int .i64 a, .int .i64 b, .int .i64 d]) ∧ Hid (Below w.heap.size w W) ∧ Hid (cntTo ts 1 k = a ∧ cntTo ts 2 k = b ∧ cntTo ts 3 k = d)) (fun i _ => ts.length - (intOf i).toNat)
  case atStart => exact ⟨0, 0, 0, 0, Nat.zero_le _, rfl, Nat.le_refl _, Nat.le_refl _, Nat.le_refl _, Lib.hid h5, Lib.hid hb, Lib.hid ⟨rfl, rfl, rfl⟩⟩
  case round =>
    clear h5 hb hc0
    obtain ⟨k, a, b, d, hk, rfl, ha, hbk, hd, H5, HBw, HQ⟩ := hrel
    by_cases hlt : k < ts.length
    · have b0 : decide ((k : Int) < (ts.length : Int)) = true := by simp; omega
      have hki : (k : Int) < (ts.length : Int) := by omega
      obtain ⟨ad, hA, y0, y1, y2, y3, y4⟩ := at_43 (Kd.C_below HC.out HBw.out) k hlt
      subst hA
      have hs := st_of (ts.getD k z134) k
      have hin := st_in (ts.getD k z134) k
      obtain ⟨sv, hsv⟩ : ∃ sv, (gOf (ts.getD k z134) k).f1 = sv := ⟨_, rfl⟩
      rw [hsv] at hs hin
      have HST := Lib.hid hsv
      rw [hs] at y1
      generalize fateOf (ts.getD k z134) k = f at y0 y1 y2 y3 y4 hs
      clear hsv hs
      have HWN : Hid (wrap64 ((k : Int) + 1) = ((k + 1 : Nat) : Int)) := Lib.hid (w64n k (by omega))
      go_upto_region 6 with fail
      have h7 := Blk.new wr 43 #[.int .i64 f.f0, .int .i64 sv, .int .i64 f.f2, .int .i64 f.f3, .int .i64 f.f4]
      have h5 := H5.out.alloc (.cells #[.int .i64 f.f0, .int .i64 sv, .int .i64 f.f2, .int .i64 f.f3, .int .i64 f.f4] 43)
      have hb7 := HBw.out.alloc HBw.out.size (.cells #[.int .i64 f.f0, .int .i64 sv, .int .i64 f.f2, .int .i64 f.f3, .int .i64 f.f4] 43)
      generalize wr.heap.size = g7 at h7 ⊢
      generalize wr.alloc (.cells #[.int .i64 f.f0, .int .i64 sv, .int .i64 f.f2, .int .i64 f.f3, .int .i64 f.f4] 43) = w7 at h7 h5 hb7 ⊢
      have z1 := h7.cell 1
      simp at z1
      clear y0 y1 y2 y3 y4 b0 H5 HBw h7
      rcases hin with rfl | rfl | rfl
      · skip
        have c1 := h5.cell 1
        have fr := h5.frozen 1
        simp at c1
        have hS : Blk (w7.setCell ⟨g5, 1, none⟩ (.int .i64 ((a : Int) + 1))) g5 135 #[.int .i64 0, .int .i64 ((a : Int) + 1), .int .i64 b, .int .i64 d] := by
          have h := h5.set_ 1 (.int .i64 ((a : Int) + 1))
          simpa using h
        have hC7 : Below w.heap.size w (w7.setCell ⟨g5, 1, none⟩ (.int .i64 ((a : Int) + 1))) := hb7.trans (((Chg.refl [g5] w7).setCell (p := ⟨g5, 1, none⟩) (.inl (by simp)) _).below hb7.size (by simpa using hg5))
        have hwq : wrap64 ((a : Int) + 1) = (a : Int) + 1 := w64n a (by omega)
        have HWQ := Lib.hid hwq
        clear hwq
        go_wp2_with fail
        have HX : Hid (cntTo ts 1 (k + 1) = a + 1 ∧ cntTo ts 2 (k + 1) = b ∧ cntTo ts 3 (k + 1) = d) := Lib.hid (by
          obtain ⟨q1, q2, q3⟩ := HQ.out
          have e := HST.out
          refine ⟨?_, ?_, ?_⟩ <;> rw [cntTo, e] <;> simp <;> omega)
        go_roundw
        case rel => exact ⟨k + 1, a + 1, b, d, by omega, by first | rfl | (rw [HWN.out]), by omega, by omega, by omega, Lib.hid (by first | exact hS | (rw [HWQ.out]; exact hS)), Lib.hid (by first | exact hC7 | (rw [HWQ.out]; exact hC7)), HX⟩
        case measure =>
          first | rw [HWN.out] | skip
          simp [intOf]
          omega
      · skip
        have c2 := h5.cell 2
        have fr := h5.frozen 2
        simp at c2
        have hS : Blk (w7.setCell ⟨g5, 2, none⟩ (.int .i64 ((b : Int) + 1))) g5 135 #[.int .i64 0, .int .i64 a, .int .i64 ((b : Int) + 1), .int .i64 d] := by
          have h := h5.set_ 2 (.int .i64 ((b : Int) + 1))
          simpa using h
        have hC7 : Below w.heap.size w (w7.setCell ⟨g5, 2, none⟩ (.int .i64 ((b : Int) + 1))) := hb7.trans (((Chg.refl [g5] w7).setCell (p := ⟨g5, 2, none⟩) (.inl (by simp)) _).below hb7.size (by simpa using hg5))
        have hwq : wrap64 ((b : Int) + 1) = (b : Int) + 1 := w64n b (by omega)
        have HWQ := Lib.hid hwq
        clear hwq
        go_wp2_with fail
        have HX : Hid (cntTo ts 1 (k + 1) = a ∧ cntTo ts 2 (k + 1) = b + 1 ∧ cntTo ts 3 (k + 1) = d) := Lib.hid (by
          obtain ⟨q1, q2, q3⟩ := HQ.out
          have e := HST.out
          refine ⟨?_, ?_, ?_⟩ <;> rw [cntTo, e] <;> simp <;> omega)
        go_roundw
        case rel => exact ⟨k + 1, a, b + 1, d, by omega, by first | rfl | (rw [HWN.out]), by omega, by omega, by omega, Lib.hid (by first | exact hS | (rw [HWQ.out]; exact hS)), Lib.hid (by first | exact hC7 | (rw [HWQ.out]; exact hC7)), HX⟩
        case measure =>
          first | rw [HWN.out] | skip
          simp [intOf]
          omega
      · skip
        have c3 := h5.cell 3
        have fr := h5.frozen 3
        simp at c3
        have hS : Blk (w7.setCell ⟨g5, 3, none⟩ (.int .i64 ((d : Int) + 1))) g5 135 #[.int .i64 0, .int .i64 a, .int .i64 b, .int .i64 ((d : Int) + 1)] := by
          have h := h5.set_ 3 (.int .i64 ((d : Int) + 1))
          simpa using h
        have hC7 : Below w.heap.size w (w7.setCell ⟨g5, 3, none⟩ (.int .i64 ((d : Int) + 1))) := hb7.trans (((Chg.refl [g5] w7).setCell (p := ⟨g5, 3, none⟩) (.inl (by simp)) _).below hb7.size (by simpa using hg5))
        have hwq : wrap64 ((d : Int) + 1) = (d : Int) + 1 := w64n d (by omega)
        have HWQ := Lib.hid hwq
        clear hwq
        go_wp2_with fail
        have HX : Hid (cntTo ts 1 (k + 1) = a ∧ cntTo ts 2 (k + 1) = b ∧ cntTo ts 3 (k + 1) = d + 1) := Lib.hid (by
          obtain ⟨q1, q2, q3⟩ := HQ.out
          have e := HST.out
          refine ⟨?_, ?_, ?_⟩ <;> rw [cntTo, e] <;> simp <;> omega)
        go_roundw
        case rel => exact ⟨k + 1, a, b, d + 1, by omega, by first | rfl | (rw [HWN.out]), by omega, by omega, by omega, Lib.hid (by first | exact hS | (rw [HWQ.out]; exact hS)), Lib.hid (by first | exact hC7 | (rw [HWQ.out]; exact hC7)), HX⟩
        case measure =>
          first | rw [HWN.out] | skip
          simp [intOf]
          omega
    · have b0 : decide ((k : Int) < (ts.length : Int)) = false := by simp; omega
      obtain rfl : k = ts.length := by omega
      go_upto_region 8 with fail
      have z1 := H5.out.cell 1
      have z2 := H5.out.cell 2
      have z3 := H5.out.cell 3
      simp at z1 z2 z3
      go_quiet (fail)
      go_wp2_with fail
      obtain ⟨q1, q2, q3⟩ := HQ.out
      go_ret3
      rw [q1, q2, q3]
      exact ⟨rfl, pw_below_drewN HBw.out nq⟩
end Go.Proofs.Ytlbfnnngemonoaa.Fat
