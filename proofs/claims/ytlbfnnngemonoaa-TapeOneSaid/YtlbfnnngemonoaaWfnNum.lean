/- The writers: number, real64. -/
import Derived.Test.YtlbfnnngemonoaaWirVals
namespace Go.Proofs.Ytlbfnnngemonoaa.Wir
open Go.RowKit Go.Proofs.Ytlbfnnngemonoaa.PWireReads
open Go.Proofs.Ytlbfnnngemonoaa.Fat (Blk Chg Off)
open Go.Proofs.YtlbfnnngemonoaaW.PrintWords Go.Proofs.YtlbfnnngemonoaaW.PrintLast Go.Proofs.YtlbfnnngemonoaaW.PrintMore
set_option linter.unusedVariables false
set_option linter.unusedSimpArgs false
attribute [local go_sem] run_store_float run_store_complex

/-- Byte j of 8, the highest first. -/
def nb (n : Int) (j : Nat) : Int := n / 256 ^ (7 - j) % 256
/-- An array of 8 bytes, the first k of them laid. -/
def arr (n : Int) (k : Nat) : Array Value := #[.int .u8 (if 0 < k then nb n 0 else 0), .int .u8 (if 1 < k then nb n 1 else 0), .int .u8 (if 2 < k then nb n 2 else 0), .int .u8 (if 3 < k then nb n 3 else 0), .int .u8 (if 4 < k then nb n 4 else 0), .int .u8 (if 5 < k then nb n 5 else 0), .int .u8 (if 6 < k then nb n 6 else 0), .int .u8 (if 7 < k then nb n 7 else 0)]
def arr8 (n : Int) : Array Value := #[.int .u8 (nb n 0), .int .u8 (nb n 1), .int .u8 (nb n 2), .int .u8 (nb n 3), .int .u8 (nb n 4), .int .u8 (nb n 5), .int .u8 (nb n 6), .int .u8 (nb n 7)]
theorem Blk.cast {w : World} {g : Nat} {t : TypeId} {cs cs' : Array Value} (h : Blk w g t cs) (e : cs = cs') : Blk w g t cs' := e ▸ h
set_option maxRecDepth 20000 in
set_option maxHeartbeats 4000000 in
theorem number_any8 (n : Int) (h0 : 0 ≤ n) (h1 : n < 18446744073709551616) (w : World) : Calls Try.prog 66 #[.int .u64 n] w fun e w' => e = .returned (.agg (arr8 n)) ∧ Below w.heap.size w w' := by
  have HT := Lib.hid (two_new w #[.int .u8 0, .int .u8 0, .int .u8 0, .int .u8 0, .int .u8 0, .int .u8 0, .int .u8 0, .int .u8 0] #[.int .u8 0, .int .u8 0, .int .u8 0, .int .u8 0, .int .u8 0, .int .u8 0, .int .u8 0, .int .u8 0] 120 120)
  go_enter Try.func66, Try.ntmps66
  go_wp2_with fail
  obtain ⟨a0, a1, hb⟩ := HT.out
  generalize hWq : ((w.alloc (.cells #[.int .u8 0, .int .u8 0, .int .u8 0, .int .u8 0, .int .u8 0, .int .u8 0, .int .u8 0, .int .u8 0] 120)).alloc (.cells #[.int .u8 0, .int .u8 0, .int .u8 0, .int .u8 0, .int .u8 0, .int .u8 0, .int .u8 0, .int .u8 0] 120)) = W1 at a0 a1 hb ⊢
  have HA0 := Lib.hid a0
  have HA1 := Lib.hid a1
  have HB := Lib.hid hb
  clear hWq a0 a1 hb HT
  go_loopw [4, 5] (fun i5 i wr => ∃ k : Nat, k ≤ 8 ∧ i = .int .i64 k ∧ Hid (Blk wr w.heap.size 120 #[.int .u8 0, .int .u8 0, .int .u8 0, .int .u8 0, .int .u8 0, .int .u8 0, .int .u8 0, .int .u8 0]) ∧ Hid (Blk wr (w.heap.size + 1) 120 (arr n k)) ∧ Hid (Below w.heap.size w wr)) (fun _ i _ => 8 - (intOf i).toNat)
  case atStart => exact ⟨0, by omega, rfl, HA0, HA1, HB⟩
  case round =>
    clear HA0 HA1 HB
    obtain ⟨k, hk, rfl, HA0, HA1, HB⟩ := hrel
    rcases Nat.lt_or_ge k 8 with hlt | hge
    · rcases k with _ | _ | _ | _ | _ | _ | _ | _ | k
      all_goals try (exfalso; omega)
      · have hx : wr.cell? ⟨w.heap.size + 1, 0, none⟩ = some (.int .u8 0) := by rw [HA1.out.cell]; rfl
        have hfz : wr.frozen? ⟨w.heap.size + 1, 0, none⟩ = false := HA1.out.frozen 0
        go_wp2_with fail
        go_roundw
        case rel =>
          refine ⟨1, by omega, rfl, Lib.hid (HA0.out.far (by show w.heap.size ≠ w.heap.size + 1; omega) _), Lib.hid (Blk.cast (HA1.out.set_ 0 _) ?_), Lib.hid (below_set HB.out (Nat.le_succ _))⟩
          simp [arr, nb] <;> omega
        case measure => simp [intOf]
      · have hx : wr.cell? ⟨w.heap.size + 1, 1, none⟩ = some (.int .u8 0) := by rw [HA1.out.cell]; rfl
        have hfz : wr.frozen? ⟨w.heap.size + 1, 1, none⟩ = false := HA1.out.frozen 1
        go_wp2_with fail
        go_roundw
        case rel =>
          refine ⟨2, by omega, rfl, Lib.hid (HA0.out.far (by show w.heap.size ≠ w.heap.size + 1; omega) _), Lib.hid (Blk.cast (HA1.out.set_ 1 _) ?_), Lib.hid (below_set HB.out (Nat.le_succ _))⟩
          simp [arr, nb] <;> omega
        case measure => simp [intOf]
      · have hx : wr.cell? ⟨w.heap.size + 1, 2, none⟩ = some (.int .u8 0) := by rw [HA1.out.cell]; rfl
        have hfz : wr.frozen? ⟨w.heap.size + 1, 2, none⟩ = false := HA1.out.frozen 2
        go_wp2_with fail
        go_roundw
        case rel =>
          refine ⟨3, by omega, rfl, Lib.hid (HA0.out.far (by show w.heap.size ≠ w.heap.size + 1; omega) _), Lib.hid (Blk.cast (HA1.out.set_ 2 _) ?_), Lib.hid (below_set HB.out (Nat.le_succ _))⟩
          simp [arr, nb] <;> omega
        case measure => simp [intOf]
      · have hx : wr.cell? ⟨w.heap.size + 1, 3, none⟩ = some (.int .u8 0) := by rw [HA1.out.cell]; rfl
        have hfz : wr.frozen? ⟨w.heap.size + 1, 3, none⟩ = false := HA1.out.frozen 3
        go_wp2_with fail
        go_roundw
        case rel =>
          refine ⟨4, by omega, rfl, Lib.hid (HA0.out.far (by show w.heap.size ≠ w.heap.size + 1; omega) _), Lib.hid (Blk.cast (HA1.out.set_ 3 _) ?_), Lib.hid (below_set HB.out (Nat.le_succ _))⟩
          simp [arr, nb] <;> omega
        case measure => simp [intOf]
      · have hx : wr.cell? ⟨w.heap.size + 1, 4, none⟩ = some (.int .u8 0) := by rw [HA1.out.cell]; rfl
        have hfz : wr.frozen? ⟨w.heap.size + 1, 4, none⟩ = false := HA1.out.frozen 4
        go_wp2_with fail
        go_roundw
        case rel =>
          refine ⟨5, by omega, rfl, Lib.hid (HA0.out.far (by show w.heap.size ≠ w.heap.size + 1; omega) _), Lib.hid (Blk.cast (HA1.out.set_ 4 _) ?_), Lib.hid (below_set HB.out (Nat.le_succ _))⟩
          simp [arr, nb] <;> omega
        case measure => simp [intOf]
      · have hx : wr.cell? ⟨w.heap.size + 1, 5, none⟩ = some (.int .u8 0) := by rw [HA1.out.cell]; rfl
        have hfz : wr.frozen? ⟨w.heap.size + 1, 5, none⟩ = false := HA1.out.frozen 5
        go_wp2_with fail
        go_roundw
        case rel =>
          refine ⟨6, by omega, rfl, Lib.hid (HA0.out.far (by show w.heap.size ≠ w.heap.size + 1; omega) _), Lib.hid (Blk.cast (HA1.out.set_ 5 _) ?_), Lib.hid (below_set HB.out (Nat.le_succ _))⟩
          simp [arr, nb] <;> omega
        case measure => simp [intOf]
      · have hx : wr.cell? ⟨w.heap.size + 1, 6, none⟩ = some (.int .u8 0) := by rw [HA1.out.cell]; rfl
        have hfz : wr.frozen? ⟨w.heap.size + 1, 6, none⟩ = false := HA1.out.frozen 6
        go_wp2_with fail
        go_roundw
        case rel =>
          refine ⟨7, by omega, rfl, Lib.hid (HA0.out.far (by show w.heap.size ≠ w.heap.size + 1; omega) _), Lib.hid (Blk.cast (HA1.out.set_ 6 _) ?_), Lib.hid (below_set HB.out (Nat.le_succ _))⟩
          simp [arr, nb] <;> omega
        case measure => simp [intOf]
      · have hx : wr.cell? ⟨w.heap.size + 1, 7, none⟩ = some (.int .u8 0) := by rw [HA1.out.cell]; rfl
        have hfz : wr.frozen? ⟨w.heap.size + 1, 7, none⟩ = false := HA1.out.frozen 7
        go_wp2_with fail
        go_roundw
        case rel =>
          refine ⟨8, by omega, rfl, Lib.hid (HA0.out.far (by show w.heap.size ≠ w.heap.size + 1; omega) _), Lib.hid (Blk.cast (HA1.out.set_ 7 _) ?_), Lib.hid (below_set HB.out (Nat.le_succ _))⟩
          simp [arr, nb] <;> omega
        case measure => simp [intOf]
    · obtain rfl : k = 8 := by omega
      have hx0 : wr.cell? ⟨w.heap.size + 1, 0, none⟩ = some (.int .u8 (nb n 0)) := by rw [HA1.out.cell]; rfl
      have x0 : wr.cell? ⟨w.heap.size + 1, 0, none⟩ = some (.int .u8 (nb n 0)) := by rw [HA1.out.cell]; rfl
      have y0 : wr.cell? ⟨w.heap.size, 0, none⟩ = some (.int .u8 0) := by rw [HA0.out.cell]; rfl
      have yf0 : wr.frozen? ⟨w.heap.size, 0, none⟩ = false := HA0.out.frozen 0
      have x1 : wr.cell? ⟨w.heap.size + 1, 1, none⟩ = some (.int .u8 (nb n 1)) := by rw [HA1.out.cell]; rfl
      have y1 : wr.cell? ⟨w.heap.size, 1, none⟩ = some (.int .u8 0) := by rw [HA0.out.cell]; rfl
      have yf1 : wr.frozen? ⟨w.heap.size, 1, none⟩ = false := HA0.out.frozen 1
      have x2 : wr.cell? ⟨w.heap.size + 1, 2, none⟩ = some (.int .u8 (nb n 2)) := by rw [HA1.out.cell]; rfl
      have y2 : wr.cell? ⟨w.heap.size, 2, none⟩ = some (.int .u8 0) := by rw [HA0.out.cell]; rfl
      have yf2 : wr.frozen? ⟨w.heap.size, 2, none⟩ = false := HA0.out.frozen 2
      have x3 : wr.cell? ⟨w.heap.size + 1, 3, none⟩ = some (.int .u8 (nb n 3)) := by rw [HA1.out.cell]; rfl
      have y3 : wr.cell? ⟨w.heap.size, 3, none⟩ = some (.int .u8 0) := by rw [HA0.out.cell]; rfl
      have yf3 : wr.frozen? ⟨w.heap.size, 3, none⟩ = false := HA0.out.frozen 3
      have x4 : wr.cell? ⟨w.heap.size + 1, 4, none⟩ = some (.int .u8 (nb n 4)) := by rw [HA1.out.cell]; rfl
      have y4 : wr.cell? ⟨w.heap.size, 4, none⟩ = some (.int .u8 0) := by rw [HA0.out.cell]; rfl
      have yf4 : wr.frozen? ⟨w.heap.size, 4, none⟩ = false := HA0.out.frozen 4
      have x5 : wr.cell? ⟨w.heap.size + 1, 5, none⟩ = some (.int .u8 (nb n 5)) := by rw [HA1.out.cell]; rfl
      have y5 : wr.cell? ⟨w.heap.size, 5, none⟩ = some (.int .u8 0) := by rw [HA0.out.cell]; rfl
      have yf5 : wr.frozen? ⟨w.heap.size, 5, none⟩ = false := HA0.out.frozen 5
      have x6 : wr.cell? ⟨w.heap.size + 1, 6, none⟩ = some (.int .u8 (nb n 6)) := by rw [HA1.out.cell]; rfl
      have y6 : wr.cell? ⟨w.heap.size, 6, none⟩ = some (.int .u8 0) := by rw [HA0.out.cell]; rfl
      have yf6 : wr.frozen? ⟨w.heap.size, 6, none⟩ = false := HA0.out.frozen 6
      have x7 : wr.cell? ⟨w.heap.size + 1, 7, none⟩ = some (.int .u8 (nb n 7)) := by rw [HA1.out.cell]; rfl
      have y7 : wr.cell? ⟨w.heap.size, 7, none⟩ = some (.int .u8 0) := by rw [HA0.out.cell]; rfl
      have yf7 : wr.frozen? ⟨w.heap.size, 7, none⟩ = false := HA0.out.frozen 7
      go_wp2_with fail
      try simp only [Exit.inBlock, Exit.then]
      refine bodyPost_ret (results_cell_row rfl _ _ w.heap.size 120 (arr8 n) (0, 0) _ rfl (show Blk _ w.heap.size 120 (arr8 n) from ((((((((HA0.out).set_ 0 _).set_ 1 _).set_ 2 _).set_ 3 _).set_ 4 _).set_ 5 _).set_ 6 _).set_ 7 _) Try.underlying120 rfl (by kernel_rfl)) rfl ?_
      exact ⟨rfl, below_set (below_set (below_set (below_set (below_set (below_set (below_set (below_set (HB.out) (Nat.le_refl _)) (Nat.le_refl _)) (Nat.le_refl _)) (Nat.le_refl _)) (Nat.le_refl _)) (Nat.le_refl _)) (Nat.le_refl _)) (Nat.le_refl _)⟩
theorem run91 (x : Nat) (w : World) : (callFunc 91 #[.float .f64 x]).run Try.prog w = .ok (.value (.int .u64 x)) w := by
  rw [run_callFunc_extern (e := Go.Extern.MathFloatBits.float64bits) Try.func91 (by rfl) (by rfl) (by kernel_rfl) (by kernel_rfl)]
  rfl
set_option maxRecDepth 20000 in
set_option maxHeartbeats 1000000 in
theorem real_any8 (x : Nat) (hx : fine x) (h1 : x < 18446744073709551616) (w : World) : Calls Try.prog 79 #[.float .f64 x] w fun e w' => e = .returned (.agg (arr8 x)) ∧ Below w.heap.size w w' := by
  have HN := Lib.hid (fun W => number_any8 (x : Int) (by omega) (by omega) W)
  have h91 := run91
  have hbA := (Below.refl w.heap.size w).alloc (Nat.le_refl _) (.cells #[.int .u8 0, .int .u8 0, .int .u8 0, .int .u8 0, .int .u8 0, .int .u8 0, .int .u8 0, .int .u8 0] 120)
  have HA := Lib.hid (Blk.new w 120 #[.int .u8 0, .int .u8 0, .int .u8 0, .int .u8 0, .int .u8 0, .int .u8 0, .int .u8 0, .int .u8 0])
  have HBA := Lib.hid hbA
  clear hbA
  rcases hx with hx | rfl
  · have hx2 : (FloatKind.f64.format.order x x != some .eq) = false := by rw [hx]; rfl
    go_enter Try.func79, Try.ntmps79
    go_upto_region 3 with fail
    generalize hWq : w.alloc (.cells #[.int .u8 0, .int .u8 0, .int .u8 0, .int .u8 0, .int .u8 0, .int .u8 0, .int .u8 0, .int .u8 0] 120) = W1 at HA HBA ⊢
    clear hWq
    go_wp2_with fail
    refine (HN.out W1).mono ?_
    rintro e w2 ⟨rfl, hb2⟩
    have h2 := HA.out.below hb2 HA.out.lt
    have H2 := Lib.hid h2
    have HB2 := Lib.hid hb2
    have y0 : w2.cell? ⟨w.heap.size, 0, none⟩ = some (.int .u8 0) := by rw [h2.cell]; rfl
    have yf0 : w2.frozen? ⟨w.heap.size, 0, none⟩ = false := h2.frozen 0
    have y1 : w2.cell? ⟨w.heap.size, 1, none⟩ = some (.int .u8 0) := by rw [h2.cell]; rfl
    have yf1 : w2.frozen? ⟨w.heap.size, 1, none⟩ = false := h2.frozen 1
    have y2 : w2.cell? ⟨w.heap.size, 2, none⟩ = some (.int .u8 0) := by rw [h2.cell]; rfl
    have yf2 : w2.frozen? ⟨w.heap.size, 2, none⟩ = false := h2.frozen 2
    have y3 : w2.cell? ⟨w.heap.size, 3, none⟩ = some (.int .u8 0) := by rw [h2.cell]; rfl
    have yf3 : w2.frozen? ⟨w.heap.size, 3, none⟩ = false := h2.frozen 3
    have y4 : w2.cell? ⟨w.heap.size, 4, none⟩ = some (.int .u8 0) := by rw [h2.cell]; rfl
    have yf4 : w2.frozen? ⟨w.heap.size, 4, none⟩ = false := h2.frozen 4
    have y5 : w2.cell? ⟨w.heap.size, 5, none⟩ = some (.int .u8 0) := by rw [h2.cell]; rfl
    have yf5 : w2.frozen? ⟨w.heap.size, 5, none⟩ = false := h2.frozen 5
    have y6 : w2.cell? ⟨w.heap.size, 6, none⟩ = some (.int .u8 0) := by rw [h2.cell]; rfl
    have yf6 : w2.frozen? ⟨w.heap.size, 6, none⟩ = false := h2.frozen 6
    have y7 : w2.cell? ⟨w.heap.size, 7, none⟩ = some (.int .u8 0) := by rw [h2.cell]; rfl
    have yf7 : w2.frozen? ⟨w.heap.size, 7, none⟩ = false := h2.frozen 7
    clear h2 hb2
    simp only [arr8]
    go_wp2_with fail
    try simp only [Exit.inBlock, Exit.then]
    have h2 := H2.out
    have hb2 := HB2.out
    refine bodyPost_ret (results_cell_row rfl _ _ w.heap.size 120 (arr8 (x : Int)) (0, 0) _ rfl (show Blk _ w.heap.size 120 (arr8 (x : Int)) from ((((((((h2).set_ 0 _).set_ 1 _).set_ 2 _).set_ 3 _).set_ 4 _).set_ 5 _).set_ 6 _).set_ 7 _) Try.underlying120 rfl (by kernel_rfl)) rfl ?_
    exact ⟨rfl, below_set (below_set (below_set (below_set (below_set (below_set (below_set (below_set (HBA.out.trans (hb2.mono HBA.out.size)) (Nat.le_refl _)) (Nat.le_refl _)) (Nat.le_refl _)) (Nat.le_refl _)) (Nat.le_refl _)) (Nat.le_refl _)) (Nat.le_refl _)) (Nat.le_refl _)⟩
  · have hx2 : (FloatKind.f64.format.order none64 none64 != some .eq) = true := by kernel_rfl
    have HN : Hid (∀ W : World, Calls Try.prog 66 #[.int .u64 9221120237041090561] W fun e w' => e = .returned (.agg (arr8 9221120237041090561)) ∧ Below W.heap.size W w') := Lib.hid (fun W => number_any8 9221120237041090561 (by decide) (by decide) W)
    go_enter Try.func79, Try.ntmps79
    go_upto_region 2 with fail
    generalize hWq : w.alloc (.cells #[.int .u8 0, .int .u8 0, .int .u8 0, .int .u8 0, .int .u8 0, .int .u8 0, .int .u8 0, .int .u8 0] 120) = W1 at HA HBA ⊢
    clear hWq
    go_wp2_with fail
    refine (HN.out W1).mono ?_
    rintro e w2 ⟨rfl, hb2⟩
    have h2 := HA.out.below hb2 HA.out.lt
    have H2 := Lib.hid h2
    have HB2 := Lib.hid hb2
    have y0 : w2.cell? ⟨w.heap.size, 0, none⟩ = some (.int .u8 0) := by rw [h2.cell]; rfl
    have yf0 : w2.frozen? ⟨w.heap.size, 0, none⟩ = false := h2.frozen 0
    have y1 : w2.cell? ⟨w.heap.size, 1, none⟩ = some (.int .u8 0) := by rw [h2.cell]; rfl
    have yf1 : w2.frozen? ⟨w.heap.size, 1, none⟩ = false := h2.frozen 1
    have y2 : w2.cell? ⟨w.heap.size, 2, none⟩ = some (.int .u8 0) := by rw [h2.cell]; rfl
    have yf2 : w2.frozen? ⟨w.heap.size, 2, none⟩ = false := h2.frozen 2
    have y3 : w2.cell? ⟨w.heap.size, 3, none⟩ = some (.int .u8 0) := by rw [h2.cell]; rfl
    have yf3 : w2.frozen? ⟨w.heap.size, 3, none⟩ = false := h2.frozen 3
    have y4 : w2.cell? ⟨w.heap.size, 4, none⟩ = some (.int .u8 0) := by rw [h2.cell]; rfl
    have yf4 : w2.frozen? ⟨w.heap.size, 4, none⟩ = false := h2.frozen 4
    have y5 : w2.cell? ⟨w.heap.size, 5, none⟩ = some (.int .u8 0) := by rw [h2.cell]; rfl
    have yf5 : w2.frozen? ⟨w.heap.size, 5, none⟩ = false := h2.frozen 5
    have y6 : w2.cell? ⟨w.heap.size, 6, none⟩ = some (.int .u8 0) := by rw [h2.cell]; rfl
    have yf6 : w2.frozen? ⟨w.heap.size, 6, none⟩ = false := h2.frozen 6
    have y7 : w2.cell? ⟨w.heap.size, 7, none⟩ = some (.int .u8 0) := by rw [h2.cell]; rfl
    have yf7 : w2.frozen? ⟨w.heap.size, 7, none⟩ = false := h2.frozen 7
    clear h2 hb2
    simp only [arr8]
    go_wp2_with fail
    try simp only [Exit.inBlock, Exit.then]
    have h2 := H2.out
    have hb2 := HB2.out
    refine bodyPost_ret (results_cell_row rfl _ _ w.heap.size 120 (arr8 (9221120237041090561 : Int)) (0, 0) _ rfl (show Blk _ w.heap.size 120 (arr8 (9221120237041090561 : Int)) from ((((((((h2).set_ 0 _).set_ 1 _).set_ 2 _).set_ 3 _).set_ 4 _).set_ 5 _).set_ 6 _).set_ 7 _) Try.underlying120 rfl (by kernel_rfl)) rfl ?_
    exact ⟨rfl, below_set (below_set (below_set (below_set (below_set (below_set (below_set (below_set (HBA.out.trans (hb2.mono HBA.out.size)) (Nat.le_refl _)) (Nat.le_refl _)) (Nat.le_refl _)) (Nat.le_refl _)) (Nat.le_refl _)) (Nat.le_refl _)) (Nat.le_refl _)) (Nat.le_refl _)⟩
end Go.Proofs.Ytlbfnnngemonoaa.Wir
