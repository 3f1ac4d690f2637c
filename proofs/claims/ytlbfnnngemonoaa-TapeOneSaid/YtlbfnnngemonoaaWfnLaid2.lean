/- The writers: a real's form behind bytes (wire.laid). -/
import Derived.Test.YtlbfnnngemonoaaWfnLaid
namespace Go.Proofs.Ytlbfnnngemonoaa.Wir
open Go.RowKit Go.Proofs.Ytlbfnnngemonoaa.PWireReads
open Go.Proofs.Ytlbfnnngemonoaa.Fat (Blk Chg Off chg_opt)
open Go.Proofs.YtlbfnnngemonoaaW.PrintWords Go.Proofs.YtlbfnnngemonoaaW.PrintLast Go.Proofs.YtlbfnnngemonoaaW.PrintMore
set_option linter.unusedVariables false
set_option linter.unusedSimpArgs false
attribute [local go_sem] run_store_float run_store_complex

set_option maxRecDepth 20000 in
set_option maxHeartbeats 4000000 in
theorem laid_real (x : Nat) (hx : fine x) (h64 : x < 18446744073709551616) (base : Nat) (b : Value) (xs : List Int) (w : World) (hR : Kd.R (Kd.int .u8) 5 w base (fun _ => True) b xs) (hb : base ≤ w.heap.size) (hl : xs.length ≤ 1000000) :
    Calls Try.prog 64 #[b, .agg #[.int .i64 2, .int .i64 0, .float .f64 x, .complex .f64 0 0, .string ByteArray.empty]] w (LPost base w xs (vR x)) := by
  have hM : ∀ W : World, Calls Try.prog 54 #[.agg #[.int .i64 2, .int .i64 0, .float .f64 x, .complex .f64 0 0, .string ByteArray.empty]] W fun e w' => e = .returned (.bool true) ∧ Below W.heap.size W w' := fun W => by
    have h := may_any (vR x) (Good.shp (.inr (.inl ⟨x, hx, rfl⟩))) W
    rw [Good.may (.inr (.inl ⟨x, hx, rfl⟩))] at h
    exact h
  have HM := Lib.hid hM
  have HR := Lib.hid hR
  have HOB := Lib.hid (Kd.R_lt hR)
  have HA := Lib.hid (Blk.new w 50 #[.int .i64 2, .int .i64 0, .float .f64 x, .complex .f64 0 0, .string ByteArray.empty])
  have HBA := Lib.hid ((Below.refl w.heap.size w).alloc (Nat.le_refl _) (.cells #[.int .i64 2, .int .i64 0, .float .f64 x, .complex .f64 0 0, .string ByteArray.empty] 50))
  have HN := Lib.hid (fun W => real_any8 x hx h64 W)
  generalize hPP : LPost base w xs (vR x) = PP
  have HPP := Lib.hid hPP
  clear hM hR hPP
  obtain ⟨A, c, rfl⟩ := Kd.R_slice HR.out
  go_enter Try.func64, Try.ntmps64
  go_upto_region 1 with fail
  generalize hWq : w.alloc (.cells #[.int .i64 2, .int .i64 0, .float .f64 x, .complex .f64 0 0, .string ByteArray.empty] 50) = W1 at HA HBA ⊢
  clear hWq
  have hba := HA.out
  have x0 := hba.cell 0
  have x1 := hba.cell 1
  have x2 := hba.cell 2
  have x3 := hba.cell 3
  have x4 := hba.cell 4
  simp at x0 x1 x2 x3 x4
  clear hba
  go_wp2_with fail
  refine (HM.out _).mono ?_
  rintro e w2 ⟨rfl, hb2⟩
  have HA2 := Lib.hid (HA.out.below hb2 HA.out.lt)
  have HB2 := Lib.hid (HBA.out.trans (hb2.mono HBA.out.size))
  have HR2 := Lib.hid (Kd.R_below HR.out HB2.out)
  clear x0 x1 x2 x3 x4 hb2 HA HBA HR
  have hba := HA2.out
  have x0 := hba.cell 0
  simp at x0
  clear hba
  have hs2 := HB2.out.size
  go_upto_region 4 with (first | ((with_reducible refine gate_builtin (b := .append) (xs := #[.tmp 16, .tmp 20]) rfl ?_); at_builtin; refine Kd.R_append_rows (Kd.int .u8) (w0 := w) base rfl (.tmp 16) (.tmp 20) 45 5 (.int .u8 0) 1 rfl Try.underlying45 info5 rfl (by decide) (by omega) (.slice A xs.length c) xs [2] (some ⟨w2.heap.size, 0, none⟩) 1 1 (fun _ => True) (fun _ => False) rfl rfl (Kd.R_alloc HR2.out (.cells #[.int .u8 2] 5)) (C_blk (Blk.new w2 5 #[.int .u8 2]) [2] rfl (by decide)) (fun x cs hc => hc) (fun _ hk => hk.elim) (fun _ _ => trivial) ((HB2.out.mono hb).alloc (Nat.le_trans hb HB2.out.size) _) (by simp; omega) (by omega) ?_; intro v3 w3 hR3 hb3 hg3 hat3; obtain ⟨A3, c3, hv3⟩ := Kd.R_slice hR3; subst hv3; have HR3 := Lib.hid hR3; have HB3 := Lib.hid hb3; have HA3 := Lib.hid ((HA2.out.alloc (.cells #[.int .u8 2] 5)).chg (chg_opt hg3) (fun hx => by have := HOB.out w.heap.size (by simpa using hx); omega)); have HO3 := Lib.hid (Kd.R_lt hR3); clear hR3 hb3 hg3 hat3 x0) | fail)
  have HT := Lib.hid (two_new w3 #[.int .u8 0, .int .u8 0, .int .u8 0, .int .u8 0, .int .u8 0, .int .u8 0, .int .u8 0, .int .u8 0] #[.int .u8 0, .int .u8 0, .int .u8 0, .int .u8 0, .int .u8 0, .int .u8 0, .int .u8 0, .int .u8 0] 120 120)
  go_upto_region 5 with fail
  generalize hWq : ((w3.alloc (.cells #[.int .u8 0, .int .u8 0, .int .u8 0, .int .u8 0, .int .u8 0, .int .u8 0, .int .u8 0, .int .u8 0] 120)).alloc (.cells #[.int .u8 0, .int .u8 0, .int .u8 0, .int .u8 0, .int .u8 0, .int .u8 0, .int .u8 0, .int .u8 0] 120)) = W4 at HT ⊢
  clear hWq
  have HA4 := Lib.hid (HA3.out.below HT.out.2.2 HA3.out.lt)
  have HR4 := Lib.hid (Kd.R_below HR3.out HT.out.2.2)
  have HB4 := Lib.hid (HB3.out.trans (HT.out.2.2.mono (Nat.le_trans hb HB3.out.size)))
  have x0 := HA4.out.cell 0
  have x1 := HA4.out.cell 2
  simp at x0 x1
  have hs3 := HB3.out.size
  clear HA2 HA3 HB2 HR2 HR3 HM hs2 
  go_wp2_with fail
  refine (HN.out _).mono ?_
  rintro e w5 ⟨rfl, hb5⟩
  have h2 := HT.out.1.below hb5 HT.out.1.lt
  have H2 := Lib.hid h2
  have HR5 := Lib.hid (Kd.R_below HR4.out hb5)
  have HB5 := Lib.hid (HB4.out.trans (hb5.mono (Nat.le_trans hb HB4.out.size)))
  have y0 : w5.cell? ⟨w3.heap.size, 0, none⟩ = some (.int .u8 0) := by rw [h2.cell]; rfl
  have yf0 : w5.frozen? ⟨w3.heap.size, 0, none⟩ = false := h2.frozen 0
  have y1 : w5.cell? ⟨w3.heap.size, 1, none⟩ = some (.int .u8 0) := by rw [h2.cell]; rfl
  have yf1 : w5.frozen? ⟨w3.heap.size, 1, none⟩ = false := h2.frozen 1
  have y2 : w5.cell? ⟨w3.heap.size, 2, none⟩ = some (.int .u8 0) := by rw [h2.cell]; rfl
  have yf2 : w5.frozen? ⟨w3.heap.size, 2, none⟩ = false := h2.frozen 2
  have y3 : w5.cell? ⟨w3.heap.size, 3, none⟩ = some (.int .u8 0) := by rw [h2.cell]; rfl
  have yf3 : w5.frozen? ⟨w3.heap.size, 3, none⟩ = false := h2.frozen 3
  have y4 : w5.cell? ⟨w3.heap.size, 4, none⟩ = some (.int .u8 0) := by rw [h2.cell]; rfl
  have yf4 : w5.frozen? ⟨w3.heap.size, 4, none⟩ = false := h2.frozen 4
  have y5 : w5.cell? ⟨w3.heap.size, 5, none⟩ = some (.int .u8 0) := by rw [h2.cell]; rfl
  have yf5 : w5.frozen? ⟨w3.heap.size, 5, none⟩ = false := h2.frozen 5
  have y6 : w5.cell? ⟨w3.heap.size, 6, none⟩ = some (.int .u8 0) := by rw [h2.cell]; rfl
  have yf6 : w5.frozen? ⟨w3.heap.size, 6, none⟩ = false := h2.frozen 6
  have y7 : w5.cell? ⟨w3.heap.size, 7, none⟩ = some (.int .u8 0) := by rw [h2.cell]; rfl
  have yf7 : w5.frozen? ⟨w3.heap.size, 7, none⟩ = false := h2.frozen 7
  clear h2 hb5 x0 x1 HT HA4 HR4 HB4
  simp only [arr8]
  go_upto_region 16 with fail
  have HQ := Lib.hid (arr_set H2.out (x : Int))
  generalize hWq : ((((((((w5).setCell ⟨w3.heap.size, 0, none⟩ (.int .u8 (nb (x : Int) 0))).setCell ⟨w3.heap.size, 1, none⟩ (.int .u8 (nb (x : Int) 1))).setCell ⟨w3.heap.size, 2, none⟩ (.int .u8 (nb (x : Int) 2))).setCell ⟨w3.heap.size, 3, none⟩ (.int .u8 (nb (x : Int) 3))).setCell ⟨w3.heap.size, 4, none⟩ (.int .u8 (nb (x : Int) 4))).setCell ⟨w3.heap.size, 5, none⟩ (.int .u8 (nb (x : Int) 5))).setCell ⟨w3.heap.size, 6, none⟩ (.int .u8 (nb (x : Int) 6))).setCell ⟨w3.heap.size, 7, none⟩ (.int .u8 (nb (x : Int) 7)) = W6 at HQ ⊢
  clear hWq
  have HR6 := Lib.hid (R_arr HR5.out H2.out HQ.out.2)
  have HB6 := Lib.hid (HB5.out.trans (HQ.out.2.below (Nat.le_trans hb HB5.out.size) (by simp; omega)))
  clear HR5 HB5 H2 y0 y1 y2 y3 y4 y5 y6 y7 yf0 yf1 yf2 yf3 yf4 yf5 yf6 yf7
  have hR6 := HR6.out
  rw [show (xs ++ [(2 : Int)]).length = xs.length + 1 from by simp] at hR6
  have HR6 := Lib.hid hR6
  have HSZ : Hid (((xs ++ [2]).length + 8) * 1 ≤ 140737488355328) := Lib.hid (by simp; omega)
  have hb6 : base ≤ W6.heap.size := Nat.le_trans hb HB6.out.size
  clear hR6
  have hs6 := HB6.out.size
  go_wp2_with (first | ((with_reducible refine gate_builtin (b := .append) (xs := #[.tmp 68, .tmp 69]) rfl ?_); at_builtin; refine hold_it ?_) | fail)
  refine id ?_
  refine Kd.R_append_rows (Kd.int .u8) (w0 := w) base rfl (.tmp 68) (.tmp 69) 45 5 (.int .u8 0) 1 rfl Try.underlying45 info5 rfl (by decide) (by omega) (.slice A3 (xs.length + 1) c3) (xs ++ [2]) (by8 (x : Int)) (some ⟨w3.heap.size, 0, none⟩) 8 8 (fun _ => True) (fun _ => False) rfl rfl HR6.out (C_blk HQ.out.1 (by8 (x : Int)) rfl (by8_len _)) (fun x cs hc => hc) (fun _ hk => hk.elim) (fun _ _ => trivial) HB6.out hb6 HSZ.out ?_
  intro v7 w7 hR7 hb7 hg7 hat7
  have HR7 := Lib.hid hR7
  have HB7 := Lib.hid hb7
  clear hR7 hb7 hg7 hat7
  go_wp2_with fail
  rw [← HPP.out]
  refine ⟨v7, rfl, ?_, HB7.out⟩
  have h := HR7.out
  rw [List.append_assoc] at h
  exact h
end Go.Proofs.Ytlbfnnngemonoaa.Wir
