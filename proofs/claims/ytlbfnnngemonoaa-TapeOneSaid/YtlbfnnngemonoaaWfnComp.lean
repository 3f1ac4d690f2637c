/- The writers: a complex number's form behind bytes (wire.laid). -/
import Derived.Test.YtlbfnnngemonoaaWfnLaid
namespace Go.Proofs.Ytlbfnnngemonoaa.Wir
open Go.RowKit Go.Proofs.Ytlbfnnngemonoaa.PWireReads
open Go.Proofs.Ytlbfnnngemonoaa.Fat (Blk Chg Off chg_opt)
open Go.Proofs.YtlbfnnngemonoaaW.PrintWords Go.Proofs.YtlbfnnngemonoaaW.PrintLast Go.Proofs.YtlbfnnngemonoaaW.PrintMore
set_option linter.unusedVariables false
set_option linter.unusedSimpArgs false
attribute [local go_sem] run_store_float run_store_complex

def T64c : Bool × List (List Nat × List Nat) := (true, [([], []), ([0], [0]), ([1], [1]), ([2], [2]), ([], []), ([4], [4]), ([5], [5]), ([6, 3], [6]), ([3, 7, 0, 1, 2, 3, 7], [3]), ([7, 8, 0, 1, 2, 3, 4, 5, 6, 7, 8], [7])])
def B64c : List Nat := [0, 1, 3, 7, 0, 16, 48, 127, 255, 511]
theorem tab64c : rtab .any (opsOf Try.f64 11) = T64c := by kernel_rfl
theorem bits64c : waitsOk T64c.2 B64c = true := by kernel_rfl
def T64d : Bool × List (List Nat × List Nat) := (true, [([], []), ([], []), ([0, 1], [0, 1]), ([], []), ([2, 3, 2], [2, 3]), ([4, 4, 0, 1, 2, 3, 4], [4]), ([5, 0, 1, 2, 3, 4, 5], [])])
def B64d : List Nat := [0, 0, 3, 0, 15, 31, 63]
theorem tab64d : rtab .any (opsOf Try.f64 12) = T64d := by kernel_rfl
theorem bits64d : waitsOk T64d.2 B64d = true := by kernel_rfl
set_option maxRecDepth 20000 in
set_option maxHeartbeats 4000000 in
theorem laid_comp (x y : Nat) (hx : fine x) (hy : fine y) (h64 : x < 18446744073709551616) (g64 : y < 18446744073709551616) (base : Nat) (b : Value) (xs : List Int) (w : World) (hR : Kd.R (Kd.int .u8) 5 w base (fun _ => True) b xs) (hb : base ≤ w.heap.size) (hl : xs.length ≤ 1000000) :
    Calls Try.prog 64 #[b, .agg #[.int .i64 3, .int .i64 0, .float .f64 0, .complex .f64 x y, .string ByteArray.empty]] w (LPost base w xs (vC x y)) := by
  have hM : ∀ W : World, Calls Try.prog 54 #[.agg #[.int .i64 3, .int .i64 0, .float .f64 0, .complex .f64 x y, .string ByteArray.empty]] W fun e w' => e = .returned (.bool true) ∧ Below W.heap.size W w' := fun W => by
    have h := may_any (vC x y) (Good.shp (.inr (.inr (.inl ⟨x, y, hx, hy, rfl⟩)))) W
    rw [Good.may (.inr (.inr (.inl ⟨x, y, hx, hy, rfl⟩)))] at h
    exact h
  have HM := Lib.hid hM
  have HR := Lib.hid hR
  have HOB := Lib.hid (Kd.R_lt hR)
  have HA := Lib.hid (Blk.new w 50 #[.int .i64 3, .int .i64 0, .float .f64 0, .complex .f64 x y, .string ByteArray.empty])
  have HBA := Lib.hid ((Below.refl w.heap.size w).alloc (Nat.le_refl _) (.cells #[.int .i64 3, .int .i64 0, .float .f64 0, .complex .f64 x y, .string ByteArray.empty] 50))
  have HX := Lib.hid (fun W => real_any8 x hx h64 W)
  have HY := Lib.hid (fun W => real_any8 y hy g64 W)
  generalize hPP : LPost base w xs (vC x y) = PP
  have HPP := Lib.hid hPP
  clear hM hR hPP
  obtain ⟨A, c, rfl⟩ := Kd.R_slice HR.out
  go_enter Try.func64, Try.ntmps64
  go_upto_region 1 with fail
  generalize hWq : w.alloc (.cells #[.int .i64 3, .int .i64 0, .float .f64 0, .complex .f64 x y, .string ByteArray.empty] 50) = W1 at HA HBA ⊢
  clear hWq
  have hba := HA.out
  have x0 := hba.cell 0
  have x1 := hba.cell 1
  have x2 := hba.cell 2
  have x3 := hba.cell 3
  have x4 := hba.cell 4
  simp at x0 x1 x2 x3 x4
  clear hba
  go_wp2_with fail
  refine (HM.out _).mono ?_
  rintro e w2 ⟨rfl, hb2⟩
  have HA2 := Lib.hid (HA.out.below hb2 HA.out.lt)
  have HB2 := Lib.hid (HBA.out.trans (hb2.mono HBA.out.size))
  have HR2 := Lib.hid (Kd.R_below HR.out HB2.out)
  clear x0 x1 x2 x3 x4 hb2 HA HBA HR
  have hba := HA2.out
  have x0 := hba.cell 0
  simp at x0
  clear hba
  have hs2 := HB2.out.size
  go_upto_region 4 with (first | ((with_reducible refine gate_builtin (b := .append) (xs := #[.tmp 16, .tmp 20]) rfl ?_); at_builtin; refine Kd.R_append_rows (Kd.int .u8) (w0 := w) base rfl (.tmp 16) (.tmp 20) 45 5 (.int .u8 0) 1 rfl Try.underlying45 info5 rfl (by decide) (by omega) (.slice A xs.length c) xs [3] (some ⟨w2.heap.size, 0, none⟩) 1 1 (fun _ => True) (fun _ => False) rfl rfl (Kd.R_alloc HR2.out (.cells #[.int .u8 3] 5)) (C_blk (Blk.new w2 5 #[.int .u8 3]) [3] rfl (by decide)) (fun x cs hc => hc) (fun _ hk => hk.elim) (fun _ _ => trivial) ((HB2.out.mono hb).alloc (Nat.le_trans hb HB2.out.size) _) (by simp; omega) (by omega) ?_; intro v3 w3 hR3 hb3 hg3 hat3; obtain ⟨A3, c3, hv3⟩ := Kd.R_slice hR3; subst hv3; have HR3 := Lib.hid hR3; have HB3 := Lib.hid hb3; have HA3 := Lib.hid ((HA2.out.alloc (.cells #[.int .u8 3] 5)).chg (chg_opt hg3) (fun hx => by have := HOB.out w.heap.size (by simpa using hx); omega)); have HO3 := Lib.hid (Kd.R_lt hR3); clear hR3 hb3 hg3 hat3 x0) | fail)
  have HT := Lib.hid (two_new w3 #[.int .u8 0, .int .u8 0, .int .u8 0, .int .u8 0, .int .u8 0, .int .u8 0, .int .u8 0, .int .u8 0] #[.int .u8 0, .int .u8 0, .int .u8 0, .int .u8 0, .int .u8 0, .int .u8 0, .int .u8 0, .int .u8 0] 120 120)
  go_upto_region 5 with fail
  generalize hWq : ((w3.alloc (.cells #[.int .u8 0, .int .u8 0, .int .u8 0, .int .u8 0, .int .u8 0, .int .u8 0, .int .u8 0, .int .u8 0] 120)).alloc (.cells #[.int .u8 0, .int .u8 0, .int .u8 0, .int .u8 0, .int .u8 0, .int .u8 0, .int .u8 0, .int .u8 0] 120)) = W4 at HT ⊢
  clear hWq
  have HA4 := Lib.hid (HA3.out.below HT.out.2.2 HA3.out.lt)
  have HR4 := Lib.hid (Kd.R_below HR3.out HT.out.2.2)
  have HB4 := Lib.hid (HB3.out.trans (HT.out.2.2.mono (Nat.le_trans hb HB3.out.size)))
  have hs3 := HB3.out.size
  have hwne : w.heap.size ∉ [w3.heap.size, w3.heap.size + 1] := by have := HA3.out.lt; simp; omega
  have HSX : Hid (∀ w', Chg [w3.heap.size, w3.heap.size + 1] W4 w' → w'.cell? ⟨w.heap.size, 3, none⟩ = some (.complex .f64 x y)) := Lib.hid (fun w' h => (HA4.out.chg h hwne).cell 3)
  have x0 := HA4.out.cell 0
  simp at x0
  clear HA2 HA3 HB2 HR2 HR3 HM hs2
  go_upto_region 11 with fail
  refine start_ (n := 10) (S := fun w' => Chg [w3.heap.size, w3.heap.size + 1] W4 w') (ds := []) #[false, false, false, false, false, false, false, false, false, false] (by kernel_rfl) rfl rfl ((Chg.refl _ W4).drew) (fun hHeld => ?_)
  refine with_tabW tab64c bits64c (fun HT_ HW_ => ?_)
  have hD4 : Chg [w3.heap.size, w3.heap.size + 1] W4 W4.drew := (Chg.refl _ W4).drew
  generalize hWd : W4.drew = w4 at hHeld hD4 ⊢
  have HBD : Hid (Below W4.heap.size W4 w4) := Lib.hid (hWd ▸ (Below.refl _ W4).drew)
  clear hWd
  refine pure_ (i := 0) (N := some 37) (v := ?_) (a' := ?_) #[true, false, false, false, false, false, false, false, false, false] rfl rfl (any_of HT_.out (by kernel_rfl)) (fun _ _ _ h => h) (Or.inl ⟨by rfl, ?_⟩) ?_ ?_
  rotate_left
  · intro w'
    go_simp
    with_reducible rfl
  rotate_left
  · simp only [Act.put, List.setIfInBounds_toArray, List.set_cons_zero, List.set_cons_succ, i64_w, i32_w]
    rfl
  refine take_ (i := 1) (N := some 38) (v := ?_) (a' := ?_) #[true, true, false, false, false, false, false, false, false, false] rfl rfl (take_ofW HT_.out HW_.out (by kernel_rfl)) (fun _ _ _ h => h) (Or.inl ⟨by rfl, ?_⟩) hHeld ?_ ?_
  rotate_left
  · intro w' HS_
    have s3 := HSX.out _ HS_
    go_simp
    with_reducible rfl
  rotate_left
  · simp only [Act.put, List.setIfInBounds_toArray, List.set_cons_zero, List.set_cons_succ, i64_w, i32_w]
    rfl
  refine pure_ (i := 2) (N := some 39) (v := ?_) (a' := ?_) #[true, true, true, false, false, false, false, false, false, false] rfl rfl (any_of HT_.out (by kernel_rfl)) (fun _ _ _ h => h) (Or.inl ⟨by rfl, ?_⟩) ?_ ?_
  rotate_left
  · intro w'
    go_simp
    with_reducible rfl
  rotate_left
  · simp only [Act.put, List.setIfInBounds_toArray, List.set_cons_zero, List.set_cons_succ, i64_w, i32_w]
    rfl
  refine pure_ (i := 4) (N := some 41) (v := ?_) (a' := ?_) #[true, true, true, false, true, false, false, false, false, false] rfl rfl (any_of HT_.out (by kernel_rfl)) (fun _ _ _ h => h) (Or.inl ⟨by rfl, ?_⟩) ?_ ?_
  rotate_left
  · intro w'
    go_simp
    with_reducible rfl
  rotate_left
  · simp only [Act.put, List.setIfInBounds_toArray, List.set_cons_zero, List.set_cons_succ, i64_w, i32_w]
    rfl
  refine take_ (i := 5) (N := some 42) (v := ?_) (a' := ?_) #[true, true, true, false, true, true, false, false, false, false] rfl rfl (take_ofW HT_.out HW_.out (by kernel_rfl)) (fun _ _ _ h => h) (Or.inl ⟨by rfl, ?_⟩) hHeld ?_ ?_
  rotate_left
  · intro w' HS_
    have s3 := HSX.out _ HS_
    go_simp
    with_reducible rfl
  rotate_left
  · simp only [Act.put, List.setIfInBounds_toArray, List.set_cons_zero, List.set_cons_succ, i64_w, i32_w]
    rfl
  refine pure_ (i := 6) (N := some 43) (v := ?_) (a' := ?_) #[true, true, true, false, true, true, true, false, false, false] rfl rfl (any_of HT_.out (by kernel_rfl)) (fun _ _ _ h => h) (Or.inl ⟨by rfl, ?_⟩) ?_ ?_
  rotate_left
  · intro w'
    go_simp
    with_reducible rfl
  rotate_left
  · simp only [Act.put, List.setIfInBounds_toArray, List.set_cons_zero, List.set_cons_succ, i64_w, i32_w]
    rfl
  refine one_ (i := 3) (N := some 40) #[true, true, true, true, true, true, true, false, false, false] rfl rfl (one_of HT_.out (by kernel_rfl)) (by decide) (fun K hK => ?_)
  refine goes_ Try.func79 (by kernel_rfl) rfl #[.float .f64 x] (by rfl) rfl rfl (by simp only [List.map_toArray, List.map_cons, List.map_nil]; rfl) ?_
  refine (HX.out _).mono ?_
  rintro e w5 ⟨rfl, hd⟩
  have HB5 := Lib.hid (HBD.out.trans (hd.mono HBD.out.size))
  refine ⟨_, rfl, ?_⟩
  refine hK.out _ _ (Chg.of_below HB5.out _) (fun hHeld => ?_)
  clear hK K hd
  refine norm_ (a' := ?_) ?_ ?_
  rotate_left
  · show Act.put _ (some 40) _ = _
    simp only [Act.put, List.setIfInBounds_toArray, List.set_cons_zero, List.set_cons_succ, i64_w, i32_w]
    rfl
  refine one_ (i := 7) (N := some 44) #[true, true, true, true, true, true, true, true, false, false] rfl rfl (one_of HT_.out (by kernel_rfl)) (by decide) (fun K hK => ?_)
  refine goes_ Try.func79 (by kernel_rfl) rfl #[.float .f64 y] (by rfl) rfl rfl (by simp only [List.map_toArray, List.map_cons, List.map_nil]; rfl) ?_
  refine (HY.out _).mono ?_
  rintro e w6 ⟨rfl, hd⟩
  have HB6 := Lib.hid (HB5.out.trans (hd.mono HB5.out.size))
  refine ⟨_, rfl, ?_⟩
  refine hK.out _ _ (Chg.of_below HB6.out _) (fun hHeld => ?_)
  clear hK K hd
  refine norm_ (a' := ?_) ?_ ?_
  rotate_left
  · show Act.put _ (some 44) _ = _
    simp only [Act.put, List.setIfInBounds_toArray, List.set_cons_zero, List.set_cons_succ, i64_w, i32_w]
    rfl
  have hA6 := HT.out.1.below HB6.out HT.out.1.lt
  have hB6 := HT.out.2.1.below HB6.out HT.out.2.1.lt
  have y0 : w6.cell? ⟨w3.heap.size, 0, none⟩ = some (.int .u8 0) := by rw [hA6.cell]; rfl
  have yf0 : w6.frozen? ⟨w3.heap.size, 0, none⟩ = false := hA6.frozen 0
  have y1 : w6.cell? ⟨w3.heap.size, 1, none⟩ = some (.int .u8 0) := by rw [hA6.cell]; rfl
  have yf1 : w6.frozen? ⟨w3.heap.size, 1, none⟩ = false := hA6.frozen 1
  have y2 : w6.cell? ⟨w3.heap.size, 2, none⟩ = some (.int .u8 0) := by rw [hA6.cell]; rfl
  have yf2 : w6.frozen? ⟨w3.heap.size, 2, none⟩ = false := hA6.frozen 2
  have y3 : w6.cell? ⟨w3.heap.size, 3, none⟩ = some (.int .u8 0) := by rw [hA6.cell]; rfl
  have yf3 : w6.frozen? ⟨w3.heap.size, 3, none⟩ = false := hA6.frozen 3
  have y4 : w6.cell? ⟨w3.heap.size, 4, none⟩ = some (.int .u8 0) := by rw [hA6.cell]; rfl
  have yf4 : w6.frozen? ⟨w3.heap.size, 4, none⟩ = false := hA6.frozen 4
  have y5 : w6.cell? ⟨w3.heap.size, 5, none⟩ = some (.int .u8 0) := by rw [hA6.cell]; rfl
  have yf5 : w6.frozen? ⟨w3.heap.size, 5, none⟩ = false := hA6.frozen 5
  have y6 : w6.cell? ⟨w3.heap.size, 6, none⟩ = some (.int .u8 0) := by rw [hA6.cell]; rfl
  have yf6 : w6.frozen? ⟨w3.heap.size, 6, none⟩ = false := hA6.frozen 6
  have y7 : w6.cell? ⟨w3.heap.size, 7, none⟩ = some (.int .u8 0) := by rw [hA6.cell]; rfl
  have yf7 : w6.frozen? ⟨w3.heap.size, 7, none⟩ = false := hA6.frozen 7
  refine one_ (i := 8) (N := none) #[true, true, true, true, true, true, true, true, true, false] rfl rfl (one_of HT_.out (by kernel_rfl)) (by decide) (fun K hK => ?_)
  refine skip_ (w1 := ?_) ?_ rfl ?_ ?_
  rotate_left 2
  · simp only [arr8]
    go_simp
    try rfl
  rotate_left
  · rfl
  have HQ7 := Lib.hid (arr_set hA6 (x : Int))
  generalize hWq : ((((((((w6).setCell ⟨w3.heap.size, 0, none⟩ (.int .u8 (nb (x : Int) 0))).setCell ⟨w3.heap.size, 1, none⟩ (.int .u8 (nb (x : Int) 1))).setCell ⟨w3.heap.size, 2, none⟩ (.int .u8 (nb (x : Int) 2))).setCell ⟨w3.heap.size, 3, none⟩ (.int .u8 (nb (x : Int) 3))).setCell ⟨w3.heap.size, 4, none⟩ (.int .u8 (nb (x : Int) 4))).setCell ⟨w3.heap.size, 5, none⟩ (.int .u8 (nb (x : Int) 5))).setCell ⟨w3.heap.size, 6, none⟩ (.int .u8 (nb (x : Int) 6))).setCell ⟨w3.heap.size, 7, none⟩ (.int .u8 (nb (x : Int) 7)) = W7 at HQ7 ⊢
  clear hWq
  refine hK.out _ _ ((Chg.of_below HB6.out _).trans (HQ7.out.2.mono (by simp))) (fun hHeld => ?_)
  clear hK K
  clear y0 yf0
  clear y1 yf1
  clear y2 yf2
  clear y3 yf3
  clear y4 yf4
  clear y5 yf5
  clear y6 yf6
  clear y7 yf7
  have hB7 := hB6.chg HQ7.out.2 (by simp)
  have hC7 : Chg [w3.heap.size, w3.heap.size + 1] W4 W7 := (Chg.of_below HB6.out _).trans (HQ7.out.2.mono (by simp))
  have y0 : W7.cell? ⟨w3.heap.size + 1, 0, none⟩ = some (.int .u8 0) := by rw [hB7.cell]; rfl
  have yf0 : W7.frozen? ⟨w3.heap.size + 1, 0, none⟩ = false := hB7.frozen 0
  have y1 : W7.cell? ⟨w3.heap.size + 1, 1, none⟩ = some (.int .u8 0) := by rw [hB7.cell]; rfl
  have yf1 : W7.frozen? ⟨w3.heap.size + 1, 1, none⟩ = false := hB7.frozen 1
  have y2 : W7.cell? ⟨w3.heap.size + 1, 2, none⟩ = some (.int .u8 0) := by rw [hB7.cell]; rfl
  have yf2 : W7.frozen? ⟨w3.heap.size + 1, 2, none⟩ = false := hB7.frozen 2
  have y3 : W7.cell? ⟨w3.heap.size + 1, 3, none⟩ = some (.int .u8 0) := by rw [hB7.cell]; rfl
  have yf3 : W7.frozen? ⟨w3.heap.size + 1, 3, none⟩ = false := hB7.frozen 3
  have y4 : W7.cell? ⟨w3.heap.size + 1, 4, none⟩ = some (.int .u8 0) := by rw [hB7.cell]; rfl
  have yf4 : W7.frozen? ⟨w3.heap.size + 1, 4, none⟩ = false := hB7.frozen 4
  have y5 : W7.cell? ⟨w3.heap.size + 1, 5, none⟩ = some (.int .u8 0) := by rw [hB7.cell]; rfl
  have yf5 : W7.frozen? ⟨w3.heap.size + 1, 5, none⟩ = false := hB7.frozen 5
  have y6 : W7.cell? ⟨w3.heap.size + 1, 6, none⟩ = some (.int .u8 0) := by rw [hB7.cell]; rfl
  have yf6 : W7.frozen? ⟨w3.heap.size + 1, 6, none⟩ = false := hB7.frozen 6
  have y7 : W7.cell? ⟨w3.heap.size + 1, 7, none⟩ = some (.int .u8 0) := by rw [hB7.cell]; rfl
  have yf7 : W7.frozen? ⟨w3.heap.size + 1, 7, none⟩ = false := hB7.frozen 7
  refine one_ (i := 9) (N := none) #[true, true, true, true, true, true, true, true, true, true] rfl rfl (one_of HT_.out (by kernel_rfl)) (by decide) (fun K hK => ?_)
  refine skip_ (w1 := ?_) ?_ rfl ?_ ?_
  rotate_left 2
  · simp only [arr8]
    go_simp
    try rfl
  rotate_left
  · rfl
  have HQ8 := Lib.hid (arr_set hB7 (y : Int))
  generalize hWq : ((((((((W7).setCell ⟨w3.heap.size + 1, 0, none⟩ (.int .u8 (nb (y : Int) 0))).setCell ⟨w3.heap.size + 1, 1, none⟩ (.int .u8 (nb (y : Int) 1))).setCell ⟨w3.heap.size + 1, 2, none⟩ (.int .u8 (nb (y : Int) 2))).setCell ⟨w3.heap.size + 1, 3, none⟩ (.int .u8 (nb (y : Int) 3))).setCell ⟨w3.heap.size + 1, 4, none⟩ (.int .u8 (nb (y : Int) 4))).setCell ⟨w3.heap.size + 1, 5, none⟩ (.int .u8 (nb (y : Int) 5))).setCell ⟨w3.heap.size + 1, 6, none⟩ (.int .u8 (nb (y : Int) 6))).setCell ⟨w3.heap.size + 1, 7, none⟩ (.int .u8 (nb (y : Int) 7)) = W8 at HQ8 ⊢
  clear hWq
  refine hK.out _ _ (hC7.trans (HQ8.out.2.mono (by simp))) (fun hHeld => ?_)
  clear hK K
  clear y0 yf0
  clear y1 yf1
  clear y2 yf2
  clear y3 yf3
  clear y4 yf4
  clear y5 yf5
  clear y6 yf6
  clear y7 yf7
  refine done_ (done_of HT_.out (by kernel_rfl)) ?_
  clear HT_ HW_
  have hC8 : Chg [w3.heap.size, w3.heap.size + 1] W4 W8 := hC7.trans (HQ8.out.2.mono (by simp))
  have HA8 := Lib.hid (HQ7.out.1.chg HQ8.out.2 (by simp))
  have HB8' := Lib.hid HQ8.out.1
  have HR8 := Lib.hid (R_arr (R_arr (Kd.R_below HR4.out HB6.out) hA6 HQ7.out.2) hB7 HQ8.out.2)
  have hb4 : base ≤ W4.heap.size := Nat.le_trans hb (by have := HB4.out.size; omega)
  have HBB := Lib.hid (HB4.out.trans (hC8.below hb4 (by simp; omega)))
  clear hA6 hB6 hB7 hC7 hC8 HQ7 HQ8 HB5 HB6 HBD hD4 HT HA4 HR4 HB4 HSX hHeld HX HY x0
  go_upto_region 12 with fail
  have hR8 := HR8.out
  rw [show (xs ++ [(3 : Int)]).length = xs.length + 1 from by simp] at hR8
  have HR8 := Lib.hid (Kd.R_below hR8 (Below.refl _ W8).drew)
  have HA9 := Lib.hid HA8.out.drew
  have HB9 := Lib.hid HB8'.out.drew
  have HBB := Lib.hid (HBB.out.drew)
  have HSZ : Hid (((xs ++ [3]).length + 8) * 1 ≤ 140737488355328) := Lib.hid (by simp; omega)
  have hb8 : base ≤ W8.drew.heap.size := Nat.le_trans hb HBB.out.size
  have hO3 := HO3.out
  rw [show (xs ++ [(3 : Int)]).length = xs.length + 1 from by simp] at hO3
  have HO3 := Lib.hid hO3
  clear hR8 hb4 hO3
  refine start_ (n := 7) (S := fun _ => True) (ds := []) #[false, false, false, false, false, false, false] (by kernel_rfl) rfl rfl trivial (fun hHeld => ?_)
  refine with_tabW tab64d bits64d (fun HT_ HW_ => ?_)
  generalize W8.drew = W9 at hHeld HR8 HA9 HB9 HBB hb8 ⊢
  refine pure_ (i := 0) (N := some 45) (v := ?_) (a' := ?_) #[true, false, false, false, false, false, false] rfl rfl (any_of HT_.out (by kernel_rfl)) (fun _ _ _ h => h) (Or.inl ⟨by rfl, ?_⟩) ?_ ?_
  rotate_left
  · intro w'
    go_simp
    with_reducible rfl
  rotate_left
  · simp only [Act.put, List.setIfInBounds_toArray, List.set_cons_zero, List.set_cons_succ, i64_w, i32_w]
    rfl
  refine pure_ (i := 1) (N := some 46) (v := ?_) (a' := ?_) #[true, true, false, false, false, false, false] rfl rfl (any_of HT_.out (by kernel_rfl)) (fun _ _ _ h => h) (Or.inl ⟨by rfl, ?_⟩) ?_ ?_
  rotate_left
  · intro w'
    go_simp
    with_reducible rfl
  rotate_left
  · simp only [Act.put, List.setIfInBounds_toArray, List.set_cons_zero, List.set_cons_succ, i64_w, i32_w]
    rfl
  refine pure_ (i := 3) (N := some 48) (v := ?_) (a' := ?_) #[true, true, false, true, false, false, false] rfl rfl (any_of HT_.out (by kernel_rfl)) (fun _ _ _ h => h) (Or.inl ⟨by rfl, ?_⟩) ?_ ?_
  rotate_left
  · intro w'
    go_simp
    with_reducible rfl
  rotate_left
  · simp only [Act.put, List.setIfInBounds_toArray, List.set_cons_zero, List.set_cons_succ, i64_w, i32_w]
    rfl
  refine one_ (i := 2) (N := some 47) #[true, true, true, true, false, false, false] rfl rfl (one_of HT_.out (by kernel_rfl)) (by decide) (fun K hK => ?_)
  refine Kd.R_append_rows_step (Kd.int .u8) (w0 := w) base (by rfl) (.tmp 45) (.tmp 46) 45 5 (.int .u8 0) 1 rfl Try.underlying45 info5 rfl (by decide) (by omega) (.slice A3 (xs.length + 1) c3) (xs ++ [3]) (by8 (x : Int)) (some ⟨w3.heap.size, 0, none⟩) 8 8 (fun _ => True) (fun _ => False) rfl rfl HR8.out (C_blk HA9.out (by8 (x : Int)) rfl (by8_len _)) (fun x cs hc => hc) (fun _ hk => hk.elim) (fun _ _ => trivial) HBB.out hb8 HSZ.out ?_
  intro va wa hRa hba hga hata
  obtain ⟨Aa, ca, rfl⟩ := Kd.R_slice hRa
  have HB10 := Lib.hid (HB9.out.chg (chg_opt hga) (fun hx => by have := HO3.out (w3.heap.size + 1) (by simpa using hx); omega))
  rw [show (xs ++ [(3 : Int)] ++ by8 (x : Int)).length = xs.length + 9 from by simp [by8]] at hRa ⊢
  have HRa := Lib.hid hRa
  have HBa := Lib.hid hba
  have hb10 : base ≤ wa.heap.size := Nat.le_trans hb8 hga.size
  have HSZ2 : Hid (((xs ++ [(3 : Int)] ++ by8 (x : Int)).length + 8) * 1 ≤ 140737488355328) := Lib.hid (by simp [by8]; omega)
  refine hK.out _ _ trivial (fun hHeld => ?_)
  clear hK K hRa hba hga hata
  refine norm_ (a' := ?_) ?_ ?_
  rotate_left
  · show Act.put _ (some 47) _ = _
    simp only [Act.put, List.setIfInBounds_toArray, List.set_cons_zero, List.set_cons_succ, i64_w, i32_w]
    rfl
  refine one_ (i := 4) (N := some 49) #[true, true, true, true, true, false, false] rfl rfl (one_of HT_.out (by kernel_rfl)) (by decide) (fun K hK => ?_)
  refine Kd.R_append_rows_step (Kd.int .u8) (w0 := w) base (by rfl) (.tmp 47) (.tmp 48) 45 5 (.int .u8 0) 1 rfl Try.underlying45 info5 rfl (by decide) (by omega) (.slice Aa (xs.length + 9) ca) (xs ++ [3] ++ by8 (x : Int)) (by8 (y : Int)) (some ⟨w3.heap.size + 1, 0, none⟩) 8 8 (fun _ => True) (fun _ => False) rfl rfl HRa.out (C_blk HB10.out (by8 (y : Int)) rfl (by8_len _)) (fun x cs hc => hc) (fun _ hk => hk.elim) (fun _ _ => trivial) HBa.out hb10 HSZ2.out ?_
  intro vb wb hRb hbb hgb hatb
  have HRb := Lib.hid hRb
  have HBb := Lib.hid hbb
  refine hK.out _ _ trivial (fun hHeld => ?_)
  clear hK K hRb hbb hgb hatb
  refine norm_ (a' := ?_) ?_ ?_
  rotate_left
  · show Act.put _ (some 49) _ = _
    simp only [Act.put, List.setIfInBounds_toArray, List.set_cons_zero, List.set_cons_succ, i64_w, i32_w]
    rfl
  refine pure_ (i := 5) (N := some 4) (v := ?_) (a' := ?_) #[true, true, true, true, true, true, false] rfl rfl (any_of HT_.out (by kernel_rfl)) (fun _ _ _ h => h) (Or.inl ⟨by rfl, ?_⟩) ?_ ?_
  rotate_left
  · intro w'
    go_simp
    with_reducible rfl
  rotate_left
  · simp only [Act.put, List.setIfInBounds_toArray, List.set_cons_zero, List.set_cons_succ, i64_w, i32_w]
    rfl
  refine pure_ (i := 6) (N := some 5) (v := ?_) (a' := ?_) #[true, true, true, true, true, true, true] rfl rfl (any_of HT_.out (by kernel_rfl)) (fun _ _ _ h => h) (Or.inl ⟨by rfl, ?_⟩) ?_ ?_
  rotate_left
  · intro w'
    go_simp
    with_reducible rfl
  rotate_left
  · simp only [Act.put, List.setIfInBounds_toArray, List.set_cons_zero, List.set_cons_succ, i64_w, i32_w]
    rfl
  refine done_ (done_of HT_.out (by kernel_rfl)) ?_
  clear HT_ HW_
  go_wp2_with fail
  rw [← HPP.out]
  refine ⟨vb, rfl, ?_, HBb.out⟩
  have h := HRb.out
  rw [List.append_assoc, List.append_assoc] at h
  exact h
end Go.Proofs.Ytlbfnnngemonoaa.Wir
