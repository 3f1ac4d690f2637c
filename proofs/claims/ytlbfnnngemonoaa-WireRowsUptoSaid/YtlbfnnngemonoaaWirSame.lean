/- Values compared with themselves: Compare, Same, fields, same. -/
import Derived.Test.YtlbfnnngemonoaaWirVal
import Derived.StillTailTactics
namespace Go.Proofs.Ytlbfnnngemonoaa.Wir
open Go.RowKit Go.Proofs.Ytlbfnnngemonoaa.PWireReads
open Go.Proofs.Ytlbfnnngemonoaa.Fat (Blk Chg Off)
open Go.Proofs.YtlbfnnngemonoaaW.PrintWords Go.Proofs.YtlbfnnngemonoaaW.PrintLast Go.Proofs.YtlbfnnngemonoaaW.PrintMore
set_option linter.unusedVariables false
set_option linter.unusedSimpArgs false
attribute [local go_sem] run_store_float run_store_complex

def T78 : Bool × List (List Nat × List Nat) := (true, [([], []), ([0], [0]), ([], []), ([2, 1], [2]), ([1, 3, 0, 1], [1]), ([3, 4, 0, 1, 2, 3, 4], [3])])
def B78 : List Nat := [0, 1, 0, 7, 15, 31]
theorem tab78 : rtab .any (opsOf Try.f78 1) = T78 := by kernel_rfl
theorem bits78 : waitsOk T78.2 B78 = true := by kernel_rfl
theorem w64n (n : Nat) (h : n < 4611686018427387904) : wrap64 ((n : Int) + 1) = ((n + 1 : Nat) : Int) := by unfold wrap64; omega
theorem texts_self (s : ByteArray) (hs : s.size ≤ 4611686018427387000) : ∃ k, chordmailref02_Texts.f k s s = some 0 := by
  have go : ∀ d j : Nat, j + d = s.size → chordmailref02_Texts.l0 (2 * d + 2) s s j = some 0 := by
    intro d
    induction d with
    | zero =>
      intro j hj
      show chordmailref02_Texts.l0 (1 + 1) s s j = some 0
      rw [chordmailref02_Texts.l0, if_neg (by omega)]
      show chordmailref02_Texts.j1 (0 + 1) s s j false = some 0
      rw [chordmailref02_Texts.j1, if_neg (by simp), if_neg (by omega), if_neg (by omega)]
    | succ d ih =>
      intro j hj
      show chordmailref02_Texts.l0 ((2 * d + 3) + 1) s s j = some 0
      rw [chordmailref02_Texts.l0, if_pos (by omega)]
      show chordmailref02_Texts.j1 ((2 * d + 2) + 1) s s j _ = some 0
      have hd : decide ((j : Int) < (s.size : Int)) = true := by simp; omega
      rw [hd, chordmailref02_Texts.j1, if_pos rfl, if_pos (by omega), if_pos (by omega), if_pos (by omega), if_neg (Int.lt_irrefl _), if_neg (Int.lt_irrefl _), w64n j (by omega)]
      exact ih (j + 1) (by omega)
  exact ⟨2 * s.size + 2, go s.size 0 (by omega)⟩
/-- Both values laid into memory of their own. -/
theorem two_box (w : World) (a0 a1 a2 a3 a4 b0 b1 b2 b3 b4 : Value) : ∀ w', Below ((w.alloc (.cells #[a0, a1, a2, a3, a4] 50)).alloc (.cells #[b0, b1, b2, b3, b4] 50)).heap.size ((w.alloc (.cells #[a0, a1, a2, a3, a4] 50)).alloc (.cells #[b0, b1, b2, b3, b4] 50)) w' →
    w'.cell? ⟨w.heap.size, 0, none⟩ = some a0 ∧ w'.cell? ⟨w.heap.size, 1, none⟩ = some a1 ∧ w'.cell? ⟨w.heap.size, 2, none⟩ = some a2 ∧ w'.cell? ⟨w.heap.size, 3, none⟩ = some a3 ∧ w'.cell? ⟨w.heap.size, 4, none⟩ = some a4 ∧
    w'.cell? ⟨w.heap.size + 1, 0, none⟩ = some b0 ∧ w'.cell? ⟨w.heap.size + 1, 1, none⟩ = some b1 ∧ w'.cell? ⟨w.heap.size + 1, 2, none⟩ = some b2 ∧ w'.cell? ⟨w.heap.size + 1, 3, none⟩ = some b3 ∧ w'.cell? ⟨w.heap.size + 1, 4, none⟩ = some b4 := by
  intro w' hb
  obtain ⟨h1, h2, _⟩ := two_new w #[a0, a1, a2, a3, a4] #[b0, b1, b2, b3, b4] 50 50
  have g1 := h1.below hb h1.lt
  have g2 := h2.below hb h2.lt
  exact ⟨g1.cell 0, g1.cell 1, g1.cell 2, g1.cell 3, g1.cell 4, g2.cell 0, g2.cell 1, g2.cell 2, g2.cell 3, g2.cell 4⟩
set_option maxRecDepth 20000 in
set_option maxHeartbeats 2000000 in
theorem compare_self (v : V) (hv : Good v) (w : World) : Calls Try.prog 78 #[ag v, ag v] w fun e w' => e = .returned (.int .i64 0) ∧ Below w.heap.size w w' := by
  rcases hv with ⟨i, rfl⟩ | ⟨x, hx, rfl⟩ | ⟨x, y, hx, hy, rfl⟩ | ⟨s, hs, rfl⟩
  · show Calls Try.prog 78 #[.agg #[.int .i64 1, .int .i64 i, .float .f64 0, .complex .f64 0 0, .string ByteArray.empty], .agg #[.int .i64 1, .int .i64 i, .float .f64 0, .complex .f64 0 0, .string ByteArray.empty]] w fun e w' => e = .returned (.int .i64 0) ∧ Below w.heap.size w w'
    have hM : ∀ W : World, Calls Try.prog 76 #[.agg #[.int .i64 1, .int .i64 i, .float .f64 0, .complex .f64 0 0, .string ByteArray.empty]] W fun e w' => e = .returned (.bool true) ∧ Below W.heap.size W w' := fun W => by
      have h := rmay_any (vI i) (Good.shp (.inl ⟨i, rfl⟩)) W
      rw [Good.may (.inl ⟨i, rfl⟩)] at h
      exact h
    have HM := Lib.hid hM
    clear hM
    have HSS := Lib.hid (two_box w (.int .i64 1) (.int .i64 i) (.float .f64 0) (.complex .f64 0 0) (.string ByteArray.empty) (.int .i64 1) (.int .i64 i) (.float .f64 0) (.complex .f64 0 0) (.string ByteArray.empty))
    have HB0 := Lib.hid (two_new w #[.int .i64 1, .int .i64 i, .float .f64 0, .complex .f64 0 0, .string ByteArray.empty] #[.int .i64 1, .int .i64 i, .float .f64 0, .complex .f64 0 0, .string ByteArray.empty] 50 50).2.2
    go_enter Try.func78, Try.ntmps78
    go_upto_region 1 with fail
    generalize hWg : ((w.alloc (.cells #[.int .i64 1, .int .i64 i, .float .f64 0, .complex .f64 0 0, .string ByteArray.empty] 50)).alloc (.cells #[.int .i64 1, .int .i64 i, .float .f64 0, .complex .f64 0 0, .string ByteArray.empty] 50)) = W1 at HSS HB0 ⊢
    clear hWg
    refine start_ (n := 6) (S := fun w' => Below W1.heap.size W1 w') (ds := []) #[false, false, false, false, false, false] (by kernel_rfl) rfl rfl (Below.refl _ _).drew (fun hHeld => ?_)
    refine with_tabW tab78 bits78 (fun HT_ HW_ => ?_)
    generalize W1.drew = w4 at hHeld ⊢
    refine take_ (i := 0) (N := some 8) (v := ?_) (a' := ?_) #[true, false, false, false, false, false] rfl rfl (take_ofW HT_.out HW_.out (by kernel_rfl)) (fun _ _ _ h => h) (Or.inl ⟨by rfl, ?_⟩) hHeld ?_ ?_
    rotate_left
    · intro w' HS_
      obtain ⟨s0, s1, s2, s3, s4, t0, t1, t2, t3, t4⟩ := HSS.out _ HS_
      go_simp
      with_reducible rfl
    rotate_left
    · simp only [Act.put, List.setIfInBounds_toArray, List.set_cons_zero, List.set_cons_succ, i64_w, i32_w]
      rfl
    refine take_ (i := 2) (N := some 10) (v := ?_) (a' := ?_) #[true, false, true, false, false, false] rfl rfl (take_ofW HT_.out HW_.out (by kernel_rfl)) (fun _ _ _ h => h) (Or.inl ⟨by rfl, ?_⟩) hHeld ?_ ?_
    rotate_left
    · intro w' HS_
      obtain ⟨s0, s1, s2, s3, s4, t0, t1, t2, t3, t4⟩ := HSS.out _ HS_
      go_simp
      with_reducible rfl
    rotate_left
    · simp only [Act.put, List.setIfInBounds_toArray, List.set_cons_zero, List.set_cons_succ, i64_w, i32_w]
      rfl
    refine one_ (i := 1) (N := some 9) #[true, true, true, false, false, false] rfl rfl (one_of HT_.out (by kernel_rfl)) (by decide) (fun K hK => ?_)
    refine goes_ Try.func76 (by kernel_rfl) rfl #[.agg #[.int .i64 1, .int .i64 i, .float .f64 0, .complex .f64 0 0, .string ByteArray.empty]] (by rfl) rfl rfl (by simp only [List.map_toArray, List.map_cons, List.map_nil]; rfl) ?_
    refine (HM.out _).mono ?_
    rintro e w5 ⟨rfl, hd⟩
    refine ⟨_, rfl, ?_⟩
    refine hK.out _ _ (hHeld.trans (hd.mono hHeld.size)) (fun hHeld => ?_)
    clear hK K hd
    refine norm_ (a' := ?_) ?_ ?_
    rotate_left
    · show Act.put _ (some 9) _ = _
      simp only [Act.put, List.setIfInBounds_toArray, List.set_cons_zero, List.set_cons_succ, i64_w, i32_w]
      rfl
    refine one_ (i := 3) (N := some 11) #[true, true, true, true, false, false] rfl rfl (one_of HT_.out (by kernel_rfl)) (by decide) (fun K hK => ?_)
    refine goes_ Try.func76 (by kernel_rfl) rfl #[.agg #[.int .i64 1, .int .i64 i, .float .f64 0, .complex .f64 0 0, .string ByteArray.empty]] (by rfl) rfl rfl (by simp only [List.map_toArray, List.map_cons, List.map_nil]; rfl) ?_
    refine (HM.out _).mono ?_
    rintro e w5 ⟨rfl, hd⟩
    refine ⟨_, rfl, ?_⟩
    refine hK.out _ _ (hHeld.trans (hd.mono hHeld.size)) (fun hHeld => ?_)
    clear hK K hd
    refine norm_ (a' := ?_) ?_ ?_
    rotate_left
    · show Act.put _ (some 11) _ = _
      simp only [Act.put, List.setIfInBounds_toArray, List.set_cons_zero, List.set_cons_succ, i64_w, i32_w]
      rfl
    refine pure_ (i := 4) (N := some 5) (v := ?_) (a' := ?_) #[true, true, true, true, true, false] rfl rfl (any_of HT_.out (by kernel_rfl)) (fun _ _ _ h => h) (Or.inl ⟨by rfl, ?_⟩) ?_ ?_
    rotate_left
    · intro w'
      go_simp
      with_reducible rfl
    rotate_left
    · simp only [Act.put, List.setIfInBounds_toArray, List.set_cons_zero, List.set_cons_succ, i64_w, i32_w]
      rfl
    refine pure_ (i := 5) (N := some 6) (v := ?_) (a' := ?_) #[true, true, true, true, true, true] rfl rfl (any_of HT_.out (by kernel_rfl)) (fun _ _ _ h => h) (Or.inl ⟨by rfl, ?_⟩) ?_ ?_
    rotate_left
    · intro w'
      go_simp
      with_reducible rfl
    rotate_left
    · simp only [Act.put, List.setIfInBounds_toArray, List.set_cons_zero, List.set_cons_succ, i64_w, i32_w]
      rfl
    refine done_ (done_of HT_.out (by kernel_rfl)) ?_
    clear HT_ HW_
    obtain ⟨wz, hwz⟩ : ∃ wz : World, wz = w5 := ⟨_, rfl⟩
    obtain ⟨x0, x1, x2, x3, x4, y0, y1, y2, y3, y4⟩ := HSS.out _ hHeld
    go_wp2_with fail
    go_ret
    exact ⟨rfl, HB0.out.trans (hHeld.mono HB0.out.size)⟩
  · show Calls Try.prog 78 #[.agg #[.int .i64 2, .int .i64 0, .float .f64 x, .complex .f64 0 0, .string ByteArray.empty], .agg #[.int .i64 2, .int .i64 0, .float .f64 x, .complex .f64 0 0, .string ByteArray.empty]] w fun e w' => e = .returned (.int .i64 0) ∧ Below w.heap.size w w'
    have hM : ∀ W : World, Calls Try.prog 76 #[.agg #[.int .i64 2, .int .i64 0, .float .f64 x, .complex .f64 0 0, .string ByteArray.empty]] W fun e w' => e = .returned (.bool true) ∧ Below W.heap.size W w' := fun W => by
      have h := rmay_any (vR x) (Good.shp (.inr (.inl ⟨x, hx, rfl⟩))) W
      rw [Good.may (.inr (.inl ⟨x, hx, rfl⟩))] at h
      exact h
    have HM := Lib.hid hM
    clear hM
    have HX := Lib.hid (fun W => reals_any x W)
    have HSS := Lib.hid (two_box w (.int .i64 2) (.int .i64 0) (.float .f64 x) (.complex .f64 0 0) (.string ByteArray.empty) (.int .i64 2) (.int .i64 0) (.float .f64 x) (.complex .f64 0 0) (.string ByteArray.empty))
    have HB0 := Lib.hid (two_new w #[.int .i64 2, .int .i64 0, .float .f64 x, .complex .f64 0 0, .string ByteArray.empty] #[.int .i64 2, .int .i64 0, .float .f64 x, .complex .f64 0 0, .string ByteArray.empty] 50 50).2.2
    go_enter Try.func78, Try.ntmps78
    go_upto_region 1 with fail
    generalize hWg : ((w.alloc (.cells #[.int .i64 2, .int .i64 0, .float .f64 x, .complex .f64 0 0, .string ByteArray.empty] 50)).alloc (.cells #[.int .i64 2, .int .i64 0, .float .f64 x, .complex .f64 0 0, .string ByteArray.empty] 50)) = W1 at HSS HB0 ⊢
    clear hWg
    refine start_ (n := 6) (S := fun w' => Below W1.heap.size W1 w') (ds := []) #[false, false, false, false, false, false] (by kernel_rfl) rfl rfl (Below.refl _ _).drew (fun hHeld => ?_)
    refine with_tabW tab78 bits78 (fun HT_ HW_ => ?_)
    generalize W1.drew = w4 at hHeld ⊢
    refine take_ (i := 0) (N := some 8) (v := ?_) (a' := ?_) #[true, false, false, false, false, false] rfl rfl (take_ofW HT_.out HW_.out (by kernel_rfl)) (fun _ _ _ h => h) (Or.inl ⟨by rfl, ?_⟩) hHeld ?_ ?_
    rotate_left
    · intro w' HS_
      obtain ⟨s0, s1, s2, s3, s4, t0, t1, t2, t3, t4⟩ := HSS.out _ HS_
      go_simp
      with_reducible rfl
    rotate_left
    · simp only [Act.put, List.setIfInBounds_toArray, List.set_cons_zero, List.set_cons_succ, i64_w, i32_w]
      rfl
    refine take_ (i := 2) (N := some 10) (v := ?_) (a' := ?_) #[true, false, true, false, false, false] rfl rfl (take_ofW HT_.out HW_.out (by kernel_rfl)) (fun _ _ _ h => h) (Or.inl ⟨by rfl, ?_⟩) hHeld ?_ ?_
    rotate_left
    · intro w' HS_
      obtain ⟨s0, s1, s2, s3, s4, t0, t1, t2, t3, t4⟩ := HSS.out _ HS_
      go_simp
      with_reducible rfl
    rotate_left
    · simp only [Act.put, List.setIfInBounds_toArray, List.set_cons_zero, List.set_cons_succ, i64_w, i32_w]
      rfl
    refine one_ (i := 1) (N := some 9) #[true, true, true, false, false, false] rfl rfl (one_of HT_.out (by kernel_rfl)) (by decide) (fun K hK => ?_)
    refine goes_ Try.func76 (by kernel_rfl) rfl #[.agg #[.int .i64 2, .int .i64 0, .float .f64 x, .complex .f64 0 0, .string ByteArray.empty]] (by rfl) rfl rfl (by simp only [List.map_toArray, List.map_cons, List.map_nil]; rfl) ?_
    refine (HM.out _).mono ?_
    rintro e w5 ⟨rfl, hd⟩
    refine ⟨_, rfl, ?_⟩
    refine hK.out _ _ (hHeld.trans (hd.mono hHeld.size)) (fun hHeld => ?_)
    clear hK K hd
    refine norm_ (a' := ?_) ?_ ?_
    rotate_left
    · show Act.put _ (some 9) _ = _
      simp only [Act.put, List.setIfInBounds_toArray, List.set_cons_zero, List.set_cons_succ, i64_w, i32_w]
      rfl
    refine one_ (i := 3) (N := some 11) #[true, true, true, true, false, false] rfl rfl (one_of HT_.out (by kernel_rfl)) (by decide) (fun K hK => ?_)
    refine goes_ Try.func76 (by kernel_rfl) rfl #[.agg #[.int .i64 2, .int .i64 0, .float .f64 x, .complex .f64 0 0, .string ByteArray.empty]] (by rfl) rfl rfl (by simp only [List.map_toArray, List.map_cons, List.map_nil]; rfl) ?_
    refine (HM.out _).mono ?_
    rintro e w5 ⟨rfl, hd⟩
    refine ⟨_, rfl, ?_⟩
    refine hK.out _ _ (hHeld.trans (hd.mono hHeld.size)) (fun hHeld => ?_)
    clear hK K hd
    refine norm_ (a' := ?_) ?_ ?_
    rotate_left
    · show Act.put _ (some 11) _ = _
      simp only [Act.put, List.setIfInBounds_toArray, List.set_cons_zero, List.set_cons_succ, i64_w, i32_w]
      rfl
    refine pure_ (i := 4) (N := some 5) (v := ?_) (a' := ?_) #[true, true, true, true, true, false] rfl rfl (any_of HT_.out (by kernel_rfl)) (fun _ _ _ h => h) (Or.inl ⟨by rfl, ?_⟩) ?_ ?_
    rotate_left
    · intro w'
      go_simp
      with_reducible rfl
    rotate_left
    · simp only [Act.put, List.setIfInBounds_toArray, List.set_cons_zero, List.set_cons_succ, i64_w, i32_w]
      rfl
    refine pure_ (i := 5) (N := some 6) (v := ?_) (a' := ?_) #[true, true, true, true, true, true] rfl rfl (any_of HT_.out (by kernel_rfl)) (fun _ _ _ h => h) (Or.inl ⟨by rfl, ?_⟩) ?_ ?_
    rotate_left
    · intro w'
      go_simp
      with_reducible rfl
    rotate_left
    · simp only [Act.put, List.setIfInBounds_toArray, List.set_cons_zero, List.set_cons_succ, i64_w, i32_w]
      rfl
    refine done_ (done_of HT_.out (by kernel_rfl)) ?_
    clear HT_ HW_
    obtain ⟨wz, hwz⟩ : ∃ wz : World, wz = w5 := ⟨_, rfl⟩
    obtain ⟨x0, x1, x2, x3, x4, y0, y1, y2, y3, y4⟩ := HSS.out _ hHeld
    go_wp2_with fail
    refine (HX.out _).mono ?_
    rintro e w7 ⟨rfl, hb7⟩
    have hB7 := hHeld.trans (hb7.mono hHeld.size)
    go_wp2_with fail
    go_ret
    exact ⟨rfl, HB0.out.trans (hB7.mono HB0.out.size)⟩
  · show Calls Try.prog 78 #[.agg #[.int .i64 3, .int .i64 0, .float .f64 0, .complex .f64 x y, .string ByteArray.empty], .agg #[.int .i64 3, .int .i64 0, .float .f64 0, .complex .f64 x y, .string ByteArray.empty]] w fun e w' => e = .returned (.int .i64 0) ∧ Below w.heap.size w w'
    have hM : ∀ W : World, Calls Try.prog 76 #[.agg #[.int .i64 3, .int .i64 0, .float .f64 0, .complex .f64 x y, .string ByteArray.empty]] W fun e w' => e = .returned (.bool true) ∧ Below W.heap.size W w' := fun W => by
      have h := rmay_any (vC x y) (Good.shp (.inr (.inr (.inl ⟨x, y, hx, hy, rfl⟩)))) W
      rw [Good.may (.inr (.inr (.inl ⟨x, y, hx, hy, rfl⟩)))] at h
      exact h
    have HM := Lib.hid hM
    clear hM
    have HX := Lib.hid (fun W => reals_any x W)
    have HY := Lib.hid (fun W => reals_any y W)
    have HSS := Lib.hid (two_box w (.int .i64 3) (.int .i64 0) (.float .f64 0) (.complex .f64 x y) (.string ByteArray.empty) (.int .i64 3) (.int .i64 0) (.float .f64 0) (.complex .f64 x y) (.string ByteArray.empty))
    have HB0 := Lib.hid (two_new w #[.int .i64 3, .int .i64 0, .float .f64 0, .complex .f64 x y, .string ByteArray.empty] #[.int .i64 3, .int .i64 0, .float .f64 0, .complex .f64 x y, .string ByteArray.empty] 50 50).2.2
    go_enter Try.func78, Try.ntmps78
    go_upto_region 1 with fail
    generalize hWg : ((w.alloc (.cells #[.int .i64 3, .int .i64 0, .float .f64 0, .complex .f64 x y, .string ByteArray.empty] 50)).alloc (.cells #[.int .i64 3, .int .i64 0, .float .f64 0, .complex .f64 x y, .string ByteArray.empty] 50)) = W1 at HSS HB0 ⊢
    clear hWg
    refine start_ (n := 6) (S := fun w' => Below W1.heap.size W1 w') (ds := []) #[false, false, false, false, false, false] (by kernel_rfl) rfl rfl (Below.refl _ _).drew (fun hHeld => ?_)
    refine with_tabW tab78 bits78 (fun HT_ HW_ => ?_)
    generalize W1.drew = w4 at hHeld ⊢
    refine take_ (i := 0) (N := some 8) (v := ?_) (a' := ?_) #[true, false, false, false, false, false] rfl rfl (take_ofW HT_.out HW_.out (by kernel_rfl)) (fun _ _ _ h => h) (Or.inl ⟨by rfl, ?_⟩) hHeld ?_ ?_
    rotate_left
    · intro w' HS_
      obtain ⟨s0, s1, s2, s3, s4, t0, t1, t2, t3, t4⟩ := HSS.out _ HS_
      go_simp
      with_reducible rfl
    rotate_left
    · simp only [Act.put, List.setIfInBounds_toArray, List.set_cons_zero, List.set_cons_succ, i64_w, i32_w]
      rfl
    refine take_ (i := 2) (N := some 10) (v := ?_) (a' := ?_) #[true, false, true, false, false, false] rfl rfl (take_ofW HT_.out HW_.out (by kernel_rfl)) (fun _ _ _ h => h) (Or.inl ⟨by rfl, ?_⟩) hHeld ?_ ?_
    rotate_left
    · intro w' HS_
      obtain ⟨s0, s1, s2, s3, s4, t0, t1, t2, t3, t4⟩ := HSS.out _ HS_
      go_simp
      with_reducible rfl
    rotate_left
    · simp only [Act.put, List.setIfInBounds_toArray, List.set_cons_zero, List.set_cons_succ, i64_w, i32_w]
      rfl
    refine one_ (i := 1) (N := some 9) #[true, true, true, false, false, false] rfl rfl (one_of HT_.out (by kernel_rfl)) (by decide) (fun K hK => ?_)
    refine goes_ Try.func76 (by kernel_rfl) rfl #[.agg #[.int .i64 3, .int .i64 0, .float .f64 0, .complex .f64 x y, .string ByteArray.empty]] (by rfl) rfl rfl (by simp only [List.map_toArray, List.map_cons, List.map_nil]; rfl) ?_
    refine (HM.out _).mono ?_
    rintro e w5 ⟨rfl, hd⟩
    refine ⟨_, rfl, ?_⟩
    refine hK.out _ _ (hHeld.trans (hd.mono hHeld.size)) (fun hHeld => ?_)
    clear hK K hd
    refine norm_ (a' := ?_) ?_ ?_
    rotate_left
    · show Act.put _ (some 9) _ = _
      simp only [Act.put, List.setIfInBounds_toArray, List.set_cons_zero, List.set_cons_succ, i64_w, i32_w]
      rfl
    refine one_ (i := 3) (N := some 11) #[true, true, true, true, false, false] rfl rfl (one_of HT_.out (by kernel_rfl)) (by decide) (fun K hK => ?_)
    refine goes_ Try.func76 (by kernel_rfl) rfl #[.agg #[.int .i64 3, .int .i64 0, .float .f64 0, .complex .f64 x y, .string ByteArray.empty]] (by rfl) rfl rfl (by simp only [List.map_toArray, List.map_cons, List.map_nil]; rfl) ?_
    refine (HM.out _).mono ?_
    rintro e w5 ⟨rfl, hd⟩
    refine ⟨_, rfl, ?_⟩
    refine hK.out _ _ (hHeld.trans (hd.mono hHeld.size)) (fun hHeld => ?_)
    clear hK K hd
    refine norm_ (a' := ?_) ?_ ?_
    rotate_left
    · show Act.put _ (some 11) _ = _
      simp only [Act.put, List.setIfInBounds_toArray, List.set_cons_zero, List.set_cons_succ, i64_w, i32_w]
      rfl
    refine pure_ (i := 4) (N := some 5) (v := ?_) (a' := ?_) #[true, true, true, true, true, false] rfl rfl (any_of HT_.out (by kernel_rfl)) (fun _ _ _ h => h) (Or.inl ⟨by rfl, ?_⟩) ?_ ?_
    rotate_left
    · intro w'
      go_simp
      with_reducible rfl
    rotate_left
    · simp only [Act.put, List.setIfInBounds_toArray, List.set_cons_zero, List.set_cons_succ, i64_w, i32_w]
      rfl
    refine pure_ (i := 5) (N := some 6) (v := ?_) (a' := ?_) #[true, true, true, true, true, true] rfl rfl (any_of HT_.out (by kernel_rfl)) (fun _ _ _ h => h) (Or.inl ⟨by rfl, ?_⟩) ?_ ?_
    rotate_left
    · intro w'
      go_simp
      with_reducible rfl
    rotate_left
    · simp only [Act.put, List.setIfInBounds_toArray, List.set_cons_zero, List.set_cons_succ, i64_w, i32_w]
      rfl
    refine done_ (done_of HT_.out (by kernel_rfl)) ?_
    clear HT_ HW_
    obtain ⟨wz, hwz⟩ : ∃ wz : World, wz = w5 := ⟨_, rfl⟩
    obtain ⟨x0, x1, x2, x3, x4, y0, y1, y2, y3, y4⟩ := HSS.out _ hHeld
    go_wp2_with fail
    refine (HX.out _).mono ?_
    rintro e w7 ⟨rfl, hb7⟩
    have hB7 := hHeld.trans (hb7.mono hHeld.size)
    clear x0 x1 x2 x3 x4 y0 y1 y2 y3 y4
    obtain ⟨x0, x1, x2, x3, x4, y0, y1, y2, y3, y4⟩ := HSS.out _ hB7
    go_wp2_with fail
    refine (HY.out _).mono ?_
    rintro e w8 ⟨rfl, hb8⟩
    have hB8 := hB7.trans (hb8.mono hB7.size)
    go_wp2_with fail
    go_ret
    exact ⟨rfl, HB0.out.trans (hB8.mono HB0.out.size)⟩
  · show Calls Try.prog 78 #[.agg #[.int .i64 4, .int .i64 0, .float .f64 0, .complex .f64 0 0, .string s], .agg #[.int .i64 4, .int .i64 0, .float .f64 0, .complex .f64 0 0, .string s]] w fun e w' => e = .returned (.int .i64 0) ∧ Below w.heap.size w w'
    have hM : ∀ W : World, Calls Try.prog 76 #[.agg #[.int .i64 4, .int .i64 0, .float .f64 0, .complex .f64 0 0, .string s]] W fun e w' => e = .returned (.bool true) ∧ Below W.heap.size W w' := fun W => by
      have h := rmay_any (vT s) (Good.shp (.inr (.inr (.inr ⟨s, hs, rfl⟩)))) W
      rw [Good.may (.inr (.inr (.inr ⟨s, hs, rfl⟩)))] at h
      exact h
    have HM := Lib.hid hM
    clear hM
    obtain ⟨kt, hkt⟩ := texts_self s (by omega)
    have HX := Lib.hid (fun W => chordmailref02_Texts.calls kt s s 0 W hkt)
    clear hkt
    have HSS := Lib.hid (two_box w (.int .i64 4) (.int .i64 0) (.float .f64 0) (.complex .f64 0 0) (.string s) (.int .i64 4) (.int .i64 0) (.float .f64 0) (.complex .f64 0 0) (.string s))
    have HB0 := Lib.hid (two_new w #[.int .i64 4, .int .i64 0, .float .f64 0, .complex .f64 0 0, .string s] #[.int .i64 4, .int .i64 0, .float .f64 0, .complex .f64 0 0, .string s] 50 50).2.2
    go_enter Try.func78, Try.ntmps78
    go_upto_region 1 with fail
    generalize hWg : ((w.alloc (.cells #[.int .i64 4, .int .i64 0, .float .f64 0, .complex .f64 0 0, .string s] 50)).alloc (.cells #[.int .i64 4, .int .i64 0, .float .f64 0, .complex .f64 0 0, .string s] 50)) = W1 at HSS HB0 ⊢
    clear hWg
    refine start_ (n := 6) (S := fun w' => Below W1.heap.size W1 w') (ds := []) #[false, false, false, false, false, false] (by kernel_rfl) rfl rfl (Below.refl _ _).drew (fun hHeld => ?_)
    refine with_tabW tab78 bits78 (fun HT_ HW_ => ?_)
    generalize W1.drew = w4 at hHeld ⊢
    refine take_ (i := 0) (N := some 8) (v := ?_) (a' := ?_) #[true, false, false, false, false, false] rfl rfl (take_ofW HT_.out HW_.out (by kernel_rfl)) (fun _ _ _ h => h) (Or.inl ⟨by rfl, ?_⟩) hHeld ?_ ?_
    rotate_left
    · intro w' HS_
      obtain ⟨s0, s1, s2, s3, s4, t0, t1, t2, t3, t4⟩ := HSS.out _ HS_
      go_simp
      with_reducible rfl
    rotate_left
    · simp only [Act.put, List.setIfInBounds_toArray, List.set_cons_zero, List.set_cons_succ, i64_w, i32_w]
      rfl
    refine take_ (i := 2) (N := some 10) (v := ?_) (a' := ?_) #[true, false, true, false, false, false] rfl rfl (take_ofW HT_.out HW_.out (by kernel_rfl)) (fun _ _ _ h => h) (Or.inl ⟨by rfl, ?_⟩) hHeld ?_ ?_
    rotate_left
    · intro w' HS_
      obtain ⟨s0, s1, s2, s3, s4, t0, t1, t2, t3, t4⟩ := HSS.out _ HS_
      go_simp
      with_reducible rfl
    rotate_left
    · simp only [Act.put, List.setIfInBounds_toArray, List.set_cons_zero, List.set_cons_succ, i64_w, i32_w]
      rfl
    refine one_ (i := 1) (N := some 9) #[true, true, true, false, false, false] rfl rfl (one_of HT_.out (by kernel_rfl)) (by decide) (fun K hK => ?_)
    refine goes_ Try.func76 (by kernel_rfl) rfl #[.agg #[.int .i64 4, .int .i64 0, .float .f64 0, .complex .f64 0 0, .string s]] (by rfl) rfl rfl (by simp only [List.map_toArray, List.map_cons, List.map_nil]; rfl) ?_
    refine (HM.out _).mono ?_
    rintro e w5 ⟨rfl, hd⟩
    refine ⟨_, rfl, ?_⟩
    refine hK.out _ _ (hHeld.trans (hd.mono hHeld.size)) (fun hHeld => ?_)
    clear hK K hd
    refine norm_ (a' := ?_) ?_ ?_
    rotate_left
    · show Act.put _ (some 9) _ = _
      simp only [Act.put, List.setIfInBounds_toArray, List.set_cons_zero, List.set_cons_succ, i64_w, i32_w]
      rfl
    refine one_ (i := 3) (N := some 11) #[true, true, true, true, false, false] rfl rfl (one_of HT_.out (by kernel_rfl)) (by decide) (fun K hK => ?_)
    refine goes_ Try.func76 (by kernel_rfl) rfl #[.agg #[.int .i64 4, .int .i64 0, .float .f64 0, .complex .f64 0 0, .string s]] (by rfl) rfl rfl (by simp only [List.map_toArray, List.map_cons, List.map_nil]; rfl) ?_
    refine (HM.out _).mono ?_
    rintro e w5 ⟨rfl, hd⟩
    refine ⟨_, rfl, ?_⟩
    refine hK.out _ _ (hHeld.trans (hd.mono hHeld.size)) (fun hHeld => ?_)
    clear hK K hd
    refine norm_ (a' := ?_) ?_ ?_
    rotate_left
    · show Act.put _ (some 11) _ = _
      simp only [Act.put, List.setIfInBounds_toArray, List.set_cons_zero, List.set_cons_succ, i64_w, i32_w]
      rfl
    refine pure_ (i := 4) (N := some 5) (v := ?_) (a' := ?_) #[true, true, true, true, true, false] rfl rfl (any_of HT_.out (by kernel_rfl)) (fun _ _ _ h => h) (Or.inl ⟨by rfl, ?_⟩) ?_ ?_
    rotate_left
    · intro w'
      go_simp
      with_reducible rfl
    rotate_left
    · simp only [Act.put, List.setIfInBounds_toArray, List.set_cons_zero, List.set_cons_succ, i64_w, i32_w]
      rfl
    refine pure_ (i := 5) (N := some 6) (v := ?_) (a' := ?_) #[true, true, true, true, true, true] rfl rfl (any_of HT_.out (by kernel_rfl)) (fun _ _ _ h => h) (Or.inl ⟨by rfl, ?_⟩) ?_ ?_
    rotate_left
    · intro w'
      go_simp
      with_reducible rfl
    rotate_left
    · simp only [Act.put, List.setIfInBounds_toArray, List.set_cons_zero, List.set_cons_succ, i64_w, i32_w]
      rfl
    refine done_ (done_of HT_.out (by kernel_rfl)) ?_
    clear HT_ HW_
    obtain ⟨wz, hwz⟩ : ∃ wz : World, wz = w5 := ⟨_, rfl⟩
    obtain ⟨x0, x1, x2, x3, x4, y0, y1, y2, y3, y4⟩ := HSS.out _ hHeld
    go_wp2_with fail
    refine (HX.out _).mono ?_
    rintro e w7 ⟨rfl, hd7⟩
    have hb7 := hd7.below
    have hB7 := hHeld.trans (hb7.mono hHeld.size)
    go_wp2_with fail
    go_ret
    exact ⟨rfl, HB0.out.trans (hB7.mono HB0.out.size)⟩
set_option maxRecDepth 20000 in
set_option maxHeartbeats 2000000 in
theorem same_self (v : V) (hv : Good v) (w : World) : Calls Try.prog 61 #[ag v, ag v] w fun e w' => e = .returned (.bool true) ∧ Below w.heap.size w w' := by
  rcases hv with ⟨i, rfl⟩ | ⟨x, hx, rfl⟩ | ⟨x, y, hx, hy, rfl⟩ | ⟨s, hs, rfl⟩
  · show Calls Try.prog 61 #[.agg #[.int .i64 1, .int .i64 i, .float .f64 0, .complex .f64 0 0, .string ByteArray.empty], .agg #[.int .i64 1, .int .i64 i, .float .f64 0, .complex .f64 0 0, .string ByteArray.empty]] w fun e w' => e = .returned (.bool true) ∧ Below w.heap.size w w'
    have HC := Lib.hid (fun W => compare_self (vI i) (.inl ⟨i, rfl⟩) W)
    have HSS := Lib.hid (two_box w (.int .i64 1) (.int .i64 i) (.float .f64 0) (.complex .f64 0 0) (.string ByteArray.empty) (.int .i64 1) (.int .i64 i) (.float .f64 0) (.complex .f64 0 0) (.string ByteArray.empty))
    have HB0 := Lib.hid (two_new w #[.int .i64 1, .int .i64 i, .float .f64 0, .complex .f64 0 0, .string ByteArray.empty] #[.int .i64 1, .int .i64 i, .float .f64 0, .complex .f64 0 0, .string ByteArray.empty] 50 50).2.2
    go_enter Try.func61, Try.ntmps61
    go_upto_region 1 with fail
    generalize hWg : ((w.alloc (.cells #[.int .i64 1, .int .i64 i, .float .f64 0, .complex .f64 0 0, .string ByteArray.empty] 50)).alloc (.cells #[.int .i64 1, .int .i64 i, .float .f64 0, .complex .f64 0 0, .string ByteArray.empty] 50)) = W1 at HSS HB0 ⊢
    clear hWg
    obtain ⟨x0, x1, x2, x3, x4, y0, y1, y2, y3, y4⟩ := HSS.out _ (Below.refl _ _)
    go_wp2_with fail
    refine (HC.out _).mono ?_
    rintro e w7 ⟨rfl, hb7⟩
    go_wp2_with fail
    go_ret
    exact ⟨rfl, HB0.out.trans (hb7.mono HB0.out.size)⟩
  · show Calls Try.prog 61 #[.agg #[.int .i64 2, .int .i64 0, .float .f64 x, .complex .f64 0 0, .string ByteArray.empty], .agg #[.int .i64 2, .int .i64 0, .float .f64 x, .complex .f64 0 0, .string ByteArray.empty]] w fun e w' => e = .returned (.bool true) ∧ Below w.heap.size w w'
    have HC := Lib.hid (fun W => compare_self (vR x) (.inr (.inl ⟨x, hx, rfl⟩)) W)
    have HSS := Lib.hid (two_box w (.int .i64 2) (.int .i64 0) (.float .f64 x) (.complex .f64 0 0) (.string ByteArray.empty) (.int .i64 2) (.int .i64 0) (.float .f64 x) (.complex .f64 0 0) (.string ByteArray.empty))
    have HB0 := Lib.hid (two_new w #[.int .i64 2, .int .i64 0, .float .f64 x, .complex .f64 0 0, .string ByteArray.empty] #[.int .i64 2, .int .i64 0, .float .f64 x, .complex .f64 0 0, .string ByteArray.empty] 50 50).2.2
    go_enter Try.func61, Try.ntmps61
    go_upto_region 1 with fail
    generalize hWg : ((w.alloc (.cells #[.int .i64 2, .int .i64 0, .float .f64 x, .complex .f64 0 0, .string ByteArray.empty] 50)).alloc (.cells #[.int .i64 2, .int .i64 0, .float .f64 x, .complex .f64 0 0, .string ByteArray.empty] 50)) = W1 at HSS HB0 ⊢
    clear hWg
    obtain ⟨x0, x1, x2, x3, x4, y0, y1, y2, y3, y4⟩ := HSS.out _ (Below.refl _ _)
    go_wp2_with fail
    refine (HC.out _).mono ?_
    rintro e w7 ⟨rfl, hb7⟩
    go_wp2_with fail
    go_ret
    exact ⟨rfl, HB0.out.trans (hb7.mono HB0.out.size)⟩
  · show Calls Try.prog 61 #[.agg #[.int .i64 3, .int .i64 0, .float .f64 0, .complex .f64 x y, .string ByteArray.empty], .agg #[.int .i64 3, .int .i64 0, .float .f64 0, .complex .f64 x y, .string ByteArray.empty]] w fun e w' => e = .returned (.bool true) ∧ Below w.heap.size w w'
    have HC := Lib.hid (fun W => compare_self (vC x y) (.inr (.inr (.inl ⟨x, y, hx, hy, rfl⟩))) W)
    have HSS := Lib.hid (two_box w (.int .i64 3) (.int .i64 0) (.float .f64 0) (.complex .f64 x y) (.string ByteArray.empty) (.int .i64 3) (.int .i64 0) (.float .f64 0) (.complex .f64 x y) (.string ByteArray.empty))
    have HB0 := Lib.hid (two_new w #[.int .i64 3, .int .i64 0, .float .f64 0, .complex .f64 x y, .string ByteArray.empty] #[.int .i64 3, .int .i64 0, .float .f64 0, .complex .f64 x y, .string ByteArray.empty] 50 50).2.2
    go_enter Try.func61, Try.ntmps61
    go_upto_region 1 with fail
    generalize hWg : ((w.alloc (.cells #[.int .i64 3, .int .i64 0, .float .f64 0, .complex .f64 x y, .string ByteArray.empty] 50)).alloc (.cells #[.int .i64 3, .int .i64 0, .float .f64 0, .complex .f64 x y, .string ByteArray.empty] 50)) = W1 at HSS HB0 ⊢
    clear hWg
    obtain ⟨x0, x1, x2, x3, x4, y0, y1, y2, y3, y4⟩ := HSS.out _ (Below.refl _ _)
    go_wp2_with fail
    refine (HC.out _).mono ?_
    rintro e w7 ⟨rfl, hb7⟩
    go_wp2_with fail
    go_ret
    exact ⟨rfl, HB0.out.trans (hb7.mono HB0.out.size)⟩
  · show Calls Try.prog 61 #[.agg #[.int .i64 4, .int .i64 0, .float .f64 0, .complex .f64 0 0, .string s], .agg #[.int .i64 4, .int .i64 0, .float .f64 0, .complex .f64 0 0, .string s]] w fun e w' => e = .returned (.bool true) ∧ Below w.heap.size w w'
    have HC := Lib.hid (fun W => compare_self (vT s) (.inr (.inr (.inr ⟨s, hs, rfl⟩))) W)
    have HSS := Lib.hid (two_box w (.int .i64 4) (.int .i64 0) (.float .f64 0) (.complex .f64 0 0) (.string s) (.int .i64 4) (.int .i64 0) (.float .f64 0) (.complex .f64 0 0) (.string s))
    have HB0 := Lib.hid (two_new w #[.int .i64 4, .int .i64 0, .float .f64 0, .complex .f64 0 0, .string s] #[.int .i64 4, .int .i64 0, .float .f64 0, .complex .f64 0 0, .string s] 50 50).2.2
    go_enter Try.func61, Try.ntmps61
    go_upto_region 1 with fail
    generalize hWg : ((w.alloc (.cells #[.int .i64 4, .int .i64 0, .float .f64 0, .complex .f64 0 0, .string s] 50)).alloc (.cells #[.int .i64 4, .int .i64 0, .float .f64 0, .complex .f64 0 0, .string s] 50)) = W1 at HSS HB0 ⊢
    clear hWg
    obtain ⟨x0, x1, x2, x3, x4, y0, y1, y2, y3, y4⟩ := HSS.out _ (Below.refl _ _)
    go_wp2_with fail
    refine (HC.out _).mono ?_
    rintro e w7 ⟨rfl, hb7⟩
    go_wp2_with fail
    go_ret
    exact ⟨rfl, HB0.out.trans (hb7.mono HB0.out.size)⟩
set_option maxRecDepth 20000 in
set_option maxHeartbeats 4000000 in
theorem fields_self (k i : Int) (r p q : Nat) (s : ByteArray) (w : World) : Calls Try.prog 62 #[.agg #[.int .i64 k, .int .i64 i, .float .f64 r, .complex .f64 p q, .string s], .agg #[.int .i64 k, .int .i64 i, .float .f64 r, .complex .f64 p q, .string s]] w fun e w' => e = .returned (.bool true) ∧ Below w.heap.size w w' := by
  have e1 : (k == k) = true := by simp
  have e2 : (i == i) = true := by simp
  have HSS := Lib.hid (two_box w (.int .i64 k) (.int .i64 i) (.float .f64 r) (.complex .f64 p q) (.string s) (.int .i64 k) (.int .i64 i) (.float .f64 r) (.complex .f64 p q) (.string s))
  have HB0 := Lib.hid (two_new w #[.int .i64 k, .int .i64 i, .float .f64 r, .complex .f64 p q, .string s] #[.int .i64 k, .int .i64 i, .float .f64 r, .complex .f64 p q, .string s] 50 50).2.2
  rcases order_self r with hr | hr <;> rcases order_self p with hp | hp <;> rcases order_self q with hq | hq
  all_goals
    go_enter Try.func62, Try.ntmps62
    go_upto_region 1 with fail
    generalize hWg : ((w.alloc (.cells #[.int .i64 k, .int .i64 i, .float .f64 r, .complex .f64 p q, .string s] 50)).alloc (.cells #[.int .i64 k, .int .i64 i, .float .f64 r, .complex .f64 p q, .string s] 50)) = W1 at HSS HB0 ⊢
    clear hWg
    obtain ⟨x0, x1, x2, x3, x4, y0, y1, y2, y3, y4⟩ := HSS.out _ (Below.refl _ _)
    go_wp2_with fail
    go_ret
    exact ⟨by simp [hr, hp, hq], HB0.out⟩
set_option maxRecDepth 20000 in
set_option maxHeartbeats 2000000 in
theorem sam_self (v : V) (hv : Good v) (w : World) : Calls Try.prog 25 #[ag v, ag v] w fun e w' => e = .returned (.bool true) ∧ Below w.heap.size w w' := by
  rcases hv with ⟨i, rfl⟩ | ⟨x, hx, rfl⟩ | ⟨x, y, hx, hy, rfl⟩ | ⟨s, hs, rfl⟩
  · show Calls Try.prog 25 #[.agg #[.int .i64 1, .int .i64 i, .float .f64 0, .complex .f64 0 0, .string ByteArray.empty], .agg #[.int .i64 1, .int .i64 i, .float .f64 0, .complex .f64 0 0, .string ByteArray.empty]] w fun e w' => e = .returned (.bool true) ∧ Below w.heap.size w w'
    have HC := Lib.hid (fun W => same_self (vI i) (.inl ⟨i, rfl⟩) W)
    have HSS := Lib.hid (two_box w (.int .i64 1) (.int .i64 i) (.float .f64 0) (.complex .f64 0 0) (.string ByteArray.empty) (.int .i64 1) (.int .i64 i) (.float .f64 0) (.complex .f64 0 0) (.string ByteArray.empty))
    have HB0 := Lib.hid (two_new w #[.int .i64 1, .int .i64 i, .float .f64 0, .complex .f64 0 0, .string ByteArray.empty] #[.int .i64 1, .int .i64 i, .float .f64 0, .complex .f64 0 0, .string ByteArray.empty] 50 50).2.2
    go_enter Try.func25, Try.ntmps25
    go_upto_region 1 with fail
    generalize hWg : ((w.alloc (.cells #[.int .i64 1, .int .i64 i, .float .f64 0, .complex .f64 0 0, .string ByteArray.empty] 50)).alloc (.cells #[.int .i64 1, .int .i64 i, .float .f64 0, .complex .f64 0 0, .string ByteArray.empty] 50)) = W1 at HSS HB0 ⊢
    clear hWg
    obtain ⟨x0, x1, x2, x3, x4, y0, y1, y2, y3, y4⟩ := HSS.out _ (Below.refl _ _)
    have HF := Lib.hid (fun W => fields_self 1 i 0 0 0 ByteArray.empty W)
    go_wp2_with fail
    refine (HC.out _).mono ?_
    rintro e w7 ⟨rfl, hb7⟩
    clear x0 x1 x2 x3 x4 y0 y1 y2 y3 y4
    obtain ⟨x0, x1, x2, x3, x4, y0, y1, y2, y3, y4⟩ := HSS.out _ hb7
    go_wp2_with fail
    refine (HF.out _).mono ?_
    rintro e w8 ⟨rfl, hb8⟩
    go_wp2_with fail
    go_ret
    exact ⟨rfl, (HB0.out.trans (hb7.mono HB0.out.size)).trans (hb8.mono (Nat.le_trans HB0.out.size hb7.size))⟩
  · show Calls Try.prog 25 #[.agg #[.int .i64 2, .int .i64 0, .float .f64 x, .complex .f64 0 0, .string ByteArray.empty], .agg #[.int .i64 2, .int .i64 0, .float .f64 x, .complex .f64 0 0, .string ByteArray.empty]] w fun e w' => e = .returned (.bool true) ∧ Below w.heap.size w w'
    have HC := Lib.hid (fun W => same_self (vR x) (.inr (.inl ⟨x, hx, rfl⟩)) W)
    have HSS := Lib.hid (two_box w (.int .i64 2) (.int .i64 0) (.float .f64 x) (.complex .f64 0 0) (.string ByteArray.empty) (.int .i64 2) (.int .i64 0) (.float .f64 x) (.complex .f64 0 0) (.string ByteArray.empty))
    have HB0 := Lib.hid (two_new w #[.int .i64 2, .int .i64 0, .float .f64 x, .complex .f64 0 0, .string ByteArray.empty] #[.int .i64 2, .int .i64 0, .float .f64 x, .complex .f64 0 0, .string ByteArray.empty] 50 50).2.2
    go_enter Try.func25, Try.ntmps25
    go_upto_region 1 with fail
    generalize hWg : ((w.alloc (.cells #[.int .i64 2, .int .i64 0, .float .f64 x, .complex .f64 0 0, .string ByteArray.empty] 50)).alloc (.cells #[.int .i64 2, .int .i64 0, .float .f64 x, .complex .f64 0 0, .string ByteArray.empty] 50)) = W1 at HSS HB0 ⊢
    clear hWg
    obtain ⟨x0, x1, x2, x3, x4, y0, y1, y2, y3, y4⟩ := HSS.out _ (Below.refl _ _)
    have HF := Lib.hid (fun W => fields_self 2 0 x 0 0 ByteArray.empty W)
    go_wp2_with fail
    refine (HC.out _).mono ?_
    rintro e w7 ⟨rfl, hb7⟩
    clear x0 x1 x2 x3 x4 y0 y1 y2 y3 y4
    obtain ⟨x0, x1, x2, x3, x4, y0, y1, y2, y3, y4⟩ := HSS.out _ hb7
    go_wp2_with fail
    refine (HF.out _).mono ?_
    rintro e w8 ⟨rfl, hb8⟩
    go_wp2_with fail
    go_ret
    exact ⟨rfl, (HB0.out.trans (hb7.mono HB0.out.size)).trans (hb8.mono (Nat.le_trans HB0.out.size hb7.size))⟩
  · show Calls Try.prog 25 #[.agg #[.int .i64 3, .int .i64 0, .float .f64 0, .complex .f64 x y, .string ByteArray.empty], .agg #[.int .i64 3, .int .i64 0, .float .f64 0, .complex .f64 x y, .string ByteArray.empty]] w fun e w' => e = .returned (.bool true) ∧ Below w.heap.size w w'
    have HC := Lib.hid (fun W => same_self (vC x y) (.inr (.inr (.inl ⟨x, y, hx, hy, rfl⟩))) W)
    have HSS := Lib.hid (two_box w (.int .i64 3) (.int .i64 0) (.float .f64 0) (.complex .f64 x y) (.string ByteArray.empty) (.int .i64 3) (.int .i64 0) (.float .f64 0) (.complex .f64 x y) (.string ByteArray.empty))
    have HB0 := Lib.hid (two_new w #[.int .i64 3, .int .i64 0, .float .f64 0, .complex .f64 x y, .string ByteArray.empty] #[.int .i64 3, .int .i64 0, .float .f64 0, .complex .f64 x y, .string ByteArray.empty] 50 50).2.2
    go_enter Try.func25, Try.ntmps25
    go_upto_region 1 with fail
    generalize hWg : ((w.alloc (.cells #[.int .i64 3, .int .i64 0, .float .f64 0, .complex .f64 x y, .string ByteArray.empty] 50)).alloc (.cells #[.int .i64 3, .int .i64 0, .float .f64 0, .complex .f64 x y, .string ByteArray.empty] 50)) = W1 at HSS HB0 ⊢
    clear hWg
    obtain ⟨x0, x1, x2, x3, x4, y0, y1, y2, y3, y4⟩ := HSS.out _ (Below.refl _ _)
    have HF := Lib.hid (fun W => fields_self 3 0 0 x y ByteArray.empty W)
    go_wp2_with fail
    refine (HC.out _).mono ?_
    rintro e w7 ⟨rfl, hb7⟩
    clear x0 x1 x2 x3 x4 y0 y1 y2 y3 y4
    obtain ⟨x0, x1, x2, x3, x4, y0, y1, y2, y3, y4⟩ := HSS.out _ hb7
    go_wp2_with fail
    refine (HF.out _).mono ?_
    rintro e w8 ⟨rfl, hb8⟩
    go_wp2_with fail
    go_ret
    exact ⟨rfl, (HB0.out.trans (hb7.mono HB0.out.size)).trans (hb8.mono (Nat.le_trans HB0.out.size hb7.size))⟩
  · show Calls Try.prog 25 #[.agg #[.int .i64 4, .int .i64 0, .float .f64 0, .complex .f64 0 0, .string s], .agg #[.int .i64 4, .int .i64 0, .float .f64 0, .complex .f64 0 0, .string s]] w fun e w' => e = .returned (.bool true) ∧ Below w.heap.size w w'
    have HC := Lib.hid (fun W => same_self (vT s) (.inr (.inr (.inr ⟨s, hs, rfl⟩))) W)
    have HSS := Lib.hid (two_box w (.int .i64 4) (.int .i64 0) (.float .f64 0) (.complex .f64 0 0) (.string s) (.int .i64 4) (.int .i64 0) (.float .f64 0) (.complex .f64 0 0) (.string s))
    have HB0 := Lib.hid (two_new w #[.int .i64 4, .int .i64 0, .float .f64 0, .complex .f64 0 0, .string s] #[.int .i64 4, .int .i64 0, .float .f64 0, .complex .f64 0 0, .string s] 50 50).2.2
    go_enter Try.func25, Try.ntmps25
    go_upto_region 1 with fail
    generalize hWg : ((w.alloc (.cells #[.int .i64 4, .int .i64 0, .float .f64 0, .complex .f64 0 0, .string s] 50)).alloc (.cells #[.int .i64 4, .int .i64 0, .float .f64 0, .complex .f64 0 0, .string s] 50)) = W1 at HSS HB0 ⊢
    clear hWg
    obtain ⟨x0, x1, x2, x3, x4, y0, y1, y2, y3, y4⟩ := HSS.out _ (Below.refl _ _)
    have HF := Lib.hid (fun W => fields_self 4 0 0 0 0 s W)
    go_wp2_with fail
    refine (HC.out _).mono ?_
    rintro e w7 ⟨rfl, hb7⟩
    clear x0 x1 x2 x3 x4 y0 y1 y2 y3 y4
    obtain ⟨x0, x1, x2, x3, x4, y0, y1, y2, y3, y4⟩ := HSS.out _ hb7
    go_wp2_with fail
    refine (HF.out _).mono ?_
    rintro e w8 ⟨rfl, hb8⟩
    go_wp2_with fail
    go_ret
    exact ⟨rfl, (HB0.out.trans (hb7.mono HB0.out.size)).trans (hb8.mono (Nat.le_trans HB0.out.size hb7.size))⟩
set_option maxRecDepth 20000 in
set_option maxHeartbeats 4000000 in
theorem sam_zero (w : World) : Calls Try.prog 25 #[ag zV, ag zV] w fun e w' => e = .returned (.bool true) ∧ Below w.heap.size w w' := by
  show Calls Try.prog 25 #[.agg #[.int .i64 0, .int .i64 0, .float .f64 0, .complex .f64 0 0, .string ByteArray.empty], .agg #[.int .i64 0, .int .i64 0, .float .f64 0, .complex .f64 0 0, .string ByteArray.empty]] w fun e w' => e = .returned (.bool true) ∧ Below w.heap.size w w'
  have HSS := Lib.hid (two_box w (.int .i64 0) (.int .i64 0) (.float .f64 0) (.complex .f64 0 0) (.string ByteArray.empty) (.int .i64 0) (.int .i64 0) (.float .f64 0) (.complex .f64 0 0) (.string ByteArray.empty))
  have HB0 := Lib.hid (two_new w #[.int .i64 0, .int .i64 0, .float .f64 0, .complex .f64 0 0, .string ByteArray.empty] #[.int .i64 0, .int .i64 0, .float .f64 0, .complex .f64 0 0, .string ByteArray.empty] 50 50).2.2
  have h0 : (FloatKind.f64.format.order 0 0 == some Ordering.eq) = true := by decide
  have hz : FloatKind.f64.format.order 0 0 = some Ordering.eq := by decide
  go_enter Try.func25, Try.ntmps25
  go_upto_region 1 with fail
  generalize hWg : ((w.alloc (.cells #[.int .i64 0, .int .i64 0, .float .f64 0, .complex .f64 0 0, .string ByteArray.empty] 50)).alloc (.cells #[.int .i64 0, .int .i64 0, .float .f64 0, .complex .f64 0 0, .string ByteArray.empty] 50)) = W1 at HSS HB0 ⊢
  clear hWg
  obtain ⟨x0, x1, x2, x3, x4, y0, y1, y2, y3, y4⟩ := HSS.out _ (Below.refl _ _)
  go_wp2_with fail
  go_ret
  exact ⟨by simp [hz], HB0.out⟩
end Go.Proofs.Ytlbfnnngemonoaa.Wir
