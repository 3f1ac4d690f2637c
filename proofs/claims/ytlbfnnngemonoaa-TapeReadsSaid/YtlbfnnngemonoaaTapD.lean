/- The law's calls over like rows; the law TapeReads. -/
import Derived.Test.YtlbfnnngemonoaaTapRDec
import Derived.StillTailTactics
namespace Go.Proofs.Ytlbfnnngemonoaa.Wir
open Go.RowKit Go.Proofs.Ytlbfnnngemonoaa.PWireReads
open Go.Proofs.Ytlbfnnngemonoaa.Fat (Blk Chg Off chg_opt)
open Go.Proofs.YtlbfnnngemonoaaW.PrintWords Go.Proofs.YtlbfnnngemonoaaW.PrintLast Go.Proofs.YtlbfnnngemonoaaW.PrintMore
set_option linter.unusedVariables false
set_option linter.unusedSimpArgs false
attribute [local go_sem] run_store_float run_store_complex
def T40 : Bool × List (List Nat × List Nat) := (true, [([], []), ([], []), ([0, 1], [0, 1]), ([2], [2]), ([3], [3]), ([], []), ([], []), ([5, 6], [5, 6]), ([7], [7]), ([4, 8, 4], [4, 8]), ([9], [9])])
def B40 : List Nat := [0, 0, 3, 7, 15, 0, 0, 96, 224, 511, 1023]
theorem tab40 : rtab .any (opsOf Try.f40 6) = T40 := by kernel_rfl
theorem bits40 : waitsOk T40.2 B40 = true := by kernel_rfl
set_option maxRecDepth 20000 in
set_option maxHeartbeats 1000000 in
theorem lists_any (A B : Option Addr) (c c' : Nat) (vs : List V) (w : World) (hC : Kd.C kV w A vs.length vs) (hD : Kd.C kV w B vs.length vs) (hG : ∀ v ∈ vs, Good v) (h6 : vs.length ≤ 4096) :
    Calls Try.prog 86 #[.slice A vs.length c, .slice B vs.length c'] w fun e w' => e = .returned (.bool true) ∧ Below w.heap.size w w' := by
  have HC := Lib.hid hC
  have HD := Lib.hid hD
  have HG := Lib.hid hG
  clear hC hD hG
  go_enter Try.func86, Try.ntmps86
  go_wp2_with fail
  go_loopw [5] (fun i wr => ∃ k : Nat, k ≤ vs.length ∧ i = .int .i64 k ∧ Below w.heap.size w wr) (fun i _ => vs.length - (intOf i).toNat)
  case atStart => exact ⟨0, by omega, rfl, Below.refl _ _⟩
  case round =>
    obtain ⟨k, hk, rfl, hb⟩ := hrel
    by_cases hlt : k < vs.length
    · have b0 : decide ((k : Int) < (vs.length : Int)) = true := by simp; omega
      obtain ⟨ad, hA, x0, x1, x2, x3, x4⟩ := at_V (Kd.C_below HC.out hb) k hlt
      obtain ⟨bd, hB, y0, y1, y2, y3, y4⟩ := at_V (Kd.C_below HD.out hb) k hlt
      subst hA
      subst hB
      have hGk := HG.out vs[k] (List.getElem_mem hlt)
      generalize vs[k] = v at x0 x1 x2 x3 x4 y0 y1 y2 y3 y4 hGk
      have HSZ := Lib.hid (fun W => same_self v hGk W)
      have HWN := Lib.hid (w64n k (by omega))
      clear hGk
      go_upto_region 6 with fail
      go_still_tail 8, (by kernel_rfl)
      change wpList _ _ _ _ _ wr.drew
      go_wp2_with fail
      refine (HSZ.out _).mono ?_
      rintro e w1 ⟨rfl, hb1⟩
      have hb2 := (below_drew hb).trans (hb1.mono (below_drew hb).size)
      clear hb1 x0 x1 x2 x3 x4 y0 y1 y2 y3 y4
      go_wp2_with fail
      go_roundw
      case rel => exact ⟨k + 1, by omega, by first | rfl | (rw [HWN.out]; rfl), hb2⟩
      case measure =>
        first | rw [HWN.out] | skip
        simp [intOf]
        omega
    · obtain rfl : k = vs.length := by omega
      go_wp2_with fail
      go_ret
      exact ⟨rfl, hb⟩
theorem two_five (w : World) (a0 a1 a2 a3 a4 b0 b1 b2 b3 b4 : Value) (t1 t2 : TypeId) : ∀ w', Below ((w.alloc (.cells #[a0, a1, a2, a3, a4] t1)).alloc (.cells #[b0, b1, b2, b3, b4] t2)).heap.size ((w.alloc (.cells #[a0, a1, a2, a3, a4] t1)).alloc (.cells #[b0, b1, b2, b3, b4] t2)) w' →
    w'.cell? ⟨w.heap.size, 0, none⟩ = some a0 ∧ w'.cell? ⟨w.heap.size, 1, none⟩ = some a1 ∧ w'.cell? ⟨w.heap.size, 2, none⟩ = some a2 ∧ w'.cell? ⟨w.heap.size, 3, none⟩ = some a3 ∧ w'.cell? ⟨w.heap.size, 4, none⟩ = some a4 ∧ w'.cell? ⟨w.heap.size + 1, 0, none⟩ = some b0 ∧ w'.cell? ⟨w.heap.size + 1, 1, none⟩ = some b1 ∧ w'.cell? ⟨w.heap.size + 1, 2, none⟩ = some b2 ∧ w'.cell? ⟨w.heap.size + 1, 3, none⟩ = some b3 ∧ w'.cell? ⟨w.heap.size + 1, 4, none⟩ = some b4 := by
  intro w' hb
  obtain ⟨h0, h1, _⟩ := two_new w #[a0, a1, a2, a3, a4] #[b0, b1, b2, b3, b4] t1 t2
  have g0 := h0.below hb h0.lt
  have g1 := h1.below hb h1.lt
  exact ⟨g0.cell 0, g0.cell 1, g0.cell 2, g0.cell 3, g0.cell 4, g1.cell 0, g1.cell 1, g1.cell 2, g1.cell 3, g1.cell 4⟩
set_option maxRecDepth 20000 in
set_option maxHeartbeats 1000000 in
theorem csame_any (x : Cl) (A B : Option Addr) (c c2 : Nat) (w : World) (hC : Kd.C kV w A x.p.length x.p) (hD : Kd.C kV w B x.p.length x.p) (hG : ∀ v ∈ x.p, Good v) (h6 : x.p.length ≤ 4096) :
    Calls Try.prog 70 #[.agg #[.int .i64 x.k, .string x.s, .int .i64 x.t, .slice A x.p.length c, .int .i64 x.r], .agg #[.int .i64 x.k, .string x.s, .int .i64 x.t, .slice B x.p.length c2, .int .i64 x.r]] w fun e w' => e = .returned (.bool true) ∧ Below w.heap.size w w' := by
  have HB0 := Lib.hid (two_new w #[.int .i64 x.k, .string x.s, .int .i64 x.t, .slice A x.p.length c, .int .i64 x.r] #[.int .i64 x.k, .string x.s, .int .i64 x.t, .slice B x.p.length c2, .int .i64 x.r] 128 128).2.2
  have HSS := Lib.hid (two_five w (.int .i64 x.k) (.string x.s) (.int .i64 x.t) (.slice A x.p.length c) (.int .i64 x.r) (.int .i64 x.k) (.string x.s) (.int .i64 x.t) (.slice B x.p.length c2) (.int .i64 x.r) 128 128)
  have HV := Lib.hid (fun W hb => lists_any A B c c2 x.p W (Kd.C_below hC hb) (Kd.C_below hD hb) hG h6)
  clear hC hD hG h6
  go_enter Try.func70, Try.ntmps70
  go_upto_region 1 with fail
  generalize hWg : ((w.alloc (.cells #[.int .i64 x.k, .string x.s, .int .i64 x.t, .slice A x.p.length c, .int .i64 x.r] 128)).alloc (.cells #[.int .i64 x.k, .string x.s, .int .i64 x.t, .slice B x.p.length c2, .int .i64 x.r] 128)) = W1 at HSS HB0 ⊢
  clear hWg
  obtain ⟨x0, x1, x2, x3, x4, y0, y1, y2, y3, y4⟩ := HSS.out _ (Below.refl _ _)
  go_wp2_with fail
  refine (HV.out _ (by exact HB0.out)).mono ?_
  rintro e w7 ⟨rfl, hb7⟩
  go_wp2_with fail
  go_ret
  exact ⟨rfl, HB0.out.trans (hb7.mono HB0.out.size)⟩
set_option maxRecDepth 20000 in
set_option maxHeartbeats 1000000 in
theorem cref_any (x : Cl) (A : Option Addr) (c : Nat) (w : World) :
    Calls Try.prog 71 #[.agg #[.int .i64 x.k, .string x.s, .int .i64 x.t, .slice A x.p.length c, .int .i64 x.r]] w fun e w' => e = .returned (.agg #[.int .i64 x.k, .string x.s, .int .i64 x.t, .slice A x.p.length c, .int .i64 x.r]) ∧ Below w.heap.size w w' := by
  have HB0 := Lib.hid (two_new w #[.int .i64 x.k, .string x.s, .int .i64 x.t, .slice A x.p.length c, .int .i64 x.r] #[.int .i64 0, .string { data := #[] }, .int .i64 0, .slice none 0 0, .int .i64 0] 123 128)
  go_enter Try.func71, Try.ntmps71
  go_upto_region 1 with fail
  obtain ⟨a0, a1, hb⟩ := HB0.out
  generalize hWg : ((w.alloc (.cells #[.int .i64 x.k, .string x.s, .int .i64 x.t, .slice A x.p.length c, .int .i64 x.r] 123)).alloc (.cells #[.int .i64 0, .string { data := #[] }, .int .i64 0, .slice none 0 0, .int .i64 0] 128)) = W1 at a0 a1 hb ⊢
  clear hWg HB0
  have x0 := a0.cell 0
  have x1 := a0.cell 1
  have x2 := a0.cell 2
  have x3 := a0.cell 3
  have x4 := a0.cell 4
  have y0 := a1.cell 0
  have yf0 := a1.frozen 0
  have y1 := a1.cell 1
  have yf1 := a1.frozen 1
  have y2 := a1.cell 2
  have yf2 := a1.frozen 2
  have y3 := a1.cell 3
  have yf3 := a1.frozen 3
  have y4 := a1.cell 4
  have yf4 := a1.frozen 4
  simp at x0 x1 x2 x3 x4 y0 y1 y2 y3 y4
  go_wp2_with fail
  refine bodyPost_ret (results_cell_row rfl _ _ (w.heap.size + 1) 128 #[.int .i64 x.k, .string x.s, .int .i64 x.t, .slice A x.p.length c, .int .i64 x.r] (0, 0) _ rfl (show Blk _ (w.heap.size + 1) 128 #[.int .i64 x.k, .string x.s, .int .i64 x.t, .slice A x.p.length c, .int .i64 x.r] from (((((a1).set_ 0 _).set_ 1 _).set_ 2 _).set_ 3 _).set_ 4 _) Try.underlying128 rfl (by kernel_rfl)) rfl ?_
  exact ⟨rfl, below_set (below_set (below_set (below_set (below_set hb (Nat.le_succ _)) (Nat.le_succ _)) (Nat.le_succ _)) (Nat.le_succ _)) (Nat.le_succ _)⟩
set_option maxRecDepth 20000 in
set_option maxHeartbeats 4000000 in
theorem calls_any (A B : Option Addr) (c c' : Nat) (xs : List Cl) (w : World) (hC : Kd.C kCl w A xs.length xs) (hD : Kd.C kCl w B xs.length xs) (hG : ∀ x ∈ xs, (∀ v ∈ x.p, Good v) ∧ x.p.length ≤ 4096) (h6 : xs.length ≤ 4096) :
    Calls Try.prog 40 #[.slice A xs.length c, .slice B xs.length c'] w fun e w' => e = .returned (.bool true) ∧ Below w.heap.size w w' := by
  have HC := Lib.hid hC
  have HD := Lib.hid hD
  have HG := Lib.hid hG
  clear hC hD hG
  go_enter Try.func40, Try.ntmps40
  go_wp2_with fail
  go_loopw [5] (fun i wr => ∃ k : Nat, k ≤ xs.length ∧ i = .int .i64 k ∧ Below w.heap.size w wr) (fun i _ => xs.length - (intOf i).toNat)
  case atStart => exact ⟨0, by omega, rfl, Below.refl _ _⟩
  case round =>
    obtain ⟨k, hk, rfl, hb⟩ := hrel
    by_cases hlt : k < xs.length
    · have b0 : decide ((k : Int) < (xs.length : Int)) = true := by simp; omega
      obtain ⟨ad, Ax, cx, hA, x0, x1, x2, x3, x4, hxl, hxC⟩ := at_Cl (Kd.C_below HC.out hb) k hlt
      obtain ⟨bd, Bx, dx, hB, y0, y1, y2, y3, y4, hyl, hyC⟩ := at_Cl (Kd.C_below HD.out hb) k hlt
      subst hA
      subst hB
      have hGk := HG.out (xs.getD k zCl) (by rw [List.getD_eq_getElem?_getD, List.getElem?_eq_getElem hlt]; exact List.getElem_mem hlt)
      generalize xs.getD k zCl = x at x0 x1 x2 x3 x4 hxl hxC y0 y1 y2 y3 y4 hyl hyC hGk
      have keep : ∀ {w' : World} {a : Addr} {v : Value}, Below wr.heap.size wr w' → wr.cell? a = some v → w'.cell? a = some v := fun h z => (World.cell?_of_block (h.block _ (World.block_lt_of_cell? wr _ z))).trans z
      have HSA : Hid (∀ w', Below wr.heap.size wr w' → w'.cell? (ad.add (k * 5)) = some (.int .i64 x.k) ∧ w'.cell? ⟨(ad.add (k * 5)).block, (ad.add (k * 5)).off + 1, none⟩ = some (.string x.s) ∧ w'.cell? ⟨(ad.add (k * 5)).block, (ad.add (k * 5)).off + 2, none⟩ = some (.int .i64 x.t) ∧ w'.cell? ⟨(ad.add (k * 5)).block, (ad.add (k * 5)).off + 3, none⟩ = some (.slice Ax x.p.length cx) ∧ w'.cell? ⟨(ad.add (k * 5)).block, (ad.add (k * 5)).off + 4, none⟩ = some (.int .i64 x.r)) := Lib.hid (fun w' h => ⟨keep h x0, keep h x1, keep h x2, keep h x3, keep h x4⟩)
      have HSB : Hid (∀ w', Below wr.heap.size wr w' → w'.cell? (bd.add (k * 5)) = some (.int .i64 x.k) ∧ w'.cell? ⟨(bd.add (k * 5)).block, (bd.add (k * 5)).off + 1, none⟩ = some (.string x.s) ∧ w'.cell? ⟨(bd.add (k * 5)).block, (bd.add (k * 5)).off + 2, none⟩ = some (.int .i64 x.t) ∧ w'.cell? ⟨(bd.add (k * 5)).block, (bd.add (k * 5)).off + 3, none⟩ = some (.slice Bx x.p.length dx) ∧ w'.cell? ⟨(bd.add (k * 5)).block, (bd.add (k * 5)).off + 4, none⟩ = some (.int .i64 x.r)) := Lib.hid (fun w' h => ⟨keep h y0, keep h y1, keep h y2, keep h y3, keep h y4⟩)
      have HRF := Lib.hid (fun W => cref_any x Ax cx W)
      have HSM := Lib.hid (fun (W : World) (h : Below wr.heap.size wr W) => csame_any x Ax Bx cx dx W (Kd.C_below hxC h) (Kd.C_below hyC h) hGk.1 hGk.2)
      have HWN := Lib.hid (w64n k (by omega))
      clear hGk hxl hxC hyl hyC keep x0 x1 x2 x3 x4 y0 y1 y2 y3 y4
      go_upto_region 6 with fail
      refine start_ (n := 11) (S := fun w' => Below wr.heap.size wr w') (ds := []) #[false, false, false, false, false, false, false, false, false, false, false] (by kernel_rfl) rfl rfl (Below.refl _ wr).drew (fun hHeld => ?_)
      refine with_tabW tab40 bits40 (fun HT_ HW_ => ?_)
      refine pure_ (i := 0) (N := some 17) (v := ?_) (a' := ?_) #[true, false, false, false, false, false, false, false, false, false, false] rfl rfl (any_of HT_.out (by kernel_rfl)) (fun _ _ _ h => h) (Or.inl ⟨by rfl, ?_⟩) ?_ ?_
      rotate_left
      · intro w'
        go_simp
        with_reducible rfl
      rotate_left
      · simp only [Act.put, List.setIfInBounds_toArray, List.set_cons_zero, List.set_cons_succ, i64_w, i32_w]
        rfl
      refine pure_ (i := 1) (N := some 18) (v := ?_) (a' := ?_) #[true, true, false, false, false, false, false, false, false, false, false] rfl rfl (any_of HT_.out (by kernel_rfl)) (fun _ _ _ h => h) (Or.inl ⟨by rfl, ?_⟩) ?_ ?_
      rotate_left
      · intro w'
        go_simp
        with_reducible rfl
      rotate_left
      · simp only [Act.put, List.setIfInBounds_toArray, List.set_cons_zero, List.set_cons_succ, i64_w, i32_w]
        rfl
      refine pure_ (i := 2) (N := some 19) (v := ?_) (a' := ?_) #[true, true, true, false, false, false, false, false, false, false, false] rfl rfl (any_of HT_.out (by kernel_rfl)) (fun _ _ _ h => h) (Or.inl ⟨by rfl, ?_⟩) ?_ ?_
      rotate_left
      · intro w'
        go_simp
        with_reducible rfl
      rotate_left
      · simp only [Act.put, List.setIfInBounds_toArray, List.set_cons_zero, List.set_cons_succ, i64_w, i32_w]
        rfl
      refine take_ (i := 3) (N := some 20) (v := ?_) (a' := ?_) #[true, true, true, true, false, false, false, false, false, false, false] rfl rfl (take_ofW HT_.out HW_.out (by kernel_rfl)) (fun _ _ _ h => h) (Or.inl ⟨by rfl, ?_⟩) hHeld ?_ ?_
      rotate_left
      · intro w' HS_
        obtain ⟨s0, s1, s2, s3, s4⟩ := HSA.out _ HS_
        go_simp
        with_reducible rfl
      rotate_left
      · simp only [Act.put, List.setIfInBounds_toArray, List.set_cons_zero, List.set_cons_succ, i64_w, i32_w]
        rfl
      refine pure_ (i := 5) (N := some 22) (v := ?_) (a' := ?_) #[true, true, true, true, false, true, false, false, false, false, false] rfl rfl (any_of HT_.out (by kernel_rfl)) (fun _ _ _ h => h) (Or.inl ⟨by rfl, ?_⟩) ?_ ?_
      rotate_left
      · intro w'
        go_simp
        with_reducible rfl
      rotate_left
      · simp only [Act.put, List.setIfInBounds_toArray, List.set_cons_zero, List.set_cons_succ, i64_w, i32_w]
        rfl
      refine pure_ (i := 6) (N := some 23) (v := ?_) (a' := ?_) #[true, true, true, true, false, true, true, false, false, false, false] rfl rfl (any_of HT_.out (by kernel_rfl)) (fun _ _ _ h => h) (Or.inl ⟨by rfl, ?_⟩) ?_ ?_
      rotate_left
      · intro w'
        go_simp
        with_reducible rfl
      rotate_left
      · simp only [Act.put, List.setIfInBounds_toArray, List.set_cons_zero, List.set_cons_succ, i64_w, i32_w]
        rfl
      refine pure_ (i := 7) (N := some 24) (v := ?_) (a' := ?_) #[true, true, true, true, false, true, true, true, false, false, false] rfl rfl (any_of HT_.out (by kernel_rfl)) (fun _ _ _ h => h) (Or.inl ⟨by rfl, ?_⟩) ?_ ?_
      rotate_left
      · intro w'
        go_simp
        with_reducible rfl
      rotate_left
      · simp only [Act.put, List.setIfInBounds_toArray, List.set_cons_zero, List.set_cons_succ, i64_w, i32_w]
        rfl
      refine take_ (i := 8) (N := some 25) (v := ?_) (a' := ?_) #[true, true, true, true, false, true, true, true, true, false, false] rfl rfl (take_ofW HT_.out HW_.out (by kernel_rfl)) (fun _ _ _ h => h) (Or.inl ⟨by rfl, ?_⟩) hHeld ?_ ?_
      rotate_left
      · intro w' HS_
        obtain ⟨s0, s1, s2, s3, s4⟩ := HSB.out _ HS_
        go_simp
        with_reducible rfl
      rotate_left
      · simp only [Act.put, List.setIfInBounds_toArray, List.set_cons_zero, List.set_cons_succ, i64_w, i32_w]
        rfl
      refine one_ (i := 4) (N := some 21) #[true, true, true, true, true, true, true, true, true, false, false] rfl rfl (one_of HT_.out (by kernel_rfl)) (by decide) (fun K hK => ?_)
      refine goes_ Try.func71 (by kernel_rfl) rfl #[.agg #[.int .i64 x.k, .string x.s, .int .i64 x.t, .slice Ax x.p.length cx, .int .i64 x.r]] (by rfl) rfl rfl (by simp only [List.map_toArray, List.map_cons, List.map_nil]; rfl) ?_
      refine (HRF.out _).mono ?_
      rintro _ w1 ⟨rfl, hd⟩
      have HBw1 : Hid (Below wr.heap.size wr w1) := Lib.hid (((Below.refl wr.heap.size wr).drew).trans (hd.mono (Nat.le_refl _)))
      refine ⟨_, rfl, ?_⟩
      refine hK.out _ _ HBw1.out (fun hHeld => ?_)
      clear hK K hd
      refine norm_ (a' := ?_) ?_ ?_
      rotate_left
      · show Act.put _ (some 21) _ = _
        simp only [Act.put, List.setIfInBounds_toArray, List.set_cons_zero, List.set_cons_succ, i64_w, i32_w]
        rfl
      refine one_ (i := 9) (N := some 26) #[true, true, true, true, true, true, true, true, true, true, false] rfl rfl (one_of HT_.out (by kernel_rfl)) (by decide) (fun K hK => ?_)
      refine goes_ Try.func70 (by kernel_rfl) rfl #[.agg #[.int .i64 x.k, .string x.s, .int .i64 x.t, .slice Ax x.p.length cx, .int .i64 x.r], .agg #[.int .i64 x.k, .string x.s, .int .i64 x.t, .slice Bx x.p.length dx, .int .i64 x.r]] (by rfl) rfl rfl (by simp only [List.map_toArray, List.map_cons, List.map_nil]; rfl) ?_
      refine (HSM.out _ HBw1.out).mono ?_
      rintro _ w2 ⟨rfl, hd⟩
      have HBw2 : Hid (Below wr.heap.size wr w2) := Lib.hid (HBw1.out.trans (hd.mono HBw1.out.size))
      refine ⟨_, rfl, ?_⟩
      refine hK.out _ _ HBw2.out (fun hHeld => ?_)
      clear hK K hd
      refine norm_ (a' := ?_) ?_ ?_
      rotate_left
      · show Act.put _ (some 26) _ = _
        simp only [Act.put, List.setIfInBounds_toArray, List.set_cons_zero, List.set_cons_succ, i64_w, i32_w]
        rfl
      refine pure_ (i := 10) (N := some 27) (v := ?_) (a' := ?_) #[true, true, true, true, true, true, true, true, true, true, true] rfl rfl (any_of HT_.out (by kernel_rfl)) (fun _ _ _ h => h) (Or.inl ⟨by rfl, ?_⟩) ?_ ?_
      rotate_left
      · intro w'
        go_simp
        with_reducible rfl
      rotate_left
      · simp only [Act.put, List.setIfInBounds_toArray, List.set_cons_zero, List.set_cons_succ, i64_w, i32_w]
        rfl
      refine done_ (done_of HT_.out (by kernel_rfl)) ?_
      clear HT_ HW_
      have hb2 := hb.trans (HBw2.out.mono hb.size)
      go_wp2_with fail
      go_roundw
      case rel => exact ⟨k + 1, by omega, by first | rfl | (rw [HWN.out]; rfl), hb2⟩
      case measure =>
        first | rw [HWN.out] | skip
        simp [intOf]
        omega
    · obtain rfl : k = xs.length := by omega
      go_wp2_with fail
      go_ret
      exact ⟨rfl, hb⟩
end Go.Proofs.Ytlbfnnngemonoaa.Wir
namespace Go.Proofs.Ytlbfnnngemonoaa.Wir
open Go.RowKit Go.Proofs.Ytlbfnnngemonoaa.PWireReads
open Go.Proofs.Ytlbfnnngemonoaa.Fat (Blk Chg Off chg_opt)
open Go.Proofs.YtlbfnnngemonoaaW.PrintWords Go.Proofs.YtlbfnnngemonoaaW.PrintLast Go.Proofs.YtlbfnnngemonoaaW.PrintMore
set_option linter.unusedVariables false
set_option linter.unusedSimpArgs false

def oD : Option (List Cl) → List Cl
  | some xs => xs
  | none => []
def oDE : Option (List Cl) → Int
  | some _ => 0
  | none => 260
theorem decC_good : ∀ (k : Nat) (l : List Int) (xs : List Cl), decC k l = some xs → (∀ x ∈ xs, (∀ v ∈ x.p, Good v) ∧ x.p.length ≤ 4096) ∧ xs.length ≤ k := by
  intro k
  induction k with
  | zero =>
    intro l xs h
    rw [decC] at h
    split at h
    · injection h with h
      subst h
      simp
    · cases h
  | succ k ih =>
    intro l xs h
    rw [decC] at h
    split at h
    · injection h with h
      subst h
      simp
    · cases hr : rdC l with
      | none => rw [hr] at h; cases h
      | some y =>
        obtain ⟨x, n⟩ := y
        rw [hr] at h
        simp only at h
        cases hd : decC k (l.drop n) with
        | none => rw [hd] at h; cases h
        | some ys =>
          rw [hd] at h
          simp only [Option.map_some, Option.some.injEq] at h
          subst h
          obtain ⟨h1, h2⟩ := ih _ _ hd
          obtain ⟨_, _, g1, g2⟩ := rdC_good hr
          refine ⟨fun z hz => ?_, by simp; omega⟩
          rcases List.mem_cons.1 hz with rfl | hz
          · exact ⟨g1, g2⟩
          · exact h1 z hz
theorem oD_good (l : List Int) : (∀ x ∈ oD (rdD l), (∀ v ∈ x.p, Good v) ∧ x.p.length ≤ 4096) ∧ (oD (rdD l)).length ≤ 4096 := by
  cases hr : rdD l with
  | none => exact ⟨by simp [oD], by simp [oD]⟩
  | some xs =>
    unfold rdD at hr
    split at hr
    · cases hr
    · exact decC_good _ _ _ hr
theorem dec_u (A : Option Addr) (c : Nat) (l : List Int) (w : World) (hC : Kd.C (Kd.int .u8) w A l.length l) (hc : l.length ≤ c) (hB : By l) (hl : l.length ≤ 140737488355328) :
    Calls Try.prog 36 #[.slice A l.length c] w fun e w' => ∃ Av cv, e = .returned (.tuple #[.slice Av (oD (rdD l)).length cv, .int .i64 (oDE (rdD l))]) ∧ Kd.R kCl 123 w' w.heap.size (fun _ => True) (.slice Av (oD (rdD l)).length cv) (oD (rdD l)) ∧ Below w.heap.size w w' := by
  refine (dec_any A c l w hC hc hB hl).mono fun e w' h => ?_
  obtain ⟨hb, h⟩ := h
  cases hr : rdD l with
  | none => rw [hr] at h; exact ⟨none, 0, h, Kd.R_nil _ _ _ _ _, hb⟩
  | some xs => rw [hr] at h; obtain ⟨Av, cv, h1, h2⟩ := h; exact ⟨Av, cv, h1, h2, hb⟩
theorem rdec_u (A : Option Addr) (c : Nat) (l : List Int) (w : World) (hC : Kd.C (Kd.int .u8) w A l.length l) (hc : l.length ≤ c) (hB : By l) (hl : l.length ≤ 140737488355328) :
    Calls Try.prog 37 #[.slice A l.length c] w fun e w' => ∃ Av cv, e = .returned (.tuple #[.slice Av (oD (rdD l)).length cv, .int .i64 (oDE (rdD l))]) ∧ Kd.R kCl 128 w' w.heap.size (fun _ => True) (.slice Av (oD (rdD l)).length cv) (oD (rdD l)) ∧ Below w.heap.size w w' := by
  refine (rdec_any A c l w hC hc hB hl).mono fun e w' h => ?_
  obtain ⟨hb, h⟩ := h
  cases hr : rdD l with
  | none => rw [hr] at h; exact ⟨none, 0, h, Kd.R_nil _ _ _ _ _, hb⟩
  | some xs => rw [hr] at h; obtain ⟨Av, cv, h1, h2⟩ := h; exact ⟨Av, cv, h1, h2, hb⟩
theorem same_go (l : List Int) (hl : l.length ≤ 140737488355328) : ∀ d j : Nat, j + d = l.length → chordmaillaw26_same.l0 (d + 1) l l j = some true := by
  intro d
  induction d with
  | zero =>
    intro j hj
    rw [chordmaillaw26_same.l0, if_neg (by omega)]
  | succ d ih =>
    intro j hj
    rw [chordmaillaw26_same.l0, if_pos (by omega), if_pos (by omega), if_pos (by omega), if_pos rfl, show wrap64 ((j : Int) + 1) = ((j + 1 : Nat) : Int) from by unfold wrap64; omega]
    exact ih (j + 1) (by omega)
theorem same_any (A B : Option Addr) (c d : Nat) (l : List Int) (w : World) (hC : Kd.C (Kd.int .u8) w A l.length l) (hc : l.length ≤ c) (hD : Kd.C (Kd.int .u8) w B l.length l) (hd : l.length ≤ d) (hl : l.length ≤ 140737488355328) :
    Calls Try.prog 38 #[.slice A l.length c, .slice B l.length d] w fun e w' => e = .returned (.bool true) ∧ Drawn0 w w' :=
  chordmaillaw26_same.calls (l.length + 1) A c l B d l true w hC hc hD hd (by
    unfold chordmaillaw26_same.f
    rw [if_pos rfl]
    exact same_go l hl l.length 0 (by omega))
/-- A row of bytes that one may write over: its block, and what else may be changed. -/
theorem in_open {W : World} {base : Nat} {ok : Nat → Prop} {A : Option Addr} {c : Nat} {l : List Int} (h : Kd.R (Kd.int .u8) 5 W base ok (.slice A l.length c) l) :
    ∃ (G : List Nat) (q : Nat), (∀ x ∈ G, base ≤ x ∧ x < W.heap.size) ∧ (0 < l.length → A = some ⟨q, 0, none⟩ ∧ q ∈ G ∧ ∃ cur, Blk W q 5 cur ∧ ∀ i, i < l.length → ∃ v, cur[i]? = some (.int .u8 v)) := by
  by_cases hn : 0 < l.length
  · obtain ⟨q, cap, e, hb, hlt, cur, hcur⟩ := Kd.R_form h hn
    injection e with e1 e2 e3
    refine ⟨[q], q, by simp; exact ⟨hb, hlt⟩, fun _ => ⟨e1, by simp, cur, hcur, fun i hi => ?_⟩⟩
    have hC := (Kd.R_reads' h).2.2
    subst e1
    obtain ⟨ad, e, hc⟩ := byte_at hC i hi
    injection e with e
    subst e
    have ea : (⟨q, 0, none⟩ : Addr).add i = ⟨q, i, none⟩ := by
      unfold Addr.add
      split
      · rename_i h; rw [h]
      · simp
    rw [ea] at hc
    exact ⟨_, (blk_cell hcur i).symm.trans hc⟩
  · exact ⟨[], 0, by simp, fun h => absurd h hn⟩
theorem add_none (q i : Nat) : (⟨q, 0, none⟩ : Addr).add i = ⟨q, i, none⟩ := by
  unfold Addr.add
  split
  · rename_i h; rw [h]
  · simp
theorem in_put {W : World} {q n : Nat} {cur : Array Value} (hb : Blk W q 5 cur) (h : ∀ i, i < n → ∃ v, cur[i]? = some (.int .u8 v)) (k : Nat) (v : Int) : ∃ cur', Blk (W.setCell ⟨q, k, none⟩ (.int .u8 v)) q 5 cur' ∧ ∀ i, i < n → ∃ v, cur'[i]? = some (.int .u8 v) := by
  refine ⟨_, hb.set_ k _, fun i hi => ?_⟩
  obtain ⟨x, hx⟩ := h i hi
  by_cases e : k = i
  · subst e
    have : k < cur.size := (Array.getElem?_eq_some_iff.1 hx).1
    exact ⟨v, by rw [Array.getElem?_setIfInBounds]; simp [this]⟩
  · exact ⟨x, by rw [Array.getElem?_setIfInBounds]; simp [e, hx]⟩
set_option maxRecDepth 20000 in
set_option maxHeartbeats 4000000 in
theorem tape_any (A : Option Addr) (c : Nat) (l : List Int) (w : World) (hC : Kd.C (Kd.int .u8) w A l.length l) (hc : l.length ≤ c) (hl : l.length + 2 ≤ 140737488355328) (hBy : By l) :
    Calls Try.prog 8 #[.slice A l.length c] w fun e w' => e = .returned (.bool true) ∧ Below w.heap.size w w' := by
  have HC := Lib.hid hC
  have HBy := Lib.hid hBy
  have HGO := Lib.hid (oD_good l)
  have HR0 := Lib.hid (Kd.R_of_own (h1 := fun _ => rfl) (ok := fun _ => True) (own_lit w w.heap.size 5 .u8 [] (Nat.le_refl _) (by simp)) (fun _ _ => trivial))
  have HB0 := Lib.hid ((Below.refl w.heap.size w).alloc (Nat.le_refl _) (.cells #[] 5))
  have HC1 := Lib.hid (Kd.C_alloc hC (.cells #[] 5))
  have HD1 := Lib.hid (fun (A1 : Option Addr) (c1 : Nat) (W : World) hC hc => dec_u A1 c1 l W hC hc hBy (by omega))
  have HD2 := Lib.hid (fun (W : World) hC => rdec_u A c l W hC hc hBy (by omega))
  generalize oD (rdD l) = xs at HD1 HD2 HGO
  generalize oDE (rdD l) = er at HD1 HD2
  clear hC hBy
  go_enter Try.func8, Try.ntmps8
  go_wp2_with (first | ((with_reducible refine gate_builtin (b := .append) (xs := #[.tmp 9, .tmp 10]) rfl ?_); at_builtin; refine hold_it ?_) | fail)
  refine _root_.id ?_
  refine Kd.R_append_rows (Kd.int .u8) (w0 := w) w.heap.size rfl (.tmp 9) (.tmp 10) 45 5 (.int .u8 0) 1 rfl Try.underlying45 info5 rfl (by decide) (by omega) (.slice (some ⟨w.heap.size, 0, none⟩) 0 0) [] l A l.length c (fun _ => True) (fun _ => False) rfl rfl HR0.out HC1.out (fun x cs hc => hc) (fun _ hk => hk.elim) (fun _ _ => trivial) HB0.out HB0.out.size (by simp; omega) ?_
  intro v3 w3 hR3 hb3 hg3 hat3
  rw [List.nil_append] at hR3
  obtain ⟨A1, c1, rfl⟩ := Kd.R_slice hR3
  have HR3 := Lib.hid hR3
  have HB3 := Lib.hid hb3
  clear hR3 hb3 hg3 hat3 HC1 HR0 HB0
  go_wp2_with fail
  refine (HD1.out A1 c1 w3 (Kd.R_reads' HR3.out).2.2 (Kd.R_reads' HR3.out).2.1).mono ?_
  rintro _ w4 ⟨Al, cl, rfl, hRl, hb4⟩
  have HRl4 := Lib.hid hRl
  have HB34 := Lib.hid hb4
  have HB4 := Lib.hid (HB3.out.trans (hb4.mono HB3.out.size))
  clear hRl hb4 HD1
  go_wp2_with fail
  refine (HD2.out w4 (Kd.C_below HC.out HB4.out)).mono ?_
  rintro _ w5 ⟨Am, cm, rfl, hRm, hb5⟩
  have HRm5 := Lib.hid hRm
  have HRl5 := Lib.hid (Kd.R_below HRl4.out hb5)
  have HB35 := Lib.hid (HB34.out.trans (hb5.mono HB34.out.size))
  have HB5 := Lib.hid (HB4.out.trans (hb5.mono HB4.out.size))
  have HS := Lib.hid (same_any A1 A c1 c l w5 (Kd.C_below (Kd.R_reads' HR3.out).2.2 HB35.out) (Kd.R_reads' HR3.out).2.1 (Kd.C_below HC.out HB5.out) hc (by omega))
  have hs34 := HB34.out.size
  have hs35 := HB35.out.size
  clear hRm hb5 HD2 HRl4
  go_wp2_with fail
  refine HS.out.mono ?_
  rintro _ w6 ⟨rfl, hdr⟩
  have hb56 := hdr.below
  have hb36 := HB35.out.trans (hb56.mono HB35.out.size)
  obtain ⟨G, q, hG, hin⟩ := in_open HR3.out
  have hin : 0 < l.length → A1 = some ⟨q, 0, none⟩ ∧ q ∈ G ∧ ∃ cur, Blk w6 q 5 cur ∧ ∀ i, i < l.length → ∃ v, cur[i]? = some (.int .u8 v) := fun h => by
    obtain ⟨h1, h2, cur, h3, h4⟩ := hin h
    exact ⟨h1, h2, cur, h3.below hb36 h3.lt, h4⟩
  have HG := Lib.hid hG
  have HIN := Lib.hid hin
  have HRl6 := Lib.hid (Kd.R_below HRl5.out hb56)
  have HRm6 := Lib.hid (Kd.R_below HRm5.out hb56)
  have HB6 := Lib.hid (HB5.out.trans (hb56.mono HB5.out.size))
  clear hdr hb56 hb36 hG hin HS HRl5 HRm5
  go_wp2_with fail
  go_loopw [8] (fun i wr => ∃ k : Nat, k ≤ l.length ∧ i = .int .i64 k ∧ Hid (Chg G w6 wr) ∧ Hid (0 < l.length → ∃ cur, Blk wr q 5 cur ∧ ∀ i, i < l.length → ∃ v, cur[i]? = some (.int .u8 v))) (fun i _ => l.length - (intOf i).toNat)
  case atStart => exact ⟨0, by omega, rfl, Lib.hid (Chg.refl _ _), Lib.hid (fun h => (HIN.out h).2.2)⟩
  case round =>
    obtain ⟨k, hk, rfl, HCh, HCur⟩ := hrel
    by_cases hlt : k < l.length
    · have b0 : decide ((k : Int) < (l.length : Int)) = true := by simp; omega
      obtain ⟨hA1, hqG, _⟩ := HIN.out (by omega)
      obtain ⟨cur, hbk, hcur⟩ := HCur.out (by omega)
      obtain ⟨v, hv⟩ := hcur k hlt
      have x0 := (hbk.cell k).trans hv
      have xf0 := hbk.frozen k
      rw [← add_none] at x0 xf0
      have HP := Lib.hid (in_put hbk hcur k)
      have HQG := Lib.hid hqG
      obtain ⟨ad, had⟩ : ∃ ad : Addr, ad = ⟨q, 0, none⟩ := ⟨_, rfl⟩
      rw [← had] at x0 xf0 hA1
      subst hA1
      have HAD := Lib.hid had
      have HWN := Lib.hid (w64n k (by omega))
      clear hbk hcur hv hqG had
      go_wp2_with fail
      go_roundw
      case rel => exact ⟨k + 1, by omega, by first | rfl | (rw [HWN.out]; rfl), Lib.hid (by rw [HAD.out, add_none]; exact HCh.out.setCell (.inl HQG.out) _), Lib.hid (fun _ => by rw [HAD.out, add_none]; exact HP.out _)⟩
      case measure =>
        first | rw [HWN.out] | skip
        simp [intOf]
        omega
    · obtain rfl : k = l.length := by omega
      have hRlf := R_over HRl6.out HCh.out (fun x hx => (HG.out x hx).2)
      have hRmf := R_over HRm6.out HCh.out (fun x hx => Nat.lt_of_lt_of_le (HG.out x hx).2 hs34)
      have HX40 := Lib.hid (fun (W : World) (h : Below wr.heap.size wr W) => calls_any Al Am cl cm xs W (Kd.C_below (Kd.R_reads' hRlf).2.2 h) (Kd.C_below (Kd.R_reads' hRmf).2.2 h) HGO.out.1 HGO.out.2)
      have HX39 := Lib.hid (fun W : World => chordmaillaw26_num.calls er er W rfl)
      have HBf := Lib.hid (HB6.out.trans (HCh.out.below HB6.out.size (fun x hx => (HG.out x hx).1)))
      clear hRlf hRmf HCur
      go_wp2_with fail
      refine (HX39.out _).mono ?_
      rintro _ w7 ⟨rfl, hdr⟩
      have HB7 := Lib.hid hdr.below
      have hee : (er == er) = true := by simp
      clear hdr
      go_wp2_with fail
      refine (HX40.out _ HB7.out).mono ?_
      rintro _ w8 ⟨rfl, hb8⟩
      go_wp2_with fail
      go_ret
      exact ⟨rfl, HBf.out.trans ((HB7.out.trans (hb8.mono HB7.out.size)).mono HBf.out.size)⟩
end Go.Proofs.Ytlbfnnngemonoaa.Wir
