/- The document's Reading: Value. -/
import Derived.Test.YtlbfnnngemonoaaWirText
namespace Go.Proofs.Ytlbfnnngemonoaa.Wir
open Go.RowKit Go.Proofs.Ytlbfnnngemonoaa.PWireReads
open Go.Proofs.Ytlbfnnngemonoaa.Fat (Blk Chg Off)
open Go.Proofs.YtlbfnnngemonoaaW.PrintWords Go.Proofs.YtlbfnnngemonoaaW.PrintLast Go.Proofs.YtlbfnnngemonoaaW.PrintMore
set_option linter.unusedVariables false
set_option linter.unusedSimpArgs false
attribute [local go_sem] run_store_float run_store_complex
section
variable {w0 w : World} {g at0 : Nat} {L : List Int} {bad : Bool}
theorem is_move {w' : World} (h : IsS62 w0 w g L at0 bad) (e : w'.heap[g]? = w.heap[g]?) : IsS62 w0 w' g L at0 bad := by
  obtain ⟨A0, c0, h1, h2⟩ := h
  exact ⟨A0, c0, e.trans h1, h2⟩
theorem RS.refl (h : IsS62 w0 w g L at0 bad) (hb : Below w0.heap.size w0 w) : RS w0 w w g L at0 bad := ⟨h, hb, KeepBut.refl _ _ _⟩
theorem RS.below {w1 w2 : World} (h : RS w0 w w1 g L at0 bad) (hb : Below w1.heap.size w1 w2) : RS w0 w w2 g L at0 bad :=
  ⟨is_move h.1 (hb.block g h.1.lt), h.2.1.trans (hb.mono h.2.1.size), h.2.2.trans (KeepBut.of_below hb g none) (.inl rfl)⟩
theorem RS.alloc {w1 : World} (h : RS w0 w w1 g L at0 bad) (o : Obj) : RS w0 w (w1.alloc o) g L at0 bad := h.below ((Below.refl _ _).alloc (Nat.le_refl _) o)
theorem RS.setNew {w1 : World} (h : RS w0 w w1 g L at0 bad) (hle : w0.heap.size ≤ w.heap.size) (k j : Nat) (u : Value) (hk : w.heap.size ≤ k) (hg : g ≠ k) : RS w0 w (w1.setCell ⟨k, j, none⟩ u) g L at0 bad :=
  ⟨is_move h.1 (Below.heap_setCell w1 ⟨k, j, none⟩ u g hg), h.2.1.setCell (Nat.le_trans hle hk) _, ⟨by simpa [World.setCell] using h.2.2.1, fun i hi hig hr => (Below.heap_setCell w1 ⟨k, j, none⟩ u i (by
    have : i ≠ k := by omega
    exact this)).trans (h.2.2.2 i hi hig hr)⟩⟩
/-- What Value leaves. -/
def VPost (w0 w : World) (g : Nat) (L : List Int) (o : Option (V × Nat)) (at0 : Nat) (e : Ending) (w' : World) : Prop :=
  ∃ (at1 : Nat) (b1 : Bool), RS w0 w w' g L at1 b1 ∧ at1 ≤ L.length ∧ match o with
    | some (v, n) => e = .returned (ag v) ∧ at1 = at0 + n ∧ b1 = false
    | none => e = .returned (ag zV) ∧ b1 = true
set_option maxRecDepth 20000 in
set_option maxHeartbeats 4000000 in
theorem rval_short (hI : IsS62 w0 w g L at0 bad) (hb : Below w0.heap.size w0 w) (hB : By L) (hl : L.length ≤ 140737488355328) (ha : at0 ≤ L.length) (h : bad = true ∨ L.length < at0 + 1) :
    Calls Try.prog 21 #[.pointer (some ⟨g, 0, none⟩)] w (VPost w0 w g L (none) at0) := by
  have hR0 : RS w0 w (w.alloc (.cells #[.int .i64 0, .int .i64 0, .float .f64 0, .complex .f64 0 0, .string { data := #[] }] 50)) g L at0 bad := (RS.refl hI hb).alloc _
  have hg1 : g ≠ w.heap.size := by have := hI.lt; omega
  have hle := hb.size
  have HN1 := Lib.hid (num_bad hR0.1 hR0.2.1 1 h ha hl (by omega))
  have HR0 := Lib.hid hR0
  have HB := Lib.hid hB
  clear hI hb hR0 hB
  go_enter Try.func21, Try.ntmps21
  go_wp2_with fail
  refine HN1.out.mono ?_
  rintro e w1 ⟨rfl, hR1⟩
  have b2 := Blk.keep (Blk.new w 50 #[.int .i64 0, .int .i64 0, .float .f64 0, .complex .f64 0 0, .string { data := #[] }]) hR1.2.2 (Ne.symm hg1)
  have hR1 := HR0.out.trans hR1
  have hs1 : w.heap.size < w1.heap.size := b2.lt
  have hg2 : g ≠ w1.heap.size := by have := hR1.1.lt; omega
  go_upto_region 2 with fail
  have b3 := Blk.new w1 50 #[.int .i64 0, .int .i64 0, .float .f64 0, .complex .f64 0 0, .string { data := #[] }]
  have b2 := b2.alloc (.cells #[.int .i64 0, .int .i64 0, .float .f64 0, .complex .f64 0 0, .string { data := #[] }] 50)
  have hR2 := hR1.alloc (.cells #[.int .i64 0, .int .i64 0, .float .f64 0, .complex .f64 0 0, .string { data := #[] }] 50)
  generalize w1.alloc (.cells #[.int .i64 0, .int .i64 0, .float .f64 0, .complex .f64 0 0, .string { data := #[] }] 50) = w2 at b2 b3 hR2 ⊢
  have n1 := hg1.symm
  have n2 := hg2.symm
  have n3 : w.heap.size ≠ w1.heap.size := by omega
  have n4 : w1.heap.size ≠ w.heap.size := by omega
  have y0 := b3.cell 0
  have y1 := b3.cell 1
  have y2 := b3.cell 2
  have y3 := b3.cell 3
  have y4 := b3.cell 4
  simp at y0 y1 y2 y3 y4
  obtain ⟨z, zf⟩ := rs_cell hR2.1
  go_upto_region 17 with fail
  have hR5 := hR2.set_2 true
  have c2 : Blk (w2.setCell ⟨g, 2, none⟩ (.bool true)) w.heap.size 50 #[.int .i64 0, .int .i64 0, .float .f64 0, .complex .f64 0 0, .string { data := #[] }] := b2.far (Ne.symm hg1) _
  generalize w2.setCell ⟨g, 2, none⟩ (.bool true) = w5 at hR5 c2 ⊢
  clear y0 y1 y2 y3 y4 z zf
  obtain ⟨z, zf⟩ := rs_cell hR5.1
  have r0 := c2.cell 0
  have rf0 := c2.frozen 0
  have r1 := c2.cell 1
  have rf1 := c2.frozen 1
  have r2 := c2.cell 2
  have rf2 := c2.frozen 2
  have r3 := c2.cell 3
  have rf3 := c2.frozen 3
  have r4 := c2.cell 4
  have rf4 := c2.frozen 4
  simp at r0 r1 r2 r3 r4
  go_wp2_with fail
  try simp only [Exit.inBlock, Exit.then]
  refine bodyPost_ret (results_cell_row rfl _ _ w.heap.size 50 #[.int .i64 0, .int .i64 0, .float .f64 0, .complex .f64 0 0, .string { data := #[] }] (0, 0) _ rfl (show Blk _ w.heap.size 50 #[.int .i64 0, .int .i64 0, .float .f64 0, .complex .f64 0 0, .string { data := #[] }] from ((((c2.set_ 0 _).set_ 1 _).set_ 2 _).set_ 3 _).set_ 4 _) Try.underlying50 rfl (by kernel_rfl)) rfl ?_
  exact ⟨at0, true, ((((hR5.setNew hle _ 0 _ (Nat.le_refl _) hg1).setNew hle _ 1 _ (Nat.le_refl _) hg1).setNew hle _ 2 _ (Nat.le_refl _) hg1).setNew hle _ 3 _ (Nat.le_refl _) hg1).setNew hle _ 4 _ (Nat.le_refl _) hg1, by omega, rfl, rfl⟩
set_option maxRecDepth 20000 in
set_option maxHeartbeats 4000000 in
theorem rval_kind (hI : IsS62 w0 w g L at0 false) (hb : Below w0.heap.size w0 w) (hB : By L) (hl : L.length ≤ 140737488355328) (ha : at0 ≤ L.length) (h1 : at0 + 1 ≤ L.length) (q : Int) (hk : (L.drop at0).getD 0 0 = q) (hq : 0 ≤ q ∧ q < 256) (hn : q ≠ 1 ∧ q ≠ 2 ∧ q ≠ 3 ∧ q ≠ 4) :
    Calls Try.prog 21 #[.pointer (some ⟨g, 0, none⟩)] w (VPost w0 w g L (none) at0) := by
  have e1 : (q == 1) = false := by simp [hn.1]
  have e2 : (q == 2) = false := by simp [hn.2.1]
  have e3 : (q == 3) = false := by simp [hn.2.2.1]
  have e4 : (q == 4) = false := by simp [hn.2.2.2]
  have hR0 : RS w0 w (w.alloc (.cells #[.int .i64 0, .int .i64 0, .float .f64 0, .complex .f64 0 0, .string { data := #[] }] 50)) g L at0 false := (RS.refl hI hb).alloc _
  have hg1 : g ≠ w.heap.size := by have := hI.lt; omega
  have hle := hb.size
  have HN1 := Lib.hid (num_ok hR0.1 hR0.2.1 hB 1 (by omega) (by omega) hl)
  have hk1 : num ((L.drop at0).take 1) = (L.drop at0).getD 0 0 := by
    rw [num_take _ 0 (by rw [List.length_drop]; omega)]
    show 0 * 256 + _ = _
    omega
  rw [hk1, hk] at HN1
  have HR0 := Lib.hid hR0
  have HB := Lib.hid hB
  clear hI hb hR0 hB
  go_enter Try.func21, Try.ntmps21
  go_wp2_with fail
  refine HN1.out.mono ?_
  rintro e w1 ⟨rfl, hR1⟩
  have b2 := Blk.keep (Blk.new w 50 #[.int .i64 0, .int .i64 0, .float .f64 0, .complex .f64 0 0, .string { data := #[] }]) hR1.2.2 (Ne.symm hg1)
  have hR1 := HR0.out.trans hR1
  have hs1 : w.heap.size < w1.heap.size := b2.lt
  have hg2 : g ≠ w1.heap.size := by have := hR1.1.lt; omega
  go_upto_region 2 with fail
  have b3 := Blk.new w1 50 #[.int .i64 q, .int .i64 0, .float .f64 0, .complex .f64 0 0, .string { data := #[] }]
  have b2 := b2.alloc (.cells #[.int .i64 q, .int .i64 0, .float .f64 0, .complex .f64 0 0, .string { data := #[] }] 50)
  have hR2 := hR1.alloc (.cells #[.int .i64 q, .int .i64 0, .float .f64 0, .complex .f64 0 0, .string { data := #[] }] 50)
  generalize w1.alloc (.cells #[.int .i64 q, .int .i64 0, .float .f64 0, .complex .f64 0 0, .string { data := #[] }] 50) = w2 at b2 b3 hR2 ⊢
  have n1 := hg1.symm
  have n2 := hg2.symm
  have n3 : w.heap.size ≠ w1.heap.size := by omega
  have n4 : w1.heap.size ≠ w.heap.size := by omega
  have y0 := b3.cell 0
  have y1 := b3.cell 1
  have y2 := b3.cell 2
  have y3 := b3.cell 3
  have y4 := b3.cell 4
  simp at y0 y1 y2 y3 y4
  obtain ⟨z, zf⟩ := rs_cell hR2.1
  go_upto_region 17 with fail
  have hR5 := hR2.set_2 true
  have c2 : Blk (w2.setCell ⟨g, 2, none⟩ (.bool true)) w.heap.size 50 #[.int .i64 0, .int .i64 0, .float .f64 0, .complex .f64 0 0, .string { data := #[] }] := b2.far (Ne.symm hg1) _
  generalize w2.setCell ⟨g, 2, none⟩ (.bool true) = w5 at hR5 c2 ⊢
  clear y0 y1 y2 y3 y4 z zf
  obtain ⟨z, zf⟩ := rs_cell hR5.1
  have r0 := c2.cell 0
  have rf0 := c2.frozen 0
  have r1 := c2.cell 1
  have rf1 := c2.frozen 1
  have r2 := c2.cell 2
  have rf2 := c2.frozen 2
  have r3 := c2.cell 3
  have rf3 := c2.frozen 3
  have r4 := c2.cell 4
  have rf4 := c2.frozen 4
  simp at r0 r1 r2 r3 r4
  go_wp2_with fail
  try simp only [Exit.inBlock, Exit.then]
  refine bodyPost_ret (results_cell_row rfl _ _ w.heap.size 50 #[.int .i64 0, .int .i64 0, .float .f64 0, .complex .f64 0 0, .string { data := #[] }] (0, 0) _ rfl (show Blk _ w.heap.size 50 #[.int .i64 0, .int .i64 0, .float .f64 0, .complex .f64 0 0, .string { data := #[] }] from ((((c2.set_ 0 _).set_ 1 _).set_ 2 _).set_ 3 _).set_ 4 _) Try.underlying50 rfl (by kernel_rfl)) rfl ?_
  exact ⟨at0 + 1, true, ((((hR5.setNew hle _ 0 _ (Nat.le_refl _) hg1).setNew hle _ 1 _ (Nat.le_refl _) hg1).setNew hle _ 2 _ (Nat.le_refl _) hg1).setNew hle _ 3 _ (Nat.le_refl _) hg1).setNew hle _ 4 _ (Nat.le_refl _) hg1, by omega, rfl, rfl⟩
set_option maxRecDepth 20000 in
set_option maxHeartbeats 4000000 in
theorem rval_int (hI : IsS62 w0 w g L at0 false) (hb : Below w0.heap.size w0 w) (hB : By L) (hl : L.length ≤ 140737488355328) (ha : at0 ≤ L.length) (hk : (L.drop at0).getD 0 0 = 1) (h9 : at0 + 9 ≤ L.length) :
    Calls Try.prog 21 #[.pointer (some ⟨g, 0, none⟩)] w (VPost w0 w g L (some (vI (wrap64 (num ((L.drop (at0 + 1)).take 8))), 9)) at0) := by
  have hR0 : RS w0 w (w.alloc (.cells #[.int .i64 0, .int .i64 0, .float .f64 0, .complex .f64 0 0, .string { data := #[] }] 50)) g L at0 false := (RS.refl hI hb).alloc _
  have hg1 : g ≠ w.heap.size := by have := hI.lt; omega
  have hle := hb.size
  have HN1 := Lib.hid (num_ok hR0.1 hR0.2.1 hB 1 (by omega) (by omega) hl)
  have hk1 : num ((L.drop at0).take 1) = (L.drop at0).getD 0 0 := by
    rw [num_take _ 0 (by rw [List.length_drop]; omega)]
    show 0 * 256 + _ = _
    omega
  rw [hk1, hk] at HN1
  have HR0 := Lib.hid hR0
  have HB := Lib.hid hB
  have HBy := Lib.hid hB
  clear hI hb hR0 hB hk hk1
  generalize hnd : num ((L.drop (at0 + 1)).take 8) = n
  have HND := Lib.hid hnd
  clear hnd
  go_enter Try.func21, Try.ntmps21
  go_wp2_with fail
  refine HN1.out.mono ?_
  rintro e w1 ⟨rfl, hR1⟩
  have b2 := Blk.keep (Blk.new w 50 #[.int .i64 0, .int .i64 0, .float .f64 0, .complex .f64 0 0, .string { data := #[] }]) hR1.2.2 (Ne.symm hg1)
  have hR1 := HR0.out.trans hR1
  have hs1 : w.heap.size < w1.heap.size := b2.lt
  have hg2 : g ≠ w1.heap.size := by have := hR1.1.lt; omega
  go_upto_region 2 with fail
  have b3 := Blk.new w1 50 #[.int .i64 1, .int .i64 0, .float .f64 0, .complex .f64 0 0, .string { data := #[] }]
  have b2 := b2.alloc (.cells #[.int .i64 1, .int .i64 0, .float .f64 0, .complex .f64 0 0, .string { data := #[] }] 50)
  have hR2 := hR1.alloc (.cells #[.int .i64 1, .int .i64 0, .float .f64 0, .complex .f64 0 0, .string { data := #[] }] 50)
  generalize w1.alloc (.cells #[.int .i64 1, .int .i64 0, .float .f64 0, .complex .f64 0 0, .string { data := #[] }] 50) = w2 at b2 b3 hR2 ⊢
  have n1 := hg1.symm
  have n2 := hg2.symm
  have n3 : w.heap.size ≠ w1.heap.size := by omega
  have n4 : w1.heap.size ≠ w.heap.size := by omega
  have y0 := b3.cell 0
  have y1 := b3.cell 1
  have y2 := b3.cell 2
  have y3 := b3.cell 3
  have y4 := b3.cell 4
  simp at y0 y1 y2 y3 y4
  obtain ⟨z, zf⟩ := rs_cell hR2.1
  have HN2 := Lib.hid (num_ok hR2.1 hR2.2.1 HBy.out 8 (by omega) (by omega) hl)
  rw [HND.out] at HN2
  go_wp2_with fail
  refine HN2.out.mono ?_
  rintro e w3 ⟨rfl, hR3⟩
  have b2 := Blk.keep b2 hR3.2.2 n1
  have b3 := Blk.keep b3 hR3.2.2 n2
  have hR3 := hR2.trans hR3
  clear z zf y0 y1 y2 y3 y4
  obtain ⟨z, zf⟩ := rs_cell hR3.1
  have y0 := b3.cell 0
  have yf0 := b3.frozen 0
  have y1 := b3.cell 1
  have yf1 := b3.frozen 1
  have y2 := b3.cell 2
  have yf2 := b3.frozen 2
  have y3 := b3.cell 3
  have yf3 := b3.frozen 3
  have y4 := b3.cell 4
  have yf4 := b3.frozen 4
  simp at y0 y1 y2 y3 y4
  go_upto_region 17 with fail
  have hR5 := hR3.setNew hle w1.heap.size 1 (.int .i64 (wrap64 n)) (by omega) hg2
  have c2 : Blk (w3.setCell ⟨w1.heap.size, 1, none⟩ (.int .i64 (wrap64 n))) w.heap.size 50 #[.int .i64 0, .int .i64 0, .float .f64 0, .complex .f64 0 0, .string { data := #[] }] := b2.far n3 _
  have c3 : Blk (w3.setCell ⟨w1.heap.size, 1, none⟩ (.int .i64 (wrap64 n))) w1.heap.size 50 #[.int .i64 1, .int .i64 (wrap64 n), .float .f64 0, .complex .f64 0 0, .string { data := #[] }] := b3.set_ 1 _
  generalize w3.setCell ⟨w1.heap.size, 1, none⟩ (.int .i64 (wrap64 n)) = w5 at hR5 c2 c3 ⊢
  clear y0 yf0 y1 yf1 y2 yf2 y3 yf3 y4 yf4
  clear z zf
  obtain ⟨z, zf⟩ := rs_cell hR5.1
  have y0 := c3.cell 0
  have y1 := c3.cell 1
  have y2 := c3.cell 2
  have y3 := c3.cell 3
  have y4 := c3.cell 4
  simp at y0 y1 y2 y3 y4
  have HP : Hid (∀ W : World, Calls Try.prog 59 #[.agg #[.int .i64 1, .int .i64 (wrap64 n), .float .f64 0, .complex .f64 0 0, .string { data := #[] }]] W fun e w' => e = .returned (.agg #[.int .i64 1, .int .i64 (wrap64 n), .float .f64 0, .complex .f64 0 0, .string { data := #[] }]) ∧ Below W.heap.size W w') := Lib.hid (fun W => rplain_any _ (.inl ⟨wrap64 n, rfl⟩) W)
  go_wp2_with fail
  refine (HP.out _).mono ?_
  rintro e w6 ⟨rfl, hb6⟩
  have d2 := c2.below hb6 c2.lt
  have hR6 := hR5.below hb6
  have r0 := d2.cell 0
  have rf0 := d2.frozen 0
  have r1 := d2.cell 1
  have rf1 := d2.frozen 1
  have r2 := d2.cell 2
  have rf2 := d2.frozen 2
  have r3 := d2.cell 3
  have rf3 := d2.frozen 3
  have r4 := d2.cell 4
  have rf4 := d2.frozen 4
  simp at r0 r1 r2 r3 r4
  clear y0 y1 y2 y3 y4
  go_wp2_with fail
  try simp only [Exit.inBlock, Exit.then]
  refine bodyPost_ret (results_cell_row rfl _ _ w.heap.size 50 #[.int .i64 1, .int .i64 (wrap64 n), .float .f64 0, .complex .f64 0 0, .string { data := #[] }] (0, 0) _ rfl (show Blk _ w.heap.size 50 #[.int .i64 1, .int .i64 (wrap64 n), .float .f64 0, .complex .f64 0 0, .string { data := #[] }] from ((((d2.set_ 0 _).set_ 1 _).set_ 2 _).set_ 3 _).set_ 4 _) Try.underlying50 rfl (by kernel_rfl)) rfl ?_
  exact ⟨at0 + 1 + 8, false, ((((hR6.setNew hle _ 0 _ (Nat.le_refl _) hg1).setNew hle _ 1 _ (Nat.le_refl _) hg1).setNew hle _ 2 _ (Nat.le_refl _) hg1).setNew hle _ 3 _ (Nat.le_refl _) hg1).setNew hle _ 4 _ (Nat.le_refl _) hg1, by omega, rfl, rfl, rfl⟩
set_option maxRecDepth 20000 in
set_option maxHeartbeats 4000000 in
theorem rval_int_cut (hI : IsS62 w0 w g L at0 false) (hb : Below w0.heap.size w0 w) (hB : By L) (hl : L.length ≤ 140737488355328) (ha : at0 ≤ L.length) (hk : (L.drop at0).getD 0 0 = 1) (h1 : at0 + 1 ≤ L.length) (h9 : L.length < at0 + 9) :
    Calls Try.prog 21 #[.pointer (some ⟨g, 0, none⟩)] w (VPost w0 w g L (none) at0) := by
  have hR0 : RS w0 w (w.alloc (.cells #[.int .i64 0, .int .i64 0, .float .f64 0, .complex .f64 0 0, .string { data := #[] }] 50)) g L at0 false := (RS.refl hI hb).alloc _
  have hg1 : g ≠ w.heap.size := by have := hI.lt; omega
  have hle := hb.size
  have HN1 := Lib.hid (num_ok hR0.1 hR0.2.1 hB 1 (by omega) (by omega) hl)
  have hk1 : num ((L.drop at0).take 1) = (L.drop at0).getD 0 0 := by
    rw [num_take _ 0 (by rw [List.length_drop]; omega)]
    show 0 * 256 + _ = _
    omega
  rw [hk1, hk] at HN1
  have HR0 := Lib.hid hR0
  have HB := Lib.hid hB
  have HBy := Lib.hid hB
  clear hI hb hR0 hB hk hk1
  go_enter Try.func21, Try.ntmps21
  go_wp2_with fail
  refine HN1.out.mono ?_
  rintro e w1 ⟨rfl, hR1⟩
  have b2 := Blk.keep (Blk.new w 50 #[.int .i64 0, .int .i64 0, .float .f64 0, .complex .f64 0 0, .string { data := #[] }]) hR1.2.2 (Ne.symm hg1)
  have hR1 := HR0.out.trans hR1
  have hs1 : w.heap.size < w1.heap.size := b2.lt
  have hg2 : g ≠ w1.heap.size := by have := hR1.1.lt; omega
  go_upto_region 2 with fail
  have b3 := Blk.new w1 50 #[.int .i64 1, .int .i64 0, .float .f64 0, .complex .f64 0 0, .string { data := #[] }]
  have b2 := b2.alloc (.cells #[.int .i64 1, .int .i64 0, .float .f64 0, .complex .f64 0 0, .string { data := #[] }] 50)
  have hR2 := hR1.alloc (.cells #[.int .i64 1, .int .i64 0, .float .f64 0, .complex .f64 0 0, .string { data := #[] }] 50)
  generalize w1.alloc (.cells #[.int .i64 1, .int .i64 0, .float .f64 0, .complex .f64 0 0, .string { data := #[] }] 50) = w2 at b2 b3 hR2 ⊢
  have n1 := hg1.symm
  have n2 := hg2.symm
  have n3 : w.heap.size ≠ w1.heap.size := by omega
  have n4 : w1.heap.size ≠ w.heap.size := by omega
  have y0 := b3.cell 0
  have y1 := b3.cell 1
  have y2 := b3.cell 2
  have y3 := b3.cell 3
  have y4 := b3.cell 4
  simp at y0 y1 y2 y3 y4
  obtain ⟨z, zf⟩ := rs_cell hR2.1
  have HN2 := Lib.hid (num_bad hR2.1 hR2.2.1 8 (.inr (by omega)) (by omega) hl (by omega))
  go_wp2_with fail
  refine HN2.out.mono ?_
  rintro e w3 ⟨rfl, hR3⟩
  have b2 := Blk.keep b2 hR3.2.2 n1
  have b3 := Blk.keep b3 hR3.2.2 n2
  have hR3 := hR2.trans hR3
  clear z zf y0 y1 y2 y3 y4
  obtain ⟨z, zf⟩ := rs_cell hR3.1
  have y0 := b3.cell 0
  have yf0 := b3.frozen 0
  have y1 := b3.cell 1
  have yf1 := b3.frozen 1
  have y2 := b3.cell 2
  have yf2 := b3.frozen 2
  have y3 := b3.cell 3
  have yf3 := b3.frozen 3
  have y4 := b3.cell 4
  have yf4 := b3.frozen 4
  simp at y0 y1 y2 y3 y4
  go_upto_region 17 with fail
  have hR5 := hR3.setNew hle w1.heap.size 1 (.int .i64 0) (by omega) hg2
  have c2 : Blk (w3.setCell ⟨w1.heap.size, 1, none⟩ (.int .i64 0)) w.heap.size 50 #[.int .i64 0, .int .i64 0, .float .f64 0, .complex .f64 0 0, .string { data := #[] }] := b2.far n3 _
  have c3 : Blk (w3.setCell ⟨w1.heap.size, 1, none⟩ (.int .i64 0)) w1.heap.size 50 #[.int .i64 1, .int .i64 0, .float .f64 0, .complex .f64 0 0, .string { data := #[] }] := b3.set_ 1 _
  generalize w3.setCell ⟨w1.heap.size, 1, none⟩ (.int .i64 0) = w5 at hR5 c2 c3 ⊢
  clear y0 yf0 y1 yf1 y2 yf2 y3 yf3 y4 yf4
  clear z zf
  obtain ⟨z, zf⟩ := rs_cell hR5.1
  have r0 := c2.cell 0
  have rf0 := c2.frozen 0
  have r1 := c2.cell 1
  have rf1 := c2.frozen 1
  have r2 := c2.cell 2
  have rf2 := c2.frozen 2
  have r3 := c2.cell 3
  have rf3 := c2.frozen 3
  have r4 := c2.cell 4
  have rf4 := c2.frozen 4
  simp at r0 r1 r2 r3 r4
  go_wp2_with fail
  try simp only [Exit.inBlock, Exit.then]
  refine bodyPost_ret (results_cell_row rfl _ _ w.heap.size 50 #[.int .i64 0, .int .i64 0, .float .f64 0, .complex .f64 0 0, .string { data := #[] }] (0, 0) _ rfl (show Blk _ w.heap.size 50 #[.int .i64 0, .int .i64 0, .float .f64 0, .complex .f64 0 0, .string { data := #[] }] from ((((c2.set_ 0 _).set_ 1 _).set_ 2 _).set_ 3 _).set_ 4 _) Try.underlying50 rfl (by kernel_rfl)) rfl ?_
  exact ⟨at0 + 1, true, ((((hR5.setNew hle _ 0 _ (Nat.le_refl _) hg1).setNew hle _ 1 _ (Nat.le_refl _) hg1).setNew hle _ 2 _ (Nat.le_refl _) hg1).setNew hle _ 3 _ (Nat.le_refl _) hg1).setNew hle _ 4 _ (Nat.le_refl _) hg1, by omega, rfl, rfl⟩
set_option maxRecDepth 20000 in
set_option maxHeartbeats 4000000 in
theorem rval_real (hI : IsS62 w0 w g L at0 false) (hb : Below w0.heap.size w0 w) (hB : By L) (hl : L.length ≤ 140737488355328) (ha : at0 ≤ L.length) (hk : (L.drop at0).getD 0 0 = 2) (h9 : at0 + 9 ≤ L.length) (hf : fineB (num ((L.drop (at0 + 1)).take 8)).toNat = true) :
    Calls Try.prog 21 #[.pointer (some ⟨g, 0, none⟩)] w (VPost w0 w g L (some (vR (num ((L.drop (at0 + 1)).take 8)).toNat, 9)) at0) := by
  have hx := fine_of hf
  have hR0 : RS w0 w (w.alloc (.cells #[.int .i64 0, .int .i64 0, .float .f64 0, .complex .f64 0 0, .string { data := #[] }] 50)) g L at0 false := (RS.refl hI hb).alloc _
  have hg1 : g ≠ w.heap.size := by have := hI.lt; omega
  have hle := hb.size
  have HN1 := Lib.hid (num_ok hR0.1 hR0.2.1 hB 1 (by omega) (by omega) hl)
  have hk1 : num ((L.drop at0).take 1) = (L.drop at0).getD 0 0 := by
    rw [num_take _ 0 (by rw [List.length_drop]; omega)]
    show 0 * 256 + _ = _
    omega
  rw [hk1, hk] at HN1
  have HR0 := Lib.hid hR0
  have HB := Lib.hid hB
  have HBy := Lib.hid hB
  clear hI hb hR0 hB hk hk1
  generalize hnd : (num ((L.drop (at0 + 1)).take 8)).toNat = n at hx
  have HND := Lib.hid hnd
  rw [hnd] at hf
  have HF := Lib.hid hf
  clear hnd hf
  go_enter Try.func21, Try.ntmps21
  go_wp2_with fail
  refine HN1.out.mono ?_
  rintro e w1 ⟨rfl, hR1⟩
  have b2 := Blk.keep (Blk.new w 50 #[.int .i64 0, .int .i64 0, .float .f64 0, .complex .f64 0 0, .string { data := #[] }]) hR1.2.2 (Ne.symm hg1)
  have hR1 := HR0.out.trans hR1
  have hs1 : w.heap.size < w1.heap.size := b2.lt
  have hg2 : g ≠ w1.heap.size := by have := hR1.1.lt; omega
  go_upto_region 2 with fail
  have b3 := Blk.new w1 50 #[.int .i64 2, .int .i64 0, .float .f64 0, .complex .f64 0 0, .string { data := #[] }]
  have b2 := b2.alloc (.cells #[.int .i64 2, .int .i64 0, .float .f64 0, .complex .f64 0 0, .string { data := #[] }] 50)
  have hR2 := hR1.alloc (.cells #[.int .i64 2, .int .i64 0, .float .f64 0, .complex .f64 0 0, .string { data := #[] }] 50)
  generalize w1.alloc (.cells #[.int .i64 2, .int .i64 0, .float .f64 0, .complex .f64 0 0, .string { data := #[] }] 50) = w2 at b2 b3 hR2 ⊢
  have n1 := hg1.symm
  have n2 := hg2.symm
  have n3 : w.heap.size ≠ w1.heap.size := by omega
  have n4 : w1.heap.size ≠ w.heap.size := by omega
  have y0 := b3.cell 0
  have y1 := b3.cell 1
  have y2 := b3.cell 2
  have y3 := b3.cell 3
  have y4 := b3.cell 4
  simp at y0 y1 y2 y3 y4
  obtain ⟨z, zf⟩ := rs_cell hR2.1
  have HN2 := Lib.hid (real_ok hR2.1 hR2.2.1 HBy.out (by omega) hl)
  rw [HND.out, HF.out] at HN2
  go_wp2_with fail
  refine HN2.out.mono ?_
  rintro e w3 ⟨rfl, hR3⟩
  have b2 := Blk.keep b2 hR3.2.2 n1
  have b3 := Blk.keep b3 hR3.2.2 n2
  have hR3 := hR2.trans hR3
  clear z zf y0 y1 y2 y3 y4
  obtain ⟨z, zf⟩ := rs_cell hR3.1
  have y0 := b3.cell 0
  have yf0 := b3.frozen 0
  have y1 := b3.cell 1
  have yf1 := b3.frozen 1
  have y2 := b3.cell 2
  have yf2 := b3.frozen 2
  have y3 := b3.cell 3
  have yf3 := b3.frozen 3
  have y4 := b3.cell 4
  have yf4 := b3.frozen 4
  simp at y0 y1 y2 y3 y4
  go_upto_region 17 with fail
  have hR5 := hR3.setNew hle w1.heap.size 2 (.float .f64 n) (by omega) hg2
  have c2 : Blk (w3.setCell ⟨w1.heap.size, 2, none⟩ (.float .f64 n)) w.heap.size 50 #[.int .i64 0, .int .i64 0, .float .f64 0, .complex .f64 0 0, .string { data := #[] }] := b2.far n3 _
  have c3 : Blk (w3.setCell ⟨w1.heap.size, 2, none⟩ (.float .f64 n)) w1.heap.size 50 #[.int .i64 2, .int .i64 0, .float .f64 n, .complex .f64 0 0, .string { data := #[] }] := b3.set_ 2 _
  generalize w3.setCell ⟨w1.heap.size, 2, none⟩ (.float .f64 n) = w5 at hR5 c2 c3 ⊢
  clear y0 yf0 y1 yf1 y2 yf2 y3 yf3 y4 yf4
  clear z zf
  obtain ⟨z, zf⟩ := rs_cell hR5.1
  have y0 := c3.cell 0
  have y1 := c3.cell 1
  have y2 := c3.cell 2
  have y3 := c3.cell 3
  have y4 := c3.cell 4
  simp at y0 y1 y2 y3 y4
  have HP : Hid (∀ W : World, Calls Try.prog 59 #[.agg #[.int .i64 2, .int .i64 0, .float .f64 n, .complex .f64 0 0, .string { data := #[] }]] W fun e w' => e = .returned (.agg #[.int .i64 2, .int .i64 0, .float .f64 n, .complex .f64 0 0, .string { data := #[] }]) ∧ Below W.heap.size W w') := Lib.hid (fun W => rplain_any _ (.inr (.inl ⟨n, hx, rfl⟩)) W)
  go_wp2_with fail
  refine (HP.out _).mono ?_
  rintro e w6 ⟨rfl, hb6⟩
  have d2 := c2.below hb6 c2.lt
  have hR6 := hR5.below hb6
  have r0 := d2.cell 0
  have rf0 := d2.frozen 0
  have r1 := d2.cell 1
  have rf1 := d2.frozen 1
  have r2 := d2.cell 2
  have rf2 := d2.frozen 2
  have r3 := d2.cell 3
  have rf3 := d2.frozen 3
  have r4 := d2.cell 4
  have rf4 := d2.frozen 4
  simp at r0 r1 r2 r3 r4
  clear y0 y1 y2 y3 y4
  go_wp2_with fail
  try simp only [Exit.inBlock, Exit.then]
  refine bodyPost_ret (results_cell_row rfl _ _ w.heap.size 50 #[.int .i64 2, .int .i64 0, .float .f64 n, .complex .f64 0 0, .string { data := #[] }] (0, 0) _ rfl (show Blk _ w.heap.size 50 #[.int .i64 2, .int .i64 0, .float .f64 n, .complex .f64 0 0, .string { data := #[] }] from ((((d2.set_ 0 _).set_ 1 _).set_ 2 _).set_ 3 _).set_ 4 _) Try.underlying50 rfl (by kernel_rfl)) rfl ?_
  exact ⟨at0 + 1 + 8, false, ((((hR6.setNew hle _ 0 _ (Nat.le_refl _) hg1).setNew hle _ 1 _ (Nat.le_refl _) hg1).setNew hle _ 2 _ (Nat.le_refl _) hg1).setNew hle _ 3 _ (Nat.le_refl _) hg1).setNew hle _ 4 _ (Nat.le_refl _) hg1, by omega, rfl, rfl, rfl⟩
set_option maxRecDepth 20000 in
set_option maxHeartbeats 4000000 in
theorem rval_real_bad (hI : IsS62 w0 w g L at0 false) (hb : Below w0.heap.size w0 w) (hB : By L) (hl : L.length ≤ 140737488355328) (ha : at0 ≤ L.length) (hk : (L.drop at0).getD 0 0 = 2) (h9 : at0 + 9 ≤ L.length) (hf : fineB (num ((L.drop (at0 + 1)).take 8)).toNat = false) :
    Calls Try.prog 21 #[.pointer (some ⟨g, 0, none⟩)] w (VPost w0 w g L (none) at0) := by
  have hR0 : RS w0 w (w.alloc (.cells #[.int .i64 0, .int .i64 0, .float .f64 0, .complex .f64 0 0, .string { data := #[] }] 50)) g L at0 false := (RS.refl hI hb).alloc _
  have hg1 : g ≠ w.heap.size := by have := hI.lt; omega
  have hle := hb.size
  have HN1 := Lib.hid (num_ok hR0.1 hR0.2.1 hB 1 (by omega) (by omega) hl)
  have hk1 : num ((L.drop at0).take 1) = (L.drop at0).getD 0 0 := by
    rw [num_take _ 0 (by rw [List.length_drop]; omega)]
    show 0 * 256 + _ = _
    omega
  rw [hk1, hk] at HN1
  have HR0 := Lib.hid hR0
  have HB := Lib.hid hB
  have HBy := Lib.hid hB
  clear hI hb hR0 hB hk hk1
  generalize hnd : (num ((L.drop (at0 + 1)).take 8)).toNat = n
  have HND := Lib.hid hnd
  rw [hnd] at hf
  have HF := Lib.hid hf
  clear hnd hf
  go_enter Try.func21, Try.ntmps21
  go_wp2_with fail
  refine HN1.out.mono ?_
  rintro e w1 ⟨rfl, hR1⟩
  have b2 := Blk.keep (Blk.new w 50 #[.int .i64 0, .int .i64 0, .float .f64 0, .complex .f64 0 0, .string { data := #[] }]) hR1.2.2 (Ne.symm hg1)
  have hR1 := HR0.out.trans hR1
  have hs1 : w.heap.size < w1.heap.size := b2.lt
  have hg2 : g ≠ w1.heap.size := by have := hR1.1.lt; omega
  go_upto_region 2 with fail
  have b3 := Blk.new w1 50 #[.int .i64 2, .int .i64 0, .float .f64 0, .complex .f64 0 0, .string { data := #[] }]
  have b2 := b2.alloc (.cells #[.int .i64 2, .int .i64 0, .float .f64 0, .complex .f64 0 0, .string { data := #[] }] 50)
  have hR2 := hR1.alloc (.cells #[.int .i64 2, .int .i64 0, .float .f64 0, .complex .f64 0 0, .string { data := #[] }] 50)
  generalize w1.alloc (.cells #[.int .i64 2, .int .i64 0, .float .f64 0, .complex .f64 0 0, .string { data := #[] }] 50) = w2 at b2 b3 hR2 ⊢
  have n1 := hg1.symm
  have n2 := hg2.symm
  have n3 : w.heap.size ≠ w1.heap.size := by omega
  have n4 : w1.heap.size ≠ w.heap.size := by omega
  have y0 := b3.cell 0
  have y1 := b3.cell 1
  have y2 := b3.cell 2
  have y3 := b3.cell 3
  have y4 := b3.cell 4
  simp at y0 y1 y2 y3 y4
  obtain ⟨z, zf⟩ := rs_cell hR2.1
  have HN2 := Lib.hid (real_ok hR2.1 hR2.2.1 HBy.out (by omega) hl)
  rw [HND.out, HF.out] at HN2
  go_wp2_with fail
  refine HN2.out.mono ?_
  rintro e w3 ⟨rfl, hR3⟩
  have b2 := Blk.keep b2 hR3.2.2 n1
  have b3 := Blk.keep b3 hR3.2.2 n2
  have hR3 := hR2.trans hR3
  clear z zf y0 y1 y2 y3 y4
  obtain ⟨z, zf⟩ := rs_cell hR3.1
  have y0 := b3.cell 0
  have yf0 := b3.frozen 0
  have y1 := b3.cell 1
  have yf1 := b3.frozen 1
  have y2 := b3.cell 2
  have yf2 := b3.frozen 2
  have y3 := b3.cell 3
  have yf3 := b3.frozen 3
  have y4 := b3.cell 4
  have yf4 := b3.frozen 4
  simp at y0 y1 y2 y3 y4
  go_upto_region 17 with fail
  have hR5 := hR3.setNew hle w1.heap.size 2 (.float .f64 n) (by omega) hg2
  have c2 : Blk (w3.setCell ⟨w1.heap.size, 2, none⟩ (.float .f64 n)) w.heap.size 50 #[.int .i64 0, .int .i64 0, .float .f64 0, .complex .f64 0 0, .string { data := #[] }] := b2.far n3 _
  have c3 : Blk (w3.setCell ⟨w1.heap.size, 2, none⟩ (.float .f64 n)) w1.heap.size 50 #[.int .i64 2, .int .i64 0, .float .f64 n, .complex .f64 0 0, .string { data := #[] }] := b3.set_ 2 _
  generalize w3.setCell ⟨w1.heap.size, 2, none⟩ (.float .f64 n) = w5 at hR5 c2 c3 ⊢
  clear y0 yf0 y1 yf1 y2 yf2 y3 yf3 y4 yf4
  clear z zf
  obtain ⟨z, zf⟩ := rs_cell hR5.1
  have r0 := c2.cell 0
  have rf0 := c2.frozen 0
  have r1 := c2.cell 1
  have rf1 := c2.frozen 1
  have r2 := c2.cell 2
  have rf2 := c2.frozen 2
  have r3 := c2.cell 3
  have rf3 := c2.frozen 3
  have r4 := c2.cell 4
  have rf4 := c2.frozen 4
  simp at r0 r1 r2 r3 r4
  go_wp2_with fail
  try simp only [Exit.inBlock, Exit.then]
  refine bodyPost_ret (results_cell_row rfl _ _ w.heap.size 50 #[.int .i64 0, .int .i64 0, .float .f64 0, .complex .f64 0 0, .string { data := #[] }] (0, 0) _ rfl (show Blk _ w.heap.size 50 #[.int .i64 0, .int .i64 0, .float .f64 0, .complex .f64 0 0, .string { data := #[] }] from ((((c2.set_ 0 _).set_ 1 _).set_ 2 _).set_ 3 _).set_ 4 _) Try.underlying50 rfl (by kernel_rfl)) rfl ?_
  exact ⟨at0 + 1 + 8, true, ((((hR5.setNew hle _ 0 _ (Nat.le_refl _) hg1).setNew hle _ 1 _ (Nat.le_refl _) hg1).setNew hle _ 2 _ (Nat.le_refl _) hg1).setNew hle _ 3 _ (Nat.le_refl _) hg1).setNew hle _ 4 _ (Nat.le_refl _) hg1, by omega, rfl, rfl⟩
set_option maxRecDepth 20000 in
set_option maxHeartbeats 4000000 in
theorem rval_real_cut (hI : IsS62 w0 w g L at0 false) (hb : Below w0.heap.size w0 w) (hB : By L) (hl : L.length ≤ 140737488355328) (ha : at0 ≤ L.length) (hk : (L.drop at0).getD 0 0 = 2) (h1 : at0 + 1 ≤ L.length) (h9 : L.length < at0 + 9) :
    Calls Try.prog 21 #[.pointer (some ⟨g, 0, none⟩)] w (VPost w0 w g L (none) at0) := by
  have hR0 : RS w0 w (w.alloc (.cells #[.int .i64 0, .int .i64 0, .float .f64 0, .complex .f64 0 0, .string { data := #[] }] 50)) g L at0 false := (RS.refl hI hb).alloc _
  have hg1 : g ≠ w.heap.size := by have := hI.lt; omega
  have hle := hb.size
  have HN1 := Lib.hid (num_ok hR0.1 hR0.2.1 hB 1 (by omega) (by omega) hl)
  have hk1 : num ((L.drop at0).take 1) = (L.drop at0).getD 0 0 := by
    rw [num_take _ 0 (by rw [List.length_drop]; omega)]
    show 0 * 256 + _ = _
    omega
  rw [hk1, hk] at HN1
  have HR0 := Lib.hid hR0
  have HB := Lib.hid hB
  have HBy := Lib.hid hB
  clear hI hb hR0 hB hk hk1
  go_enter Try.func21, Try.ntmps21
  go_wp2_with fail
  refine HN1.out.mono ?_
  rintro e w1 ⟨rfl, hR1⟩
  have b2 := Blk.keep (Blk.new w 50 #[.int .i64 0, .int .i64 0, .float .f64 0, .complex .f64 0 0, .string { data := #[] }]) hR1.2.2 (Ne.symm hg1)
  have hR1 := HR0.out.trans hR1
  have hs1 : w.heap.size < w1.heap.size := b2.lt
  have hg2 : g ≠ w1.heap.size := by have := hR1.1.lt; omega
  go_upto_region 2 with fail
  have b3 := Blk.new w1 50 #[.int .i64 2, .int .i64 0, .float .f64 0, .complex .f64 0 0, .string { data := #[] }]
  have b2 := b2.alloc (.cells #[.int .i64 2, .int .i64 0, .float .f64 0, .complex .f64 0 0, .string { data := #[] }] 50)
  have hR2 := hR1.alloc (.cells #[.int .i64 2, .int .i64 0, .float .f64 0, .complex .f64 0 0, .string { data := #[] }] 50)
  generalize w1.alloc (.cells #[.int .i64 2, .int .i64 0, .float .f64 0, .complex .f64 0 0, .string { data := #[] }] 50) = w2 at b2 b3 hR2 ⊢
  have n1 := hg1.symm
  have n2 := hg2.symm
  have n3 : w.heap.size ≠ w1.heap.size := by omega
  have n4 : w1.heap.size ≠ w.heap.size := by omega
  have y0 := b3.cell 0
  have y1 := b3.cell 1
  have y2 := b3.cell 2
  have y3 := b3.cell 3
  have y4 := b3.cell 4
  simp at y0 y1 y2 y3 y4
  obtain ⟨z, zf⟩ := rs_cell hR2.1
  have HN2 := Lib.hid (real_bad hR2.1 hR2.2.1 (.inr (by omega)) (by omega) hl)
  go_wp2_with fail
  refine HN2.out.mono ?_
  rintro e w3 ⟨rfl, hR3⟩
  have b2 := Blk.keep b2 hR3.2.2 n1
  have b3 := Blk.keep b3 hR3.2.2 n2
  have hR3 := hR2.trans hR3
  clear z zf y0 y1 y2 y3 y4
  obtain ⟨z, zf⟩ := rs_cell hR3.1
  have y0 := b3.cell 0
  have yf0 := b3.frozen 0
  have y1 := b3.cell 1
  have yf1 := b3.frozen 1
  have y2 := b3.cell 2
  have yf2 := b3.frozen 2
  have y3 := b3.cell 3
  have yf3 := b3.frozen 3
  have y4 := b3.cell 4
  have yf4 := b3.frozen 4
  simp at y0 y1 y2 y3 y4
  go_upto_region 17 with fail
  have hR5 := hR3.setNew hle w1.heap.size 2 (.float .f64 0) (by omega) hg2
  have c2 : Blk (w3.setCell ⟨w1.heap.size, 2, none⟩ (.float .f64 0)) w.heap.size 50 #[.int .i64 0, .int .i64 0, .float .f64 0, .complex .f64 0 0, .string { data := #[] }] := b2.far n3 _
  have c3 : Blk (w3.setCell ⟨w1.heap.size, 2, none⟩ (.float .f64 0)) w1.heap.size 50 #[.int .i64 2, .int .i64 0, .float .f64 0, .complex .f64 0 0, .string { data := #[] }] := b3.set_ 2 _
  generalize w3.setCell ⟨w1.heap.size, 2, none⟩ (.float .f64 0) = w5 at hR5 c2 c3 ⊢
  clear y0 yf0 y1 yf1 y2 yf2 y3 yf3 y4 yf4
  clear z zf
  obtain ⟨z, zf⟩ := rs_cell hR5.1
  have r0 := c2.cell 0
  have rf0 := c2.frozen 0
  have r1 := c2.cell 1
  have rf1 := c2.frozen 1
  have r2 := c2.cell 2
  have rf2 := c2.frozen 2
  have r3 := c2.cell 3
  have rf3 := c2.frozen 3
  have r4 := c2.cell 4
  have rf4 := c2.frozen 4
  simp at r0 r1 r2 r3 r4
  go_wp2_with fail
  try simp only [Exit.inBlock, Exit.then]
  refine bodyPost_ret (results_cell_row rfl _ _ w.heap.size 50 #[.int .i64 0, .int .i64 0, .float .f64 0, .complex .f64 0 0, .string { data := #[] }] (0, 0) _ rfl (show Blk _ w.heap.size 50 #[.int .i64 0, .int .i64 0, .float .f64 0, .complex .f64 0 0, .string { data := #[] }] from ((((c2.set_ 0 _).set_ 1 _).set_ 2 _).set_ 3 _).set_ 4 _) Try.underlying50 rfl (by kernel_rfl)) rfl ?_
  exact ⟨at0 + 1, true, ((((hR5.setNew hle _ 0 _ (Nat.le_refl _) hg1).setNew hle _ 1 _ (Nat.le_refl _) hg1).setNew hle _ 2 _ (Nat.le_refl _) hg1).setNew hle _ 3 _ (Nat.le_refl _) hg1).setNew hle _ 4 _ (Nat.le_refl _) hg1, by omega, rfl, rfl⟩
set_option maxRecDepth 20000 in
set_option maxHeartbeats 4000000 in
theorem rval_comp (hI : IsS62 w0 w g L at0 false) (hb : Below w0.heap.size w0 w) (hB : By L) (hl : L.length ≤ 140737488355328) (ha : at0 ≤ L.length) (hk : (L.drop at0).getD 0 0 = 3) (h9 : at0 + 17 ≤ L.length) (hf : fineB (num ((L.drop (at0 + 1)).take 8)).toNat = true) (hg : fineB (num ((L.drop (at0 + 1 + 8)).take 8)).toNat = true) :
    Calls Try.prog 21 #[.pointer (some ⟨g, 0, none⟩)] w (VPost w0 w g L (some (vC (num ((L.drop (at0 + 1)).take 8)).toNat (num ((L.drop (at0 + 1 + 8)).take 8)).toNat, 17)) at0) := by
  have hx := fine_of hf
  have hy := fine_of hg
  have hR0 : RS w0 w (w.alloc (.cells #[.int .i64 0, .int .i64 0, .float .f64 0, .complex .f64 0 0, .string { data := #[] }] 50)) g L at0 false := (RS.refl hI hb).alloc _
  have hg1 : g ≠ w.heap.size := by have := hI.lt; omega
  have hle := hb.size
  have HN1 := Lib.hid (num_ok hR0.1 hR0.2.1 hB 1 (by omega) (by omega) hl)
  have hk1 : num ((L.drop at0).take 1) = (L.drop at0).getD 0 0 := by
    rw [num_take _ 0 (by rw [List.length_drop]; omega)]
    show 0 * 256 + _ = _
    omega
  rw [hk1, hk] at HN1
  have HR0 := Lib.hid hR0
  have HB := Lib.hid hB
  have HBy := Lib.hid hB
  clear hI hb hR0 hB hk hk1
  generalize hnd : (num ((L.drop (at0 + 1)).take 8)).toNat = n at hx hf
  have HND := Lib.hid hnd
  generalize hme : (num ((L.drop (at0 + 1 + 8)).take 8)).toNat = m at hy hg
  have HME := Lib.hid hme
  have HF := Lib.hid hf
  have HG := Lib.hid hg
  clear hnd hme hf hg
  go_enter Try.func21, Try.ntmps21
  go_wp2_with fail
  refine HN1.out.mono ?_
  rintro e w1 ⟨rfl, hR1⟩
  have b2 := Blk.keep (Blk.new w 50 #[.int .i64 0, .int .i64 0, .float .f64 0, .complex .f64 0 0, .string { data := #[] }]) hR1.2.2 (Ne.symm hg1)
  have hR1 := HR0.out.trans hR1
  have hs1 : w.heap.size < w1.heap.size := b2.lt
  have hg2 : g ≠ w1.heap.size := by have := hR1.1.lt; omega
  go_upto_region 2 with fail
  have b3 := Blk.new w1 50 #[.int .i64 3, .int .i64 0, .float .f64 0, .complex .f64 0 0, .string { data := #[] }]
  have b2 := b2.alloc (.cells #[.int .i64 3, .int .i64 0, .float .f64 0, .complex .f64 0 0, .string { data := #[] }] 50)
  have hR2 := hR1.alloc (.cells #[.int .i64 3, .int .i64 0, .float .f64 0, .complex .f64 0 0, .string { data := #[] }] 50)
  generalize w1.alloc (.cells #[.int .i64 3, .int .i64 0, .float .f64 0, .complex .f64 0 0, .string { data := #[] }] 50) = w2 at b2 b3 hR2 ⊢
  have n1 := hg1.symm
  have n2 := hg2.symm
  have n3 : w.heap.size ≠ w1.heap.size := by omega
  have n4 : w1.heap.size ≠ w.heap.size := by omega
  have y0 := b3.cell 0
  have y1 := b3.cell 1
  have y2 := b3.cell 2
  have y3 := b3.cell 3
  have y4 := b3.cell 4
  simp at y0 y1 y2 y3 y4
  obtain ⟨z, zf⟩ := rs_cell hR2.1
  have HN2 := Lib.hid (real_ok hR2.1 hR2.2.1 HBy.out (by omega) hl)
  rw [HND.out, HF.out] at HN2
  go_wp2_with fail
  refine HN2.out.mono ?_
  rintro e w3 ⟨rfl, hR3⟩
  have b2 := Blk.keep b2 hR3.2.2 n1
  have b3 := Blk.keep b3 hR3.2.2 n2
  have hR3 := hR2.trans hR3
  clear z zf y0 y1 y2 y3 y4
  obtain ⟨z, zf⟩ := rs_cell hR3.1
  have HN3 := Lib.hid (real_ok (at0 := at0 + 1 + 8) hR3.1 hR3.2.1 HBy.out (by omega) hl)
  rw [HME.out, HG.out] at HN3
  go_wp2_with fail
  refine HN3.out.mono ?_
  rintro e w4 ⟨rfl, hR4⟩
  have b2 := Blk.keep b2 hR4.2.2 n1
  have b3 := Blk.keep b3 hR4.2.2 n2
  have hR4 := hR3.trans hR4
  clear z zf
  obtain ⟨z, zf⟩ := rs_cell hR4.1
  have y0 := b3.cell 0
  have yf0 := b3.frozen 0
  have y1 := b3.cell 1
  have yf1 := b3.frozen 1
  have y2 := b3.cell 2
  have yf2 := b3.frozen 2
  have y3 := b3.cell 3
  have yf3 := b3.frozen 3
  have y4 := b3.cell 4
  have yf4 := b3.frozen 4
  simp at y0 y1 y2 y3 y4
  go_upto_region 17 with fail
  have hR5 := hR4.setNew hle w1.heap.size 3 (.complex .f64 n m) (by omega) hg2
  have c2 : Blk (w4.setCell ⟨w1.heap.size, 3, none⟩ (.complex .f64 n m)) w.heap.size 50 #[.int .i64 0, .int .i64 0, .float .f64 0, .complex .f64 0 0, .string { data := #[] }] := b2.far n3 _
  have c3 : Blk (w4.setCell ⟨w1.heap.size, 3, none⟩ (.complex .f64 n m)) w1.heap.size 50 #[.int .i64 3, .int .i64 0, .float .f64 0, .complex .f64 n m, .string { data := #[] }] := b3.set_ 3 _
  generalize w4.setCell ⟨w1.heap.size, 3, none⟩ (.complex .f64 n m) = w5 at hR5 c2 c3 ⊢
  clear y0 yf0 y1 yf1 y2 yf2 y3 yf3 y4 yf4
  clear z zf
  obtain ⟨z, zf⟩ := rs_cell hR5.1
  have y0 := c3.cell 0
  have y1 := c3.cell 1
  have y2 := c3.cell 2
  have y3 := c3.cell 3
  have y4 := c3.cell 4
  simp at y0 y1 y2 y3 y4
  have HP : Hid (∀ W : World, Calls Try.prog 59 #[.agg #[.int .i64 3, .int .i64 0, .float .f64 0, .complex .f64 n m, .string { data := #[] }]] W fun e w' => e = .returned (.agg #[.int .i64 3, .int .i64 0, .float .f64 0, .complex .f64 n m, .string { data := #[] }]) ∧ Below W.heap.size W w') := Lib.hid (fun W => rplain_any _ (.inr (.inr (.inl ⟨n, m, hx, hy, rfl⟩))) W)
  go_wp2_with fail
  refine (HP.out _).mono ?_
  rintro e w6 ⟨rfl, hb6⟩
  have d2 := c2.below hb6 c2.lt
  have hR6 := hR5.below hb6
  have r0 := d2.cell 0
  have rf0 := d2.frozen 0
  have r1 := d2.cell 1
  have rf1 := d2.frozen 1
  have r2 := d2.cell 2
  have rf2 := d2.frozen 2
  have r3 := d2.cell 3
  have rf3 := d2.frozen 3
  have r4 := d2.cell 4
  have rf4 := d2.frozen 4
  simp at r0 r1 r2 r3 r4
  clear y0 y1 y2 y3 y4
  go_wp2_with fail
  try simp only [Exit.inBlock, Exit.then]
  refine bodyPost_ret (results_cell_row rfl _ _ w.heap.size 50 #[.int .i64 3, .int .i64 0, .float .f64 0, .complex .f64 n m, .string { data := #[] }] (0, 0) _ rfl (show Blk _ w.heap.size 50 #[.int .i64 3, .int .i64 0, .float .f64 0, .complex .f64 n m, .string { data := #[] }] from ((((d2.set_ 0 _).set_ 1 _).set_ 2 _).set_ 3 _).set_ 4 _) Try.underlying50 rfl (by kernel_rfl)) rfl ?_
  exact ⟨at0 + 1 + 8 + 8, false, ((((hR6.setNew hle _ 0 _ (Nat.le_refl _) hg1).setNew hle _ 1 _ (Nat.le_refl _) hg1).setNew hle _ 2 _ (Nat.le_refl _) hg1).setNew hle _ 3 _ (Nat.le_refl _) hg1).setNew hle _ 4 _ (Nat.le_refl _) hg1, by omega, rfl, rfl, rfl⟩
set_option maxRecDepth 20000 in
set_option maxHeartbeats 4000000 in
theorem rval_comp_bad2 (hI : IsS62 w0 w g L at0 false) (hb : Below w0.heap.size w0 w) (hB : By L) (hl : L.length ≤ 140737488355328) (ha : at0 ≤ L.length) (hk : (L.drop at0).getD 0 0 = 3) (h9 : at0 + 17 ≤ L.length) (hf : fineB (num ((L.drop (at0 + 1)).take 8)).toNat = true) (hg : fineB (num ((L.drop (at0 + 1 + 8)).take 8)).toNat = false) :
    Calls Try.prog 21 #[.pointer (some ⟨g, 0, none⟩)] w (VPost w0 w g L (none) at0) := by
  have hR0 : RS w0 w (w.alloc (.cells #[.int .i64 0, .int .i64 0, .float .f64 0, .complex .f64 0 0, .string { data := #[] }] 50)) g L at0 false := (RS.refl hI hb).alloc _
  have hg1 : g ≠ w.heap.size := by have := hI.lt; omega
  have hle := hb.size
  have HN1 := Lib.hid (num_ok hR0.1 hR0.2.1 hB 1 (by omega) (by omega) hl)
  have hk1 : num ((L.drop at0).take 1) = (L.drop at0).getD 0 0 := by
    rw [num_take _ 0 (by rw [List.length_drop]; omega)]
    show 0 * 256 + _ = _
    omega
  rw [hk1, hk] at HN1
  have HR0 := Lib.hid hR0
  have HB := Lib.hid hB
  have HBy := Lib.hid hB
  clear hI hb hR0 hB hk hk1
  generalize hnd : (num ((L.drop (at0 + 1)).take 8)).toNat = n at hf
  have HND := Lib.hid hnd
  generalize hme : (num ((L.drop (at0 + 1 + 8)).take 8)).toNat = m at hg
  have HME := Lib.hid hme
  have HF := Lib.hid hf
  have HG := Lib.hid hg
  clear hnd hme hf hg
  go_enter Try.func21, Try.ntmps21
  go_wp2_with fail
  refine HN1.out.mono ?_
  rintro e w1 ⟨rfl, hR1⟩
  have b2 := Blk.keep (Blk.new w 50 #[.int .i64 0, .int .i64 0, .float .f64 0, .complex .f64 0 0, .string { data := #[] }]) hR1.2.2 (Ne.symm hg1)
  have hR1 := HR0.out.trans hR1
  have hs1 : w.heap.size < w1.heap.size := b2.lt
  have hg2 : g ≠ w1.heap.size := by have := hR1.1.lt; omega
  go_upto_region 2 with fail
  have b3 := Blk.new w1 50 #[.int .i64 3, .int .i64 0, .float .f64 0, .complex .f64 0 0, .string { data := #[] }]
  have b2 := b2.alloc (.cells #[.int .i64 3, .int .i64 0, .float .f64 0, .complex .f64 0 0, .string { data := #[] }] 50)
  have hR2 := hR1.alloc (.cells #[.int .i64 3, .int .i64 0, .float .f64 0, .complex .f64 0 0, .string { data := #[] }] 50)
  generalize w1.alloc (.cells #[.int .i64 3, .int .i64 0, .float .f64 0, .complex .f64 0 0, .string { data := #[] }] 50) = w2 at b2 b3 hR2 ⊢
  have n1 := hg1.symm
  have n2 := hg2.symm
  have n3 : w.heap.size ≠ w1.heap.size := by omega
  have n4 : w1.heap.size ≠ w.heap.size := by omega
  have y0 := b3.cell 0
  have y1 := b3.cell 1
  have y2 := b3.cell 2
  have y3 := b3.cell 3
  have y4 := b3.cell 4
  simp at y0 y1 y2 y3 y4
  obtain ⟨z, zf⟩ := rs_cell hR2.1
  have HN2 := Lib.hid (real_ok hR2.1 hR2.2.1 HBy.out (by omega) hl)
  rw [HND.out, HF.out] at HN2
  go_wp2_with fail
  refine HN2.out.mono ?_
  rintro e w3 ⟨rfl, hR3⟩
  have b2 := Blk.keep b2 hR3.2.2 n1
  have b3 := Blk.keep b3 hR3.2.2 n2
  have hR3 := hR2.trans hR3
  clear z zf y0 y1 y2 y3 y4
  obtain ⟨z, zf⟩ := rs_cell hR3.1
  have HN3 := Lib.hid (real_ok (at0 := at0 + 1 + 8) hR3.1 hR3.2.1 HBy.out (by omega) hl)
  rw [HME.out, HG.out] at HN3
  go_wp2_with fail
  refine HN3.out.mono ?_
  rintro e w4 ⟨rfl, hR4⟩
  have b2 := Blk.keep b2 hR4.2.2 n1
  have b3 := Blk.keep b3 hR4.2.2 n2
  have hR4 := hR3.trans hR4
  clear z zf
  obtain ⟨z, zf⟩ := rs_cell hR4.1
  have y0 := b3.cell 0
  have yf0 := b3.frozen 0
  have y1 := b3.cell 1
  have yf1 := b3.frozen 1
  have y2 := b3.cell 2
  have yf2 := b3.frozen 2
  have y3 := b3.cell 3
  have yf3 := b3.frozen 3
  have y4 := b3.cell 4
  have yf4 := b3.frozen 4
  simp at y0 y1 y2 y3 y4
  go_upto_region 17 with fail
  have hR5 := hR4.setNew hle w1.heap.size 3 (.complex .f64 n m) (by omega) hg2
  have c2 : Blk (w4.setCell ⟨w1.heap.size, 3, none⟩ (.complex .f64 n m)) w.heap.size 50 #[.int .i64 0, .int .i64 0, .float .f64 0, .complex .f64 0 0, .string { data := #[] }] := b2.far n3 _
  have c3 : Blk (w4.setCell ⟨w1.heap.size, 3, none⟩ (.complex .f64 n m)) w1.heap.size 50 #[.int .i64 3, .int .i64 0, .float .f64 0, .complex .f64 n m, .string { data := #[] }] := b3.set_ 3 _
  generalize w4.setCell ⟨w1.heap.size, 3, none⟩ (.complex .f64 n m) = w5 at hR5 c2 c3 ⊢
  clear y0 yf0 y1 yf1 y2 yf2 y3 yf3 y4 yf4
  clear z zf
  obtain ⟨z, zf⟩ := rs_cell hR5.1
  have r0 := c2.cell 0
  have rf0 := c2.frozen 0
  have r1 := c2.cell 1
  have rf1 := c2.frozen 1
  have r2 := c2.cell 2
  have rf2 := c2.frozen 2
  have r3 := c2.cell 3
  have rf3 := c2.frozen 3
  have r4 := c2.cell 4
  have rf4 := c2.frozen 4
  simp at r0 r1 r2 r3 r4
  go_wp2_with fail
  try simp only [Exit.inBlock, Exit.then]
  refine bodyPost_ret (results_cell_row rfl _ _ w.heap.size 50 #[.int .i64 0, .int .i64 0, .float .f64 0, .complex .f64 0 0, .string { data := #[] }] (0, 0) _ rfl (show Blk _ w.heap.size 50 #[.int .i64 0, .int .i64 0, .float .f64 0, .complex .f64 0 0, .string { data := #[] }] from ((((c2.set_ 0 _).set_ 1 _).set_ 2 _).set_ 3 _).set_ 4 _) Try.underlying50 rfl (by kernel_rfl)) rfl ?_
  exact ⟨at0 + 1 + 8 + 8, true, ((((hR5.setNew hle _ 0 _ (Nat.le_refl _) hg1).setNew hle _ 1 _ (Nat.le_refl _) hg1).setNew hle _ 2 _ (Nat.le_refl _) hg1).setNew hle _ 3 _ (Nat.le_refl _) hg1).setNew hle _ 4 _ (Nat.le_refl _) hg1, by omega, rfl, rfl⟩
set_option maxRecDepth 20000 in
set_option maxHeartbeats 4000000 in
theorem rval_comp_bad1 (hI : IsS62 w0 w g L at0 false) (hb : Below w0.heap.size w0 w) (hB : By L) (hl : L.length ≤ 140737488355328) (ha : at0 ≤ L.length) (hk : (L.drop at0).getD 0 0 = 3) (h9 : at0 + 9 ≤ L.length) (hf : (!fineB (num ((L.drop (at0 + 1)).take 8)).toNat) = true ∨ L.length < at0 + 17) :
    Calls Try.prog 21 #[.pointer (some ⟨g, 0, none⟩)] w (VPost w0 w g L (none) at0) := by
  have hR0 : RS w0 w (w.alloc (.cells #[.int .i64 0, .int .i64 0, .float .f64 0, .complex .f64 0 0, .string { data := #[] }] 50)) g L at0 false := (RS.refl hI hb).alloc _
  have hg1 : g ≠ w.heap.size := by have := hI.lt; omega
  have hle := hb.size
  have HN1 := Lib.hid (num_ok hR0.1 hR0.2.1 hB 1 (by omega) (by omega) hl)
  have hk1 : num ((L.drop at0).take 1) = (L.drop at0).getD 0 0 := by
    rw [num_take _ 0 (by rw [List.length_drop]; omega)]
    show 0 * 256 + _ = _
    omega
  rw [hk1, hk] at HN1
  have HR0 := Lib.hid hR0
  have HB := Lib.hid hB
  have HBy := Lib.hid hB
  clear hI hb hR0 hB hk hk1
  generalize hnd : (num ((L.drop (at0 + 1)).take 8)).toNat = n at hf
  have HND := Lib.hid hnd
  generalize hff : (!fineB n) = ff at hf
  have HF := Lib.hid hff
  clear hnd hff
  go_enter Try.func21, Try.ntmps21
  go_wp2_with fail
  refine HN1.out.mono ?_
  rintro e w1 ⟨rfl, hR1⟩
  have b2 := Blk.keep (Blk.new w 50 #[.int .i64 0, .int .i64 0, .float .f64 0, .complex .f64 0 0, .string { data := #[] }]) hR1.2.2 (Ne.symm hg1)
  have hR1 := HR0.out.trans hR1
  have hs1 : w.heap.size < w1.heap.size := b2.lt
  have hg2 : g ≠ w1.heap.size := by have := hR1.1.lt; omega
  go_upto_region 2 with fail
  have b3 := Blk.new w1 50 #[.int .i64 3, .int .i64 0, .float .f64 0, .complex .f64 0 0, .string { data := #[] }]
  have b2 := b2.alloc (.cells #[.int .i64 3, .int .i64 0, .float .f64 0, .complex .f64 0 0, .string { data := #[] }] 50)
  have hR2 := hR1.alloc (.cells #[.int .i64 3, .int .i64 0, .float .f64 0, .complex .f64 0 0, .string { data := #[] }] 50)
  generalize w1.alloc (.cells #[.int .i64 3, .int .i64 0, .float .f64 0, .complex .f64 0 0, .string { data := #[] }] 50) = w2 at b2 b3 hR2 ⊢
  have n1 := hg1.symm
  have n2 := hg2.symm
  have n3 : w.heap.size ≠ w1.heap.size := by omega
  have n4 : w1.heap.size ≠ w.heap.size := by omega
  have y0 := b3.cell 0
  have y1 := b3.cell 1
  have y2 := b3.cell 2
  have y3 := b3.cell 3
  have y4 := b3.cell 4
  simp at y0 y1 y2 y3 y4
  obtain ⟨z, zf⟩ := rs_cell hR2.1
  have HN2 := Lib.hid (real_ok hR2.1 hR2.2.1 HBy.out (by omega) hl)
  rw [HND.out, HF.out] at HN2
  go_wp2_with fail
  refine HN2.out.mono ?_
  rintro e w3 ⟨rfl, hR3⟩
  have b2 := Blk.keep b2 hR3.2.2 n1
  have b3 := Blk.keep b3 hR3.2.2 n2
  have hR3 := hR2.trans hR3
  clear z zf y0 y1 y2 y3 y4
  obtain ⟨z, zf⟩ := rs_cell hR3.1
  have HN3 := Lib.hid (real_bad (at0 := at0 + 1 + 8) hR3.1 hR3.2.1 (by rcases hf with h | h; exact .inl h; exact .inr (by omega)) (by omega) hl)
  go_wp2_with fail
  refine HN3.out.mono ?_
  rintro e w4 ⟨rfl, hR4⟩
  have b2 := Blk.keep b2 hR4.2.2 n1
  have b3 := Blk.keep b3 hR4.2.2 n2
  have hR4 := hR3.trans hR4
  clear z zf
  obtain ⟨z, zf⟩ := rs_cell hR4.1
  have y0 := b3.cell 0
  have yf0 := b3.frozen 0
  have y1 := b3.cell 1
  have yf1 := b3.frozen 1
  have y2 := b3.cell 2
  have yf2 := b3.frozen 2
  have y3 := b3.cell 3
  have yf3 := b3.frozen 3
  have y4 := b3.cell 4
  have yf4 := b3.frozen 4
  simp at y0 y1 y2 y3 y4
  go_upto_region 17 with fail
  have hR5 := hR4.setNew hle w1.heap.size 3 (.complex .f64 n 0) (by omega) hg2
  have c2 : Blk (w4.setCell ⟨w1.heap.size, 3, none⟩ (.complex .f64 n 0)) w.heap.size 50 #[.int .i64 0, .int .i64 0, .float .f64 0, .complex .f64 0 0, .string { data := #[] }] := b2.far n3 _
  have c3 : Blk (w4.setCell ⟨w1.heap.size, 3, none⟩ (.complex .f64 n 0)) w1.heap.size 50 #[.int .i64 3, .int .i64 0, .float .f64 0, .complex .f64 n 0, .string { data := #[] }] := b3.set_ 3 _
  generalize w4.setCell ⟨w1.heap.size, 3, none⟩ (.complex .f64 n 0) = w5 at hR5 c2 c3 ⊢
  clear y0 yf0 y1 yf1 y2 yf2 y3 yf3 y4 yf4
  clear z zf
  obtain ⟨z, zf⟩ := rs_cell hR5.1
  have r0 := c2.cell 0
  have rf0 := c2.frozen 0
  have r1 := c2.cell 1
  have rf1 := c2.frozen 1
  have r2 := c2.cell 2
  have rf2 := c2.frozen 2
  have r3 := c2.cell 3
  have rf3 := c2.frozen 3
  have r4 := c2.cell 4
  have rf4 := c2.frozen 4
  simp at r0 r1 r2 r3 r4
  go_wp2_with fail
  try simp only [Exit.inBlock, Exit.then]
  refine bodyPost_ret (results_cell_row rfl _ _ w.heap.size 50 #[.int .i64 0, .int .i64 0, .float .f64 0, .complex .f64 0 0, .string { data := #[] }] (0, 0) _ rfl (show Blk _ w.heap.size 50 #[.int .i64 0, .int .i64 0, .float .f64 0, .complex .f64 0 0, .string { data := #[] }] from ((((c2.set_ 0 _).set_ 1 _).set_ 2 _).set_ 3 _).set_ 4 _) Try.underlying50 rfl (by kernel_rfl)) rfl ?_
  exact ⟨at0 + 1 + 8, true, ((((hR5.setNew hle _ 0 _ (Nat.le_refl _) hg1).setNew hle _ 1 _ (Nat.le_refl _) hg1).setNew hle _ 2 _ (Nat.le_refl _) hg1).setNew hle _ 3 _ (Nat.le_refl _) hg1).setNew hle _ 4 _ (Nat.le_refl _) hg1, by omega, rfl, rfl⟩
set_option maxRecDepth 20000 in
set_option maxHeartbeats 4000000 in
theorem rval_comp_cut (hI : IsS62 w0 w g L at0 false) (hb : Below w0.heap.size w0 w) (hB : By L) (hl : L.length ≤ 140737488355328) (ha : at0 ≤ L.length) (hk : (L.drop at0).getD 0 0 = 3) (h1 : at0 + 1 ≤ L.length) (h9 : L.length < at0 + 9) :
    Calls Try.prog 21 #[.pointer (some ⟨g, 0, none⟩)] w (VPost w0 w g L (none) at0) := by
  have hR0 : RS w0 w (w.alloc (.cells #[.int .i64 0, .int .i64 0, .float .f64 0, .complex .f64 0 0, .string { data := #[] }] 50)) g L at0 false := (RS.refl hI hb).alloc _
  have hg1 : g ≠ w.heap.size := by have := hI.lt; omega
  have hle := hb.size
  have HN1 := Lib.hid (num_ok hR0.1 hR0.2.1 hB 1 (by omega) (by omega) hl)
  have hk1 : num ((L.drop at0).take 1) = (L.drop at0).getD 0 0 := by
    rw [num_take _ 0 (by rw [List.length_drop]; omega)]
    show 0 * 256 + _ = _
    omega
  rw [hk1, hk] at HN1
  have HR0 := Lib.hid hR0
  have HB := Lib.hid hB
  have HBy := Lib.hid hB
  clear hI hb hR0 hB hk hk1
  go_enter Try.func21, Try.ntmps21
  go_wp2_with fail
  refine HN1.out.mono ?_
  rintro e w1 ⟨rfl, hR1⟩
  have b2 := Blk.keep (Blk.new w 50 #[.int .i64 0, .int .i64 0, .float .f64 0, .complex .f64 0 0, .string { data := #[] }]) hR1.2.2 (Ne.symm hg1)
  have hR1 := HR0.out.trans hR1
  have hs1 : w.heap.size < w1.heap.size := b2.lt
  have hg2 : g ≠ w1.heap.size := by have := hR1.1.lt; omega
  go_upto_region 2 with fail
  have b3 := Blk.new w1 50 #[.int .i64 3, .int .i64 0, .float .f64 0, .complex .f64 0 0, .string { data := #[] }]
  have b2 := b2.alloc (.cells #[.int .i64 3, .int .i64 0, .float .f64 0, .complex .f64 0 0, .string { data := #[] }] 50)
  have hR2 := hR1.alloc (.cells #[.int .i64 3, .int .i64 0, .float .f64 0, .complex .f64 0 0, .string { data := #[] }] 50)
  generalize w1.alloc (.cells #[.int .i64 3, .int .i64 0, .float .f64 0, .complex .f64 0 0, .string { data := #[] }] 50) = w2 at b2 b3 hR2 ⊢
  have n1 := hg1.symm
  have n2 := hg2.symm
  have n3 : w.heap.size ≠ w1.heap.size := by omega
  have n4 : w1.heap.size ≠ w.heap.size := by omega
  have y0 := b3.cell 0
  have y1 := b3.cell 1
  have y2 := b3.cell 2
  have y3 := b3.cell 3
  have y4 := b3.cell 4
  simp at y0 y1 y2 y3 y4
  obtain ⟨z, zf⟩ := rs_cell hR2.1
  have HN2 := Lib.hid (real_bad hR2.1 hR2.2.1 (.inr (by omega)) (by omega) hl)
  go_wp2_with fail
  refine HN2.out.mono ?_
  rintro e w3 ⟨rfl, hR3⟩
  have b2 := Blk.keep b2 hR3.2.2 n1
  have b3 := Blk.keep b3 hR3.2.2 n2
  have hR3 := hR2.trans hR3
  clear z zf y0 y1 y2 y3 y4
  obtain ⟨z, zf⟩ := rs_cell hR3.1
  have HN3 := Lib.hid (real_bad hR3.1 hR3.2.1 (.inl rfl) (by omega) hl)
  go_wp2_with fail
  refine HN3.out.mono ?_
  rintro e w4 ⟨rfl, hR4⟩
  have b2 := Blk.keep b2 hR4.2.2 n1
  have b3 := Blk.keep b3 hR4.2.2 n2
  have hR4 := hR3.trans hR4
  clear z zf
  obtain ⟨z, zf⟩ := rs_cell hR4.1
  have y0 := b3.cell 0
  have yf0 := b3.frozen 0
  have y1 := b3.cell 1
  have yf1 := b3.frozen 1
  have y2 := b3.cell 2
  have yf2 := b3.frozen 2
  have y3 := b3.cell 3
  have yf3 := b3.frozen 3
  have y4 := b3.cell 4
  have yf4 := b3.frozen 4
  simp at y0 y1 y2 y3 y4
  go_upto_region 17 with fail
  have hR5 := hR4.setNew hle w1.heap.size 3 (.complex .f64 0 0) (by omega) hg2
  have c2 : Blk (w4.setCell ⟨w1.heap.size, 3, none⟩ (.complex .f64 0 0)) w.heap.size 50 #[.int .i64 0, .int .i64 0, .float .f64 0, .complex .f64 0 0, .string { data := #[] }] := b2.far n3 _
  have c3 : Blk (w4.setCell ⟨w1.heap.size, 3, none⟩ (.complex .f64 0 0)) w1.heap.size 50 #[.int .i64 3, .int .i64 0, .float .f64 0, .complex .f64 0 0, .string { data := #[] }] := b3.set_ 3 _
  generalize w4.setCell ⟨w1.heap.size, 3, none⟩ (.complex .f64 0 0) = w5 at hR5 c2 c3 ⊢
  clear y0 yf0 y1 yf1 y2 yf2 y3 yf3 y4 yf4
  clear z zf
  obtain ⟨z, zf⟩ := rs_cell hR5.1
  have r0 := c2.cell 0
  have rf0 := c2.frozen 0
  have r1 := c2.cell 1
  have rf1 := c2.frozen 1
  have r2 := c2.cell 2
  have rf2 := c2.frozen 2
  have r3 := c2.cell 3
  have rf3 := c2.frozen 3
  have r4 := c2.cell 4
  have rf4 := c2.frozen 4
  simp at r0 r1 r2 r3 r4
  go_wp2_with fail
  try simp only [Exit.inBlock, Exit.then]
  refine bodyPost_ret (results_cell_row rfl _ _ w.heap.size 50 #[.int .i64 0, .int .i64 0, .float .f64 0, .complex .f64 0 0, .string { data := #[] }] (0, 0) _ rfl (show Blk _ w.heap.size 50 #[.int .i64 0, .int .i64 0, .float .f64 0, .complex .f64 0 0, .string { data := #[] }] from ((((c2.set_ 0 _).set_ 1 _).set_ 2 _).set_ 3 _).set_ 4 _) Try.underlying50 rfl (by kernel_rfl)) rfl ?_
  exact ⟨at0 + 1, true, ((((hR5.setNew hle _ 0 _ (Nat.le_refl _) hg1).setNew hle _ 1 _ (Nat.le_refl _) hg1).setNew hle _ 2 _ (Nat.le_refl _) hg1).setNew hle _ 3 _ (Nat.le_refl _) hg1).setNew hle _ 4 _ (Nat.le_refl _) hg1, by omega, rfl, rfl⟩
set_option maxRecDepth 20000 in
set_option maxHeartbeats 4000000 in
theorem rval_text_cut0 (hI : IsS62 w0 w g L at0 false) (hb : Below w0.heap.size w0 w) (hB : By L) (hl : L.length ≤ 140737488355328) (ha : at0 ≤ L.length) (hk : (L.drop at0).getD 0 0 = 4) (h1 : at0 + 1 ≤ L.length) (h9 : L.length < at0 + 3) :
    Calls Try.prog 21 #[.pointer (some ⟨g, 0, none⟩)] w (VPost w0 w g L (none) at0) := by
  have hR0 : RS w0 w (w.alloc (.cells #[.int .i64 0, .int .i64 0, .float .f64 0, .complex .f64 0 0, .string { data := #[] }] 50)) g L at0 false := (RS.refl hI hb).alloc _
  have hg1 : g ≠ w.heap.size := by have := hI.lt; omega
  have hle := hb.size
  have HN1 := Lib.hid (num_ok hR0.1 hR0.2.1 hB 1 (by omega) (by omega) hl)
  have hk1 : num ((L.drop at0).take 1) = (L.drop at0).getD 0 0 := by
    rw [num_take _ 0 (by rw [List.length_drop]; omega)]
    show 0 * 256 + _ = _
    omega
  rw [hk1, hk] at HN1
  have HR0 := Lib.hid hR0
  have HB := Lib.hid hB
  have HBy := Lib.hid hB
  clear hI hb hR0 hB hk hk1
  go_enter Try.func21, Try.ntmps21
  go_wp2_with fail
  refine HN1.out.mono ?_
  rintro e w1 ⟨rfl, hR1⟩
  have b2 := Blk.keep (Blk.new w 50 #[.int .i64 0, .int .i64 0, .float .f64 0, .complex .f64 0 0, .string { data := #[] }]) hR1.2.2 (Ne.symm hg1)
  have hR1 := HR0.out.trans hR1
  have hs1 : w.heap.size < w1.heap.size := b2.lt
  have hg2 : g ≠ w1.heap.size := by have := hR1.1.lt; omega
  go_upto_region 2 with fail
  have b3 := Blk.new w1 50 #[.int .i64 4, .int .i64 0, .float .f64 0, .complex .f64 0 0, .string { data := #[] }]
  have b2 := b2.alloc (.cells #[.int .i64 4, .int .i64 0, .float .f64 0, .complex .f64 0 0, .string { data := #[] }] 50)
  have hR2 := hR1.alloc (.cells #[.int .i64 4, .int .i64 0, .float .f64 0, .complex .f64 0 0, .string { data := #[] }] 50)
  generalize w1.alloc (.cells #[.int .i64 4, .int .i64 0, .float .f64 0, .complex .f64 0 0, .string { data := #[] }] 50) = w2 at b2 b3 hR2 ⊢
  have n1 := hg1.symm
  have n2 := hg2.symm
  have n3 : w.heap.size ≠ w1.heap.size := by omega
  have n4 : w1.heap.size ≠ w.heap.size := by omega
  have y0 := b3.cell 0
  have y1 := b3.cell 1
  have y2 := b3.cell 2
  have y3 := b3.cell 3
  have y4 := b3.cell 4
  simp at y0 y1 y2 y3 y4
  obtain ⟨z, zf⟩ := rs_cell hR2.1
  have HN2 := Lib.hid (num_bad hR2.1 hR2.2.1 2 (.inr (by omega)) (by omega) hl (by omega))
  go_wp2_with fail
  refine HN2.out.mono ?_
  rintro e w3 ⟨rfl, hR3⟩
  have b2 := Blk.keep b2 hR3.2.2 n1
  have b3 := Blk.keep b3 hR3.2.2 n2
  have hR3 := hR2.trans hR3
  clear z zf y0 y1 y2 y3 y4
  obtain ⟨z, zf⟩ := rs_cell hR3.1
  have HN3 := Lib.hid (text_bad hR3.1 hR3.2.1 0 (.inl rfl) (by omega) hl)
  go_wp2_with fail
  refine HN3.out.mono ?_
  rintro e w4 ⟨rfl, hR4⟩
  have b2 := Blk.keep b2 hR4.2.2 n1
  have b3 := Blk.keep b3 hR4.2.2 n2
  have hR4 := hR3.trans hR4
  clear z zf
  obtain ⟨z, zf⟩ := rs_cell hR4.1
  have y0 := b3.cell 0
  have yf0 := b3.frozen 0
  have y1 := b3.cell 1
  have yf1 := b3.frozen 1
  have y2 := b3.cell 2
  have yf2 := b3.frozen 2
  have y3 := b3.cell 3
  have yf3 := b3.frozen 3
  have y4 := b3.cell 4
  have yf4 := b3.frozen 4
  simp at y0 y1 y2 y3 y4
  go_upto_region 17 with fail
  have hR5 := hR4.setNew hle w1.heap.size 4 (.string ByteArray.empty) (by omega) hg2
  have c2 : Blk (w4.setCell ⟨w1.heap.size, 4, none⟩ (.string ByteArray.empty)) w.heap.size 50 #[.int .i64 0, .int .i64 0, .float .f64 0, .complex .f64 0 0, .string { data := #[] }] := b2.far n3 _
  have c3 : Blk (w4.setCell ⟨w1.heap.size, 4, none⟩ (.string ByteArray.empty)) w1.heap.size 50 #[.int .i64 4, .int .i64 0, .float .f64 0, .complex .f64 0 0, .string ByteArray.empty] := b3.set_ 4 _
  generalize w4.setCell ⟨w1.heap.size, 4, none⟩ (.string ByteArray.empty) = w5 at hR5 c2 c3 ⊢
  clear y0 yf0 y1 yf1 y2 yf2 y3 yf3 y4 yf4
  clear z zf
  obtain ⟨z, zf⟩ := rs_cell hR5.1
  have r0 := c2.cell 0
  have rf0 := c2.frozen 0
  have r1 := c2.cell 1
  have rf1 := c2.frozen 1
  have r2 := c2.cell 2
  have rf2 := c2.frozen 2
  have r3 := c2.cell 3
  have rf3 := c2.frozen 3
  have r4 := c2.cell 4
  have rf4 := c2.frozen 4
  simp at r0 r1 r2 r3 r4
  go_wp2_with fail
  try simp only [Exit.inBlock, Exit.then]
  refine bodyPost_ret (results_cell_row rfl _ _ w.heap.size 50 #[.int .i64 0, .int .i64 0, .float .f64 0, .complex .f64 0 0, .string { data := #[] }] (0, 0) _ rfl (show Blk _ w.heap.size 50 #[.int .i64 0, .int .i64 0, .float .f64 0, .complex .f64 0 0, .string { data := #[] }] from ((((c2.set_ 0 _).set_ 1 _).set_ 2 _).set_ 3 _).set_ 4 _) Try.underlying50 rfl (by kernel_rfl)) rfl ?_
  exact ⟨at0 + 1, true, ((((hR5.setNew hle _ 0 _ (Nat.le_refl _) hg1).setNew hle _ 1 _ (Nat.le_refl _) hg1).setNew hle _ 2 _ (Nat.le_refl _) hg1).setNew hle _ 3 _ (Nat.le_refl _) hg1).setNew hle _ 4 _ (Nat.le_refl _) hg1, by omega, rfl, rfl⟩
set_option maxRecDepth 20000 in
set_option maxHeartbeats 4000000 in
theorem rval_text_long (hI : IsS62 w0 w g L at0 false) (hb : Below w0.heap.size w0 w) (hB : By L) (hl : L.length ≤ 140737488355328) (ha : at0 ≤ L.length) (hk : (L.drop at0).getD 0 0 = 4) (h3 : at0 + 3 ≤ L.length) (N : Nat) (hN : num ((L.drop (at0 + 1)).take 2) = N) (hN2 : N < 65536) (h256 : 256 < N) :
    Calls Try.prog 21 #[.pointer (some ⟨g, 0, none⟩)] w (VPost w0 w g L (none) at0) := by
  have hR0 : RS w0 w (w.alloc (.cells #[.int .i64 0, .int .i64 0, .float .f64 0, .complex .f64 0 0, .string { data := #[] }] 50)) g L at0 false := (RS.refl hI hb).alloc _
  have hg1 : g ≠ w.heap.size := by have := hI.lt; omega
  have hle := hb.size
  have HN1 := Lib.hid (num_ok hR0.1 hR0.2.1 hB 1 (by omega) (by omega) hl)
  have hk1 : num ((L.drop at0).take 1) = (L.drop at0).getD 0 0 := by
    rw [num_take _ 0 (by rw [List.length_drop]; omega)]
    show 0 * 256 + _ = _
    omega
  rw [hk1, hk] at HN1
  have HR0 := Lib.hid hR0
  have HB := Lib.hid hB
  have HBy := Lib.hid hB
  clear hI hb hR0 hB hk hk1
  go_enter Try.func21, Try.ntmps21
  go_wp2_with fail
  refine HN1.out.mono ?_
  rintro e w1 ⟨rfl, hR1⟩
  have b2 := Blk.keep (Blk.new w 50 #[.int .i64 0, .int .i64 0, .float .f64 0, .complex .f64 0 0, .string { data := #[] }]) hR1.2.2 (Ne.symm hg1)
  have hR1 := HR0.out.trans hR1
  have hs1 : w.heap.size < w1.heap.size := b2.lt
  have hg2 : g ≠ w1.heap.size := by have := hR1.1.lt; omega
  go_upto_region 2 with fail
  have b3 := Blk.new w1 50 #[.int .i64 4, .int .i64 0, .float .f64 0, .complex .f64 0 0, .string { data := #[] }]
  have b2 := b2.alloc (.cells #[.int .i64 4, .int .i64 0, .float .f64 0, .complex .f64 0 0, .string { data := #[] }] 50)
  have hR2 := hR1.alloc (.cells #[.int .i64 4, .int .i64 0, .float .f64 0, .complex .f64 0 0, .string { data := #[] }] 50)
  generalize w1.alloc (.cells #[.int .i64 4, .int .i64 0, .float .f64 0, .complex .f64 0 0, .string { data := #[] }] 50) = w2 at b2 b3 hR2 ⊢
  have n1 := hg1.symm
  have n2 := hg2.symm
  have n3 : w.heap.size ≠ w1.heap.size := by omega
  have n4 : w1.heap.size ≠ w.heap.size := by omega
  have y0 := b3.cell 0
  have y1 := b3.cell 1
  have y2 := b3.cell 2
  have y3 := b3.cell 3
  have y4 := b3.cell 4
  simp at y0 y1 y2 y3 y4
  obtain ⟨z, zf⟩ := rs_cell hR2.1
  have HN2 := Lib.hid (num_ok hR2.1 hR2.2.1 HBy.out 2 (by omega) (by omega) hl)
  have hwn : wrap64 (N : Int) = (N : Int) := by unfold wrap64; omega
  rw [hN] at HN2
  have HWN := Lib.hid hwn
  clear hwn hN
  go_wp2_with fail
  refine HN2.out.mono ?_
  rintro e w3 ⟨rfl, hR3⟩
  have b2 := Blk.keep b2 hR3.2.2 n1
  have b3 := Blk.keep b3 hR3.2.2 n2
  have hR3 := hR2.trans hR3
  clear z zf y0 y1 y2 y3 y4
  obtain ⟨z, zf⟩ := rs_cell hR3.1
  have b256 : decide ((N : Int) > 256) = true := by simp; omega
  have hwn := HWN.out
  go_upto_region 16 with fail
  clear hwn
  have hR3 := hR3.set_2 true
  have b2 : Blk (w3.setCell ⟨g, 2, none⟩ (.bool true)) w.heap.size 50 #[.int .i64 0, .int .i64 0, .float .f64 0, .complex .f64 0 0, .string { data := #[] }] := b2.far (Ne.symm hg1) _
  have b3 : Blk (w3.setCell ⟨g, 2, none⟩ (.bool true)) w1.heap.size 50 #[.int .i64 4, .int .i64 0, .float .f64 0, .complex .f64 0 0, .string { data := #[] }] := b3.far (Ne.symm hg2) _
  generalize w3.setCell ⟨g, 2, none⟩ (.bool true) = w3 at hR3 b2 b3 ⊢
  clear z zf
  obtain ⟨z, zf⟩ := rs_cell hR3.1
  have HN3 := Lib.hid (text_bad (at0 := at0 + 1 + 2) hR3.1 hR3.2.1 N (.inl rfl) (by omega) hl)
  go_wp2_with fail
  refine HN3.out.mono ?_
  rintro e w4 ⟨rfl, hR4⟩
  have b2 := Blk.keep b2 hR4.2.2 n1
  have b3 := Blk.keep b3 hR4.2.2 n2
  have hR4 := hR3.trans hR4
  clear z zf
  obtain ⟨z, zf⟩ := rs_cell hR4.1
  have y0 := b3.cell 0
  have yf0 := b3.frozen 0
  have y1 := b3.cell 1
  have yf1 := b3.frozen 1
  have y2 := b3.cell 2
  have yf2 := b3.frozen 2
  have y3 := b3.cell 3
  have yf3 := b3.frozen 3
  have y4 := b3.cell 4
  have yf4 := b3.frozen 4
  simp at y0 y1 y2 y3 y4
  go_upto_region 17 with fail
  have hR5 := hR4.setNew hle w1.heap.size 4 (.string ByteArray.empty) (by omega) hg2
  have c2 : Blk (w4.setCell ⟨w1.heap.size, 4, none⟩ (.string ByteArray.empty)) w.heap.size 50 #[.int .i64 0, .int .i64 0, .float .f64 0, .complex .f64 0 0, .string { data := #[] }] := b2.far n3 _
  have c3 : Blk (w4.setCell ⟨w1.heap.size, 4, none⟩ (.string ByteArray.empty)) w1.heap.size 50 #[.int .i64 4, .int .i64 0, .float .f64 0, .complex .f64 0 0, .string ByteArray.empty] := b3.set_ 4 _
  generalize w4.setCell ⟨w1.heap.size, 4, none⟩ (.string ByteArray.empty) = w5 at hR5 c2 c3 ⊢
  clear y0 yf0 y1 yf1 y2 yf2 y3 yf3 y4 yf4
  clear z zf
  obtain ⟨z, zf⟩ := rs_cell hR5.1
  have r0 := c2.cell 0
  have rf0 := c2.frozen 0
  have r1 := c2.cell 1
  have rf1 := c2.frozen 1
  have r2 := c2.cell 2
  have rf2 := c2.frozen 2
  have r3 := c2.cell 3
  have rf3 := c2.frozen 3
  have r4 := c2.cell 4
  have rf4 := c2.frozen 4
  simp at r0 r1 r2 r3 r4
  go_wp2_with fail
  try simp only [Exit.inBlock, Exit.then]
  refine bodyPost_ret (results_cell_row rfl _ _ w.heap.size 50 #[.int .i64 0, .int .i64 0, .float .f64 0, .complex .f64 0 0, .string { data := #[] }] (0, 0) _ rfl (show Blk _ w.heap.size 50 #[.int .i64 0, .int .i64 0, .float .f64 0, .complex .f64 0 0, .string { data := #[] }] from ((((c2.set_ 0 _).set_ 1 _).set_ 2 _).set_ 3 _).set_ 4 _) Try.underlying50 rfl (by kernel_rfl)) rfl ?_
  exact ⟨at0 + 1 + 2, true, ((((hR5.setNew hle _ 0 _ (Nat.le_refl _) hg1).setNew hle _ 1 _ (Nat.le_refl _) hg1).setNew hle _ 2 _ (Nat.le_refl _) hg1).setNew hle _ 3 _ (Nat.le_refl _) hg1).setNew hle _ 4 _ (Nat.le_refl _) hg1, by omega, rfl, rfl⟩
set_option maxRecDepth 20000 in
set_option maxHeartbeats 4000000 in
theorem rval_text_cut (hI : IsS62 w0 w g L at0 false) (hb : Below w0.heap.size w0 w) (hB : By L) (hl : L.length ≤ 140737488355328) (ha : at0 ≤ L.length) (hk : (L.drop at0).getD 0 0 = 4) (h3 : at0 + 3 ≤ L.length) (N : Nat) (hN : num ((L.drop (at0 + 1)).take 2) = N) (hN2 : N < 65536) (h256 : N ≤ 256) (h9 : L.length < at0 + 3 + N) :
    Calls Try.prog 21 #[.pointer (some ⟨g, 0, none⟩)] w (VPost w0 w g L (none) at0) := by
  have hR0 : RS w0 w (w.alloc (.cells #[.int .i64 0, .int .i64 0, .float .f64 0, .complex .f64 0 0, .string { data := #[] }] 50)) g L at0 false := (RS.refl hI hb).alloc _
  have hg1 : g ≠ w.heap.size := by have := hI.lt; omega
  have hle := hb.size
  have HN1 := Lib.hid (num_ok hR0.1 hR0.2.1 hB 1 (by omega) (by omega) hl)
  have hk1 : num ((L.drop at0).take 1) = (L.drop at0).getD 0 0 := by
    rw [num_take _ 0 (by rw [List.length_drop]; omega)]
    show 0 * 256 + _ = _
    omega
  rw [hk1, hk] at HN1
  have HR0 := Lib.hid hR0
  have HB := Lib.hid hB
  have HBy := Lib.hid hB
  clear hI hb hR0 hB hk hk1
  go_enter Try.func21, Try.ntmps21
  go_wp2_with fail
  refine HN1.out.mono ?_
  rintro e w1 ⟨rfl, hR1⟩
  have b2 := Blk.keep (Blk.new w 50 #[.int .i64 0, .int .i64 0, .float .f64 0, .complex .f64 0 0, .string { data := #[] }]) hR1.2.2 (Ne.symm hg1)
  have hR1 := HR0.out.trans hR1
  have hs1 : w.heap.size < w1.heap.size := b2.lt
  have hg2 : g ≠ w1.heap.size := by have := hR1.1.lt; omega
  go_upto_region 2 with fail
  have b3 := Blk.new w1 50 #[.int .i64 4, .int .i64 0, .float .f64 0, .complex .f64 0 0, .string { data := #[] }]
  have b2 := b2.alloc (.cells #[.int .i64 4, .int .i64 0, .float .f64 0, .complex .f64 0 0, .string { data := #[] }] 50)
  have hR2 := hR1.alloc (.cells #[.int .i64 4, .int .i64 0, .float .f64 0, .complex .f64 0 0, .string { data := #[] }] 50)
  generalize w1.alloc (.cells #[.int .i64 4, .int .i64 0, .float .f64 0, .complex .f64 0 0, .string { data := #[] }] 50) = w2 at b2 b3 hR2 ⊢
  have n1 := hg1.symm
  have n2 := hg2.symm
  have n3 : w.heap.size ≠ w1.heap.size := by omega
  have n4 : w1.heap.size ≠ w.heap.size := by omega
  have y0 := b3.cell 0
  have y1 := b3.cell 1
  have y2 := b3.cell 2
  have y3 := b3.cell 3
  have y4 := b3.cell 4
  simp at y0 y1 y2 y3 y4
  obtain ⟨z, zf⟩ := rs_cell hR2.1
  have HN2 := Lib.hid (num_ok hR2.1 hR2.2.1 HBy.out 2 (by omega) (by omega) hl)
  have hwn : wrap64 (N : Int) = (N : Int) := by unfold wrap64; omega
  rw [hN] at HN2
  have HWN := Lib.hid hwn
  clear hwn hN
  go_wp2_with fail
  refine HN2.out.mono ?_
  rintro e w3 ⟨rfl, hR3⟩
  have b2 := Blk.keep b2 hR3.2.2 n1
  have b3 := Blk.keep b3 hR3.2.2 n2
  have hR3 := hR2.trans hR3
  clear z zf y0 y1 y2 y3 y4
  obtain ⟨z, zf⟩ := rs_cell hR3.1
  have b256 : decide ((N : Int) > 256) = false := by simp; omega
  have hwn := HWN.out
  go_upto_region 16 with fail
  clear hwn
  have HN3 := Lib.hid (text_bad (at0 := at0 + 1 + 2) hR3.1 hR3.2.1 N (.inr (by omega)) (by omega) hl)
  go_wp2_with fail
  refine HN3.out.mono ?_
  rintro e w4 ⟨rfl, hR4⟩
  have b2 := Blk.keep b2 hR4.2.2 n1
  have b3 := Blk.keep b3 hR4.2.2 n2
  have hR4 := hR3.trans hR4
  clear z zf
  obtain ⟨z, zf⟩ := rs_cell hR4.1
  have y0 := b3.cell 0
  have yf0 := b3.frozen 0
  have y1 := b3.cell 1
  have yf1 := b3.frozen 1
  have y2 := b3.cell 2
  have yf2 := b3.frozen 2
  have y3 := b3.cell 3
  have yf3 := b3.frozen 3
  have y4 := b3.cell 4
  have yf4 := b3.frozen 4
  simp at y0 y1 y2 y3 y4
  go_upto_region 17 with fail
  have hR5 := hR4.setNew hle w1.heap.size 4 (.string ByteArray.empty) (by omega) hg2
  have c2 : Blk (w4.setCell ⟨w1.heap.size, 4, none⟩ (.string ByteArray.empty)) w.heap.size 50 #[.int .i64 0, .int .i64 0, .float .f64 0, .complex .f64 0 0, .string { data := #[] }] := b2.far n3 _
  have c3 : Blk (w4.setCell ⟨w1.heap.size, 4, none⟩ (.string ByteArray.empty)) w1.heap.size 50 #[.int .i64 4, .int .i64 0, .float .f64 0, .complex .f64 0 0, .string ByteArray.empty] := b3.set_ 4 _
  generalize w4.setCell ⟨w1.heap.size, 4, none⟩ (.string ByteArray.empty) = w5 at hR5 c2 c3 ⊢
  clear y0 yf0 y1 yf1 y2 yf2 y3 yf3 y4 yf4
  clear z zf
  obtain ⟨z, zf⟩ := rs_cell hR5.1
  have r0 := c2.cell 0
  have rf0 := c2.frozen 0
  have r1 := c2.cell 1
  have rf1 := c2.frozen 1
  have r2 := c2.cell 2
  have rf2 := c2.frozen 2
  have r3 := c2.cell 3
  have rf3 := c2.frozen 3
  have r4 := c2.cell 4
  have rf4 := c2.frozen 4
  simp at r0 r1 r2 r3 r4
  go_wp2_with fail
  try simp only [Exit.inBlock, Exit.then]
  refine bodyPost_ret (results_cell_row rfl _ _ w.heap.size 50 #[.int .i64 0, .int .i64 0, .float .f64 0, .complex .f64 0 0, .string { data := #[] }] (0, 0) _ rfl (show Blk _ w.heap.size 50 #[.int .i64 0, .int .i64 0, .float .f64 0, .complex .f64 0 0, .string { data := #[] }] from ((((c2.set_ 0 _).set_ 1 _).set_ 2 _).set_ 3 _).set_ 4 _) Try.underlying50 rfl (by kernel_rfl)) rfl ?_
  exact ⟨at0 + 1 + 2, true, ((((hR5.setNew hle _ 0 _ (Nat.le_refl _) hg1).setNew hle _ 1 _ (Nat.le_refl _) hg1).setNew hle _ 2 _ (Nat.le_refl _) hg1).setNew hle _ 3 _ (Nat.le_refl _) hg1).setNew hle _ 4 _ (Nat.le_refl _) hg1, by omega, rfl, rfl⟩
set_option maxRecDepth 20000 in
set_option maxHeartbeats 4000000 in
theorem rval_text (hI : IsS62 w0 w g L at0 false) (hb : Below w0.heap.size w0 w) (hB : By L) (hl : L.length ≤ 140737488355328) (ha : at0 ≤ L.length) (hk : (L.drop at0).getD 0 0 = 4) (h3 : at0 + 3 ≤ L.length) (N : Nat) (hN : num ((L.drop (at0 + 1)).take 2) = N) (hN2 : N < 65536) (h256 : N ≤ 256) (h9 : at0 + 3 + N ≤ L.length) :
    Calls Try.prog 21 #[.pointer (some ⟨g, 0, none⟩)] w (VPost w0 w g L (some (vT (strOfNums ((L.take (at0 + 1 + 2 + N)).drop (at0 + 1 + 2))), 3 + N)) at0) := by
  have hs : (strOfNums ((L.take (at0 + 1 + 2 + N)).drop (at0 + 1 + 2))).size ≤ 256 := by rw [strOfNums_size, List.length_drop, List.length_take]; omega
  have hR0 : RS w0 w (w.alloc (.cells #[.int .i64 0, .int .i64 0, .float .f64 0, .complex .f64 0 0, .string { data := #[] }] 50)) g L at0 false := (RS.refl hI hb).alloc _
  have hg1 : g ≠ w.heap.size := by have := hI.lt; omega
  have hle := hb.size
  have HN1 := Lib.hid (num_ok hR0.1 hR0.2.1 hB 1 (by omega) (by omega) hl)
  have hk1 : num ((L.drop at0).take 1) = (L.drop at0).getD 0 0 := by
    rw [num_take _ 0 (by rw [List.length_drop]; omega)]
    show 0 * 256 + _ = _
    omega
  rw [hk1, hk] at HN1
  have HR0 := Lib.hid hR0
  have HB := Lib.hid hB
  have HBy := Lib.hid hB
  clear hI hb hR0 hB hk hk1
  generalize hsd : strOfNums ((L.take (at0 + 1 + 2 + N)).drop (at0 + 1 + 2)) = s at hs
  have HSD := Lib.hid hsd
  clear hsd
  go_enter Try.func21, Try.ntmps21
  go_wp2_with fail
  refine HN1.out.mono ?_
  rintro e w1 ⟨rfl, hR1⟩
  have b2 := Blk.keep (Blk.new w 50 #[.int .i64 0, .int .i64 0, .float .f64 0, .complex .f64 0 0, .string { data := #[] }]) hR1.2.2 (Ne.symm hg1)
  have hR1 := HR0.out.trans hR1
  have hs1 : w.heap.size < w1.heap.size := b2.lt
  have hg2 : g ≠ w1.heap.size := by have := hR1.1.lt; omega
  go_upto_region 2 with fail
  have b3 := Blk.new w1 50 #[.int .i64 4, .int .i64 0, .float .f64 0, .complex .f64 0 0, .string { data := #[] }]
  have b2 := b2.alloc (.cells #[.int .i64 4, .int .i64 0, .float .f64 0, .complex .f64 0 0, .string { data := #[] }] 50)
  have hR2 := hR1.alloc (.cells #[.int .i64 4, .int .i64 0, .float .f64 0, .complex .f64 0 0, .string { data := #[] }] 50)
  generalize w1.alloc (.cells #[.int .i64 4, .int .i64 0, .float .f64 0, .complex .f64 0 0, .string { data := #[] }] 50) = w2 at b2 b3 hR2 ⊢
  have n1 := hg1.symm
  have n2 := hg2.symm
  have n3 : w.heap.size ≠ w1.heap.size := by omega
  have n4 : w1.heap.size ≠ w.heap.size := by omega
  have y0 := b3.cell 0
  have y1 := b3.cell 1
  have y2 := b3.cell 2
  have y3 := b3.cell 3
  have y4 := b3.cell 4
  simp at y0 y1 y2 y3 y4
  obtain ⟨z, zf⟩ := rs_cell hR2.1
  have HN2 := Lib.hid (num_ok hR2.1 hR2.2.1 HBy.out 2 (by omega) (by omega) hl)
  have hwn : wrap64 (N : Int) = (N : Int) := by unfold wrap64; omega
  rw [hN] at HN2
  have HWN := Lib.hid hwn
  clear hwn hN
  go_wp2_with fail
  refine HN2.out.mono ?_
  rintro e w3 ⟨rfl, hR3⟩
  have b2 := Blk.keep b2 hR3.2.2 n1
  have b3 := Blk.keep b3 hR3.2.2 n2
  have hR3 := hR2.trans hR3
  clear z zf y0 y1 y2 y3 y4
  obtain ⟨z, zf⟩ := rs_cell hR3.1
  have b256 : decide ((N : Int) > 256) = false := by simp; omega
  have hwn := HWN.out
  go_upto_region 16 with fail
  clear hwn
  have HN3 := Lib.hid (text_ok (at0 := at0 + 1 + 2) hR3.1 hR3.2.1 N (by omega) hl)
  rw [HSD.out] at HN3
  go_wp2_with fail
  refine HN3.out.mono ?_
  rintro e w4 ⟨rfl, hR4⟩
  have b2 := Blk.keep b2 hR4.2.2 n1
  have b3 := Blk.keep b3 hR4.2.2 n2
  have hR4 := hR3.trans hR4
  clear z zf
  obtain ⟨z, zf⟩ := rs_cell hR4.1
  have y0 := b3.cell 0
  have yf0 := b3.frozen 0
  have y1 := b3.cell 1
  have yf1 := b3.frozen 1
  have y2 := b3.cell 2
  have yf2 := b3.frozen 2
  have y3 := b3.cell 3
  have yf3 := b3.frozen 3
  have y4 := b3.cell 4
  have yf4 := b3.frozen 4
  simp at y0 y1 y2 y3 y4
  go_upto_region 17 with fail
  have hR5 := hR4.setNew hle w1.heap.size 4 (.string s) (by omega) hg2
  have c2 : Blk (w4.setCell ⟨w1.heap.size, 4, none⟩ (.string s)) w.heap.size 50 #[.int .i64 0, .int .i64 0, .float .f64 0, .complex .f64 0 0, .string { data := #[] }] := b2.far n3 _
  have c3 : Blk (w4.setCell ⟨w1.heap.size, 4, none⟩ (.string s)) w1.heap.size 50 #[.int .i64 4, .int .i64 0, .float .f64 0, .complex .f64 0 0, .string s] := b3.set_ 4 _
  generalize w4.setCell ⟨w1.heap.size, 4, none⟩ (.string s) = w5 at hR5 c2 c3 ⊢
  clear y0 yf0 y1 yf1 y2 yf2 y3 yf3 y4 yf4
  clear z zf
  obtain ⟨z, zf⟩ := rs_cell hR5.1
  have y0 := c3.cell 0
  have y1 := c3.cell 1
  have y2 := c3.cell 2
  have y3 := c3.cell 3
  have y4 := c3.cell 4
  simp at y0 y1 y2 y3 y4
  have HP : Hid (∀ W : World, Calls Try.prog 59 #[.agg #[.int .i64 4, .int .i64 0, .float .f64 0, .complex .f64 0 0, .string s]] W fun e w' => e = .returned (.agg #[.int .i64 4, .int .i64 0, .float .f64 0, .complex .f64 0 0, .string s]) ∧ Below W.heap.size W w') := Lib.hid (fun W => rplain_any _ (.inr (.inr (.inr ⟨s, hs, rfl⟩))) W)
  go_wp2_with fail
  refine (HP.out _).mono ?_
  rintro e w6 ⟨rfl, hb6⟩
  have d2 := c2.below hb6 c2.lt
  have hR6 := hR5.below hb6
  have r0 := d2.cell 0
  have rf0 := d2.frozen 0
  have r1 := d2.cell 1
  have rf1 := d2.frozen 1
  have r2 := d2.cell 2
  have rf2 := d2.frozen 2
  have r3 := d2.cell 3
  have rf3 := d2.frozen 3
  have r4 := d2.cell 4
  have rf4 := d2.frozen 4
  simp at r0 r1 r2 r3 r4
  clear y0 y1 y2 y3 y4
  go_wp2_with fail
  try simp only [Exit.inBlock, Exit.then]
  refine bodyPost_ret (results_cell_row rfl _ _ w.heap.size 50 #[.int .i64 4, .int .i64 0, .float .f64 0, .complex .f64 0 0, .string s] (0, 0) _ rfl (show Blk _ w.heap.size 50 #[.int .i64 4, .int .i64 0, .float .f64 0, .complex .f64 0 0, .string s] from ((((d2.set_ 0 _).set_ 1 _).set_ 2 _).set_ 3 _).set_ 4 _) Try.underlying50 rfl (by kernel_rfl)) rfl ?_
  exact ⟨at0 + 1 + 2 + N, false, ((((hR6.setNew hle _ 0 _ (Nat.le_refl _) hg1).setNew hle _ 1 _ (Nat.le_refl _) hg1).setNew hle _ 2 _ (Nat.le_refl _) hg1).setNew hle _ 3 _ (Nat.le_refl _) hg1).setNew hle _ 4 _ (Nat.le_refl _) hg1, by omega, rfl, by omega, rfl⟩
end
end Go.Proofs.Ytlbfnnngemonoaa.Wir
