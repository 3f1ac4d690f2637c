/- The tape document's Reading: call. -/
import Derived.Test.YtlbfnnngemonoaaTapRNum
namespace Go.Proofs.Ytlbfnnngemonoaa.Wir
open Go.RowKit Go.Proofs.Ytlbfnnngemonoaa.PWireReads
open Go.Proofs.Ytlbfnnngemonoaa.Fat (Blk Chg Off chg_opt)
open Go.Proofs.YtlbfnnngemonoaaW.PrintWords Go.Proofs.YtlbfnnngemonoaaW.PrintLast Go.Proofs.YtlbfnnngemonoaaW.PrintMore
set_option linter.unusedVariables false
set_option linter.unusedSimpArgs false
def T69 : Bool × List (List Nat × List Nat) := (true, [([], []), ([0], [0]), ([1], [1]), ([2], [2]), ([], []), ([4], [4]), ([5], [5]), ([6], [6]), ([3, 7], [3, 7]), ([8], [8]), ([9], [9]), ([10, 0, 1, 2, 3, 4, 5, 6, 7, 8, 9, 10], [10])])
def B69 : List Nat := [0, 1, 3, 7, 0, 16, 48, 112, 255, 511, 1023, 2047]
theorem tab69 : rtab .any (opsOf Try.f69 8) = T69 := by kernel_rfl
theorem bits69 : waitsOk T69.2 B69 = true := by kernel_rfl
section
variable {w0 w : World} {g at0 : Nat} {L : List Int} {bad : Bool}
theorem RT.keepS {w1 w2 : World} {p at1 : Nat} {l2 : List Int} {b1 : Bool} (h : RT w0 w w1 g L at0 bad) (hS : RS w0 w1 w2 p l2 at1 b1) (hgp : g ≠ p) (hp : w.heap.size ≤ p) : RT w0 w w2 g L at0 bad :=
  ⟨is_move7 h.1 (hS.2.2.2 g h.1.lt hgp (by simp)), hS.2.1, Nat.le_trans h.2.2.1 hS.2.2.1, fun k hk hkg hr => (hS.2.2.2 k (Nat.lt_of_lt_of_le hk h.2.2.1) (by omega) hr).trans (h.2.2.2 k hk hkg hr)⟩
/-- What the document's call leaves. -/
def TPost (w0 w : World) (g : Nat) (L : List Int) (o : Option (Cl × Nat)) (at0 : Nat) (e : Ending) (w' : World) : Prop :=
  ∃ (x : Cl) (Av : Option Addr) (cv at1 : Nat) (b1 : Bool), e = .returned (clV x Av cv) ∧ Kd.R kV 50 w' w.heap.size (fun _ => True) (.slice Av x.p.length cv) x.p ∧ RT w0 w w' g L at1 b1 ∧ match o with
    | some (y, n) => x = y ∧ at1 = at0 + n ∧ b1 = false
    | none => b1 = true
set_option maxRecDepth 20000 in
set_option maxHeartbeats 4000000 in
theorem rcall_other (hI : IsS127 w0 w g L at0 false) (hb : Below w0.heap.size w0 w) (hB : By L) (hl : L.length ≤ 140737488355328) (ha : at0 < L.length) (hk1 : L.getD at0 0 ≠ 1) (hk2 : L.getD at0 0 ≠ 2) (hk3 : L.getD at0 0 ≠ 3) :
    Calls Try.prog 69 #[.pointer (some ⟨g, 0, none⟩)] w (TPost w0 w g L (none) at0) := by
  obtain ⟨PP, hPP⟩ : ∃ PP, TPost w0 w g L (none) at0 = PP := ⟨_, rfl⟩
  rw [hPP]
  have HPP := Lib.hid hPP
  clear hPP
  have hgl := hI.lt
  have hle := hb.size
  have hR1 := (RT.refl hI hb).alloc (.cells #[.int .i64 0, .string { data := #[] }, .int .i64 0, .slice none 0 0, .int .i64 0] 128)
  have b2 := Blk.new w 128 #[.int .i64 0, .string { data := #[] }, .int .i64 0, .slice none 0 0, .int .i64 0]
  have hg1 : g ≠ w.heap.size := by omega
  have n1 := hg1.symm
  have HBy := Lib.hid hB
  have hx1 := byte_ok hR1.1 hR1.2.1 hB ha hl
  generalize L.getD at0 0 = y at hx1 hk1 hk2 hk3
  have e1 : (y == 1) = false := beq_eq_false_iff_ne.2 hk1
  have e2 : (y == 2) = false := beq_eq_false_iff_ne.2 hk2
  have e3 : (y == 3) = false := beq_eq_false_iff_ne.2 hk3
  clear hk1 hk2 hk3
  have HX1 := Lib.hid hx1
  clear hI hb hB hx1
  obtain ⟨W1, hW1⟩ : ∃ W1, W1 = w.alloc (.cells #[.int .i64 0, .string { data := #[] }, .int .i64 0, .slice none 0 0, .int .i64 0] 128) := ⟨_, rfl⟩
  rw [← hW1] at hR1 b2 HX1
  go_enter Try.func69, Try.ntmps69
  go_upto_region 1 with fail
  rw [← hW1]
  clear hW1
  go_wp2_with fail
  refine HX1.out.mono ?_
  rintro e w2 ⟨rfl, hR2⟩
  have b2 := Blk.keep b2 hR2.2.2 n1
  have hR2 := hR1.trans hR2
  clear HX1
  go_upto_region 2 with fail
  obtain ⟨q, hq⟩ : ∃ q, w2.heap.size = q := ⟨_, rfl⟩
  have b3 := Blk.new w2 128 #[.int .i64 y, .string { data := #[] }, .int .i64 0, .slice none 0 0, .int .i64 0]
  have hqw : w.heap.size < q := by have := b2.lt; omega
  rw [hq] at b3 ⊢
  have b2 := b2.below ((Below.refl _ w2).alloc (Nat.le_refl _) (.cells #[.int .i64 y, .string { data := #[] }, .int .i64 0, .slice none 0 0, .int .i64 0] 128)) b2.lt
  have hR3 := hR2.alloc (.cells #[.int .i64 y, .string { data := #[] }, .int .i64 0, .slice none 0 0, .int .i64 0] 128)
  generalize w2.alloc (.cells #[.int .i64 y, .string { data := #[] }, .int .i64 0, .slice none 0 0, .int .i64 0] 128) = W3 at b2 b3 hR3 ⊢
  clear hR2 hq hR1
  have hg2 : g ≠ q := by omega
  have n2 := hg2.symm
  have n3 : w.heap.size ≠ q := by omega
  have hqw' : w.heap.size ≤ q := by omega
  have y0 := b3.cell 0
  have y1 := b3.cell 1
  have y2 := b3.cell 2
  have y3 := b3.cell 3
  have y4 := b3.cell 4
  simp at y0 y1 y2 y3 y4
  obtain ⟨Az, cz, z0, z1, zf1, z2, zf2, zC, zl⟩ := rt_cells hR3.1
  go_upto_region 16 with fail
  have hR3 := hR3.set_2 true
  have b2 : Blk (W3.setCell ⟨g, 2, none⟩ (.bool true)) w.heap.size 128 #[.int .i64 0, .string { data := #[] }, .int .i64 0, .slice none 0 0, .int .i64 0] := b2.far n1 _
  have b3 : Blk (W3.setCell ⟨g, 2, none⟩ (.bool true)) q 128 #[.int .i64 y, .string { data := #[] }, .int .i64 0, .slice none 0 0, .int .i64 0] := b3.far n2 _
  generalize W3.setCell ⟨g, 2, none⟩ (.bool true) = W4 at hR3 b2 b3 ⊢
  clear y0 y1 y2 y3 y4
  clear z0 z1 zf1 z2 zf2 zC zl
  have r0 := b2.cell 0
  have rf0 := b2.frozen 0
  have r1 := b2.cell 1
  have rf1 := b2.frozen 1
  have r2 := b2.cell 2
  have rf2 := b2.frozen 2
  have r3 := b2.cell 3
  have rf3 := b2.frozen 3
  have r4 := b2.cell 4
  have rf4 := b2.frozen 4
  simp at r0 r1 r2 r3 r4
  have y0 := b3.cell 0
  have y1 := b3.cell 1
  have y2 := b3.cell 2
  have y3 := b3.cell 3
  have y4 := b3.cell 4
  simp at y0 y1 y2 y3 y4
  obtain ⟨Az, cz, z0, z1, zf1, z2, zf2, zC, zl⟩ := rt_cells hR3.1
  go_wp2_with fail
  try simp only [Exit.inBlock, Exit.then]
  rw [← HPP.out]
  refine bodyPost_ret (results_cell_row rfl _ _ w.heap.size 128 #[.int .i64 y, .string { data := #[] }, .int .i64 0, .slice none 0 0, .int .i64 0] (0, 0) _ rfl (show Blk _ w.heap.size 128 #[.int .i64 y, .string { data := #[] }, .int .i64 0, .slice none 0 0, .int .i64 0] from (((((b2).set_ 0 _).set_ 1 _).set_ 2 _).set_ 3 _).set_ 4 _) Try.underlying128 rfl (by kernel_rfl)) rfl ?_
  exact ⟨⟨y, { data := #[] }, 0, [], 0⟩, none, 0, at0 + 1, true, rfl, Kd.R_nil _ _ _ _ _, (((((hR3).setNew hle _ 0 _ (Nat.le_refl _) hg1).setNew hle _ 1 _ (Nat.le_refl _) hg1).setNew hle _ 2 _ (Nat.le_refl _) hg1).setNew hle _ 3 _ (Nat.le_refl _) hg1).setNew hle _ 4 _ (Nat.le_refl _) hg1, rfl⟩
set_option maxRecDepth 20000 in
set_option maxHeartbeats 4000000 in
theorem rcall_spawn (hI : IsS127 w0 w g L at0 false) (hb : Below w0.heap.size w0 w) (hB : By L) (hl : L.length ≤ 140737488355328) (ha : at0 < L.length) (hk : L.getD at0 0 = 1) (s : ByteArray) (n : Nat) (hr : rdW (L.drop at0) 1 = some (s, n)) :
    Calls Try.prog 69 #[.pointer (some ⟨g, 0, none⟩)] w (TPost w0 w g L (some (⟨1, s, 0, [], 0⟩, n)) at0) := by
  obtain ⟨PP, hPP⟩ : ∃ PP, TPost w0 w g L (some (⟨1, s, 0, [], 0⟩, n)) at0 = PP := ⟨_, rfl⟩
  rw [hPP]
  have HPP := Lib.hid hPP
  clear hPP
  have hgl := hI.lt
  have hle := hb.size
  have hR1 := (RT.refl hI hb).alloc (.cells #[.int .i64 0, .string { data := #[] }, .int .i64 0, .slice none 0 0, .int .i64 0] 128)
  have b2 := Blk.new w 128 #[.int .i64 0, .string { data := #[] }, .int .i64 0, .slice none 0 0, .int .i64 0]
  have hg1 : g ≠ w.heap.size := by omega
  have n1 := hg1.symm
  have HBy := Lib.hid hB
  have hx1 := byte_ok hR1.1 hR1.2.1 hB ha hl
  rw [hk] at hx1
  have HX1 := Lib.hid hx1
  clear hI hb hB hx1
  obtain ⟨W1, hW1⟩ : ∃ W1, W1 = w.alloc (.cells #[.int .i64 0, .string { data := #[] }, .int .i64 0, .slice none 0 0, .int .i64 0] 128) := ⟨_, rfl⟩
  rw [← hW1] at hR1 b2 HX1
  go_enter Try.func69, Try.ntmps69
  go_upto_region 1 with fail
  rw [← hW1]
  clear hW1
  go_wp2_with fail
  refine HX1.out.mono ?_
  rintro e w2 ⟨rfl, hR2⟩
  have b2 := Blk.keep b2 hR2.2.2 n1
  have hR2 := hR1.trans hR2
  clear HX1
  go_upto_region 2 with fail
  obtain ⟨q, hq⟩ : ∃ q, w2.heap.size = q := ⟨_, rfl⟩
  have b3 := Blk.new w2 128 #[.int .i64 1, .string { data := #[] }, .int .i64 0, .slice none 0 0, .int .i64 0]
  have hqw : w.heap.size < q := by have := b2.lt; omega
  rw [hq] at b3 ⊢
  have b2 := b2.below ((Below.refl _ w2).alloc (Nat.le_refl _) (.cells #[.int .i64 1, .string { data := #[] }, .int .i64 0, .slice none 0 0, .int .i64 0] 128)) b2.lt
  have hR3 := hR2.alloc (.cells #[.int .i64 1, .string { data := #[] }, .int .i64 0, .slice none 0 0, .int .i64 0] 128)
  generalize w2.alloc (.cells #[.int .i64 1, .string { data := #[] }, .int .i64 0, .slice none 0 0, .int .i64 0] 128) = W3 at b2 b3 hR3 ⊢
  clear hR2 hq hR1
  have hg2 : g ≠ q := by omega
  have n2 := hg2.symm
  have n3 : w.heap.size ≠ q := by omega
  have hqw' : w.heap.size ≤ q := by omega
  have hCw4 := Lib.hid (name_ok HBy.out hl at0 1 (by omega) s n hr hR3.1 hR3.2.1)
  have y0 := b3.cell 0
  have y1 := b3.cell 1
  have y2 := b3.cell 2
  have y3 := b3.cell 3
  have y4 := b3.cell 4
  simp at y0 y1 y2 y3 y4
  go_wp2_with fail
  clear y0 y1 y2 y3 y4
  refine hCw4.out.mono ?_
  rintro _ w4 ⟨rfl, hR4⟩
  have b2 := Blk.keep b2 hR4.2.2 n1
  have b3 := Blk.keep b3 hR4.2.2 n2
  have hR4 := hR3.trans hR4
  clear hCw4 hR3
  have y0 := b3.cell 0
  have yf0 := b3.frozen 0
  have y1 := b3.cell 1
  have yf1 := b3.frozen 1
  have y2 := b3.cell 2
  have yf2 := b3.frozen 2
  have y3 := b3.cell 3
  have yf3 := b3.frozen 3
  have y4 := b3.cell 4
  have yf4 := b3.frozen 4
  simp at y0 y1 y2 y3 y4
  go_upto_region 16 with fail
  have hR4 := hR4.setNew hle q 1 (.string s) hqw' hg2
  have b2 : Blk (w4.setCell ⟨q, 1, none⟩ (.string s)) w.heap.size 128 #[.int .i64 0, .string { data := #[] }, .int .i64 0, .slice none 0 0, .int .i64 0] := b2.far n3 _
  have b3 : Blk (w4.setCell ⟨q, 1, none⟩ (.string s)) q 128 #[.int .i64 1, .string s, .int .i64 0, .slice none 0 0, .int .i64 0] := b3.set_ 1 _
  generalize w4.setCell ⟨q, 1, none⟩ (.string s) = W5 at hR4 b2 b3 ⊢
  clear y0 yf0 y1 yf1 y2 yf2 y3 yf3 y4 yf4
  have r0 := b2.cell 0
  have rf0 := b2.frozen 0
  have r1 := b2.cell 1
  have rf1 := b2.frozen 1
  have r2 := b2.cell 2
  have rf2 := b2.frozen 2
  have r3 := b2.cell 3
  have rf3 := b2.frozen 3
  have r4 := b2.cell 4
  have rf4 := b2.frozen 4
  simp at r0 r1 r2 r3 r4
  have y0 := b3.cell 0
  have y1 := b3.cell 1
  have y2 := b3.cell 2
  have y3 := b3.cell 3
  have y4 := b3.cell 4
  simp at y0 y1 y2 y3 y4
  obtain ⟨Az, cz, z0, z1, zf1, z2, zf2, zC, zl⟩ := rt_cells hR4.1
  go_wp2_with fail
  try simp only [Exit.inBlock, Exit.then]
  rw [← HPP.out]
  refine bodyPost_ret (results_cell_row rfl _ _ w.heap.size 128 #[.int .i64 1, .string s, .int .i64 0, .slice none 0 0, .int .i64 0] (0, 0) _ rfl (show Blk _ w.heap.size 128 #[.int .i64 1, .string s, .int .i64 0, .slice none 0 0, .int .i64 0] from (((((b2).set_ 0 _).set_ 1 _).set_ 2 _).set_ 3 _).set_ 4 _) Try.underlying128 rfl (by kernel_rfl)) rfl ?_
  exact ⟨⟨1, s, 0, [], 0⟩, none, 0, _, _, rfl, Kd.R_nil _ _ _ _ _, (((((hR4).setNew hle _ 0 _ (Nat.le_refl _) hg1).setNew hle _ 1 _ (Nat.le_refl _) hg1).setNew hle _ 2 _ (Nat.le_refl _) hg1).setNew hle _ 3 _ (Nat.le_refl _) hg1).setNew hle _ 4 _ (Nat.le_refl _) hg1, ⟨rfl, rfl, rfl⟩⟩
set_option maxRecDepth 20000 in
set_option maxHeartbeats 4000000 in
theorem rcall_spawn_bad (hI : IsS127 w0 w g L at0 false) (hb : Below w0.heap.size w0 w) (hB : By L) (hl : L.length ≤ 140737488355328) (ha : at0 < L.length) (hk : L.getD at0 0 = 1) (hr : rdW (L.drop at0) 1 = none) :
    Calls Try.prog 69 #[.pointer (some ⟨g, 0, none⟩)] w (TPost w0 w g L (none) at0) := by
  obtain ⟨PP, hPP⟩ : ∃ PP, TPost w0 w g L (none) at0 = PP := ⟨_, rfl⟩
  rw [hPP]
  have HPP := Lib.hid hPP
  clear hPP
  have hgl := hI.lt
  have hle := hb.size
  have hR1 := (RT.refl hI hb).alloc (.cells #[.int .i64 0, .string { data := #[] }, .int .i64 0, .slice none 0 0, .int .i64 0] 128)
  have b2 := Blk.new w 128 #[.int .i64 0, .string { data := #[] }, .int .i64 0, .slice none 0 0, .int .i64 0]
  have hg1 : g ≠ w.heap.size := by omega
  have n1 := hg1.symm
  have HBy := Lib.hid hB
  have hx1 := byte_ok hR1.1 hR1.2.1 hB ha hl
  rw [hk] at hx1
  have HX1 := Lib.hid hx1
  clear hI hb hB hx1
  obtain ⟨W1, hW1⟩ : ∃ W1, W1 = w.alloc (.cells #[.int .i64 0, .string { data := #[] }, .int .i64 0, .slice none 0 0, .int .i64 0] 128) := ⟨_, rfl⟩
  rw [← hW1] at hR1 b2 HX1
  go_enter Try.func69, Try.ntmps69
  go_upto_region 1 with fail
  rw [← hW1]
  clear hW1
  go_wp2_with fail
  refine HX1.out.mono ?_
  rintro e w2 ⟨rfl, hR2⟩
  have b2 := Blk.keep b2 hR2.2.2 n1
  have hR2 := hR1.trans hR2
  clear HX1
  go_upto_region 2 with fail
  obtain ⟨q, hq⟩ : ∃ q, w2.heap.size = q := ⟨_, rfl⟩
  have b3 := Blk.new w2 128 #[.int .i64 1, .string { data := #[] }, .int .i64 0, .slice none 0 0, .int .i64 0]
  have hqw : w.heap.size < q := by have := b2.lt; omega
  rw [hq] at b3 ⊢
  have b2 := b2.below ((Below.refl _ w2).alloc (Nat.le_refl _) (.cells #[.int .i64 1, .string { data := #[] }, .int .i64 0, .slice none 0 0, .int .i64 0] 128)) b2.lt
  have hR3 := hR2.alloc (.cells #[.int .i64 1, .string { data := #[] }, .int .i64 0, .slice none 0 0, .int .i64 0] 128)
  generalize w2.alloc (.cells #[.int .i64 1, .string { data := #[] }, .int .i64 0, .slice none 0 0, .int .i64 0] 128) = W3 at b2 b3 hR3 ⊢
  clear hR2 hq hR1
  have hg2 : g ≠ q := by omega
  have n2 := hg2.symm
  have n3 : w.heap.size ≠ q := by omega
  have hqw' : w.heap.size ≤ q := by omega
  have hCw4 := Lib.hid (name_bad HBy.out hl at0 1 (by omega) hr hR3.1 hR3.2.1)
  have y0 := b3.cell 0
  have y1 := b3.cell 1
  have y2 := b3.cell 2
  have y3 := b3.cell 3
  have y4 := b3.cell 4
  simp at y0 y1 y2 y3 y4
  go_wp2_with fail
  clear y0 y1 y2 y3 y4
  refine hCw4.out.mono ?_
  rintro _ w4 ⟨s, a1, rfl, hR4⟩
  have b2 := Blk.keep b2 hR4.2.2 n1
  have b3 := Blk.keep b3 hR4.2.2 n2
  have hR4 := hR3.trans hR4
  clear hCw4 hR3
  have y0 := b3.cell 0
  have yf0 := b3.frozen 0
  have y1 := b3.cell 1
  have yf1 := b3.frozen 1
  have y2 := b3.cell 2
  have yf2 := b3.frozen 2
  have y3 := b3.cell 3
  have yf3 := b3.frozen 3
  have y4 := b3.cell 4
  have yf4 := b3.frozen 4
  simp at y0 y1 y2 y3 y4
  go_upto_region 16 with fail
  have hR4 := hR4.setNew hle q 1 (.string s) hqw' hg2
  have b2 : Blk (w4.setCell ⟨q, 1, none⟩ (.string s)) w.heap.size 128 #[.int .i64 0, .string { data := #[] }, .int .i64 0, .slice none 0 0, .int .i64 0] := b2.far n3 _
  have b3 : Blk (w4.setCell ⟨q, 1, none⟩ (.string s)) q 128 #[.int .i64 1, .string s, .int .i64 0, .slice none 0 0, .int .i64 0] := b3.set_ 1 _
  generalize w4.setCell ⟨q, 1, none⟩ (.string s) = W5 at hR4 b2 b3 ⊢
  clear y0 yf0 y1 yf1 y2 yf2 y3 yf3 y4 yf4
  have r0 := b2.cell 0
  have rf0 := b2.frozen 0
  have r1 := b2.cell 1
  have rf1 := b2.frozen 1
  have r2 := b2.cell 2
  have rf2 := b2.frozen 2
  have r3 := b2.cell 3
  have rf3 := b2.frozen 3
  have r4 := b2.cell 4
  have rf4 := b2.frozen 4
  simp at r0 r1 r2 r3 r4
  have y0 := b3.cell 0
  have y1 := b3.cell 1
  have y2 := b3.cell 2
  have y3 := b3.cell 3
  have y4 := b3.cell 4
  simp at y0 y1 y2 y3 y4
  obtain ⟨Az, cz, z0, z1, zf1, z2, zf2, zC, zl⟩ := rt_cells hR4.1
  go_wp2_with fail
  try simp only [Exit.inBlock, Exit.then]
  rw [← HPP.out]
  refine bodyPost_ret (results_cell_row rfl _ _ w.heap.size 128 #[.int .i64 1, .string s, .int .i64 0, .slice none 0 0, .int .i64 0] (0, 0) _ rfl (show Blk _ w.heap.size 128 #[.int .i64 1, .string s, .int .i64 0, .slice none 0 0, .int .i64 0] from (((((b2).set_ 0 _).set_ 1 _).set_ 2 _).set_ 3 _).set_ 4 _) Try.underlying128 rfl (by kernel_rfl)) rfl ?_
  exact ⟨⟨1, s, 0, [], 0⟩, none, 0, _, _, rfl, Kd.R_nil _ _ _ _ _, (((((hR4).setNew hle _ 0 _ (Nat.le_refl _) hg1).setNew hle _ 1 _ (Nat.le_refl _) hg1).setNew hle _ 2 _ (Nat.le_refl _) hg1).setNew hle _ 3 _ (Nat.le_refl _) hg1).setNew hle _ 4 _ (Nat.le_refl _) hg1, rfl⟩
set_option maxRecDepth 20000 in
set_option maxHeartbeats 4000000 in
theorem rcall_pick (hI : IsS127 w0 w g L at0 false) (hb : Below w0.heap.size w0 w) (hB : By L) (hl : L.length ≤ 140737488355328) (ha : at0 < L.length) (hk : L.getD at0 0 = 3) (x : Int) (hr : rdL (L.drop at0) 1 = some x) :
    Calls Try.prog 69 #[.pointer (some ⟨g, 0, none⟩)] w (TPost w0 w g L (some (⟨3, { data := #[] }, 0, [], x⟩, 9)) at0) := by
  obtain ⟨PP, hPP⟩ : ∃ PP, TPost w0 w g L (some (⟨3, { data := #[] }, 0, [], x⟩, 9)) at0 = PP := ⟨_, rfl⟩
  rw [hPP]
  have HPP := Lib.hid hPP
  clear hPP
  have hgl := hI.lt
  have hle := hb.size
  have hR1 := (RT.refl hI hb).alloc (.cells #[.int .i64 0, .string { data := #[] }, .int .i64 0, .slice none 0 0, .int .i64 0] 128)
  have b2 := Blk.new w 128 #[.int .i64 0, .string { data := #[] }, .int .i64 0, .slice none 0 0, .int .i64 0]
  have hg1 : g ≠ w.heap.size := by omega
  have n1 := hg1.symm
  have HBy := Lib.hid hB
  have hx1 := byte_ok hR1.1 hR1.2.1 hB ha hl
  rw [hk] at hx1
  have HX1 := Lib.hid hx1
  clear hI hb hB hx1
  obtain ⟨W1, hW1⟩ : ∃ W1, W1 = w.alloc (.cells #[.int .i64 0, .string { data := #[] }, .int .i64 0, .slice none 0 0, .int .i64 0] 128) := ⟨_, rfl⟩
  rw [← hW1] at hR1 b2 HX1
  go_enter Try.func69, Try.ntmps69
  go_upto_region 1 with fail
  rw [← hW1]
  clear hW1
  go_wp2_with fail
  refine HX1.out.mono ?_
  rintro e w2 ⟨rfl, hR2⟩
  have b2 := Blk.keep b2 hR2.2.2 n1
  have hR2 := hR1.trans hR2
  clear HX1
  go_upto_region 2 with fail
  obtain ⟨q, hq⟩ : ∃ q, w2.heap.size = q := ⟨_, rfl⟩
  have b3 := Blk.new w2 128 #[.int .i64 3, .string { data := #[] }, .int .i64 0, .slice none 0 0, .int .i64 0]
  have hqw : w.heap.size < q := by have := b2.lt; omega
  rw [hq] at b3 ⊢
  have b2 := b2.below ((Below.refl _ w2).alloc (Nat.le_refl _) (.cells #[.int .i64 3, .string { data := #[] }, .int .i64 0, .slice none 0 0, .int .i64 0] 128)) b2.lt
  have hR3 := hR2.alloc (.cells #[.int .i64 3, .string { data := #[] }, .int .i64 0, .slice none 0 0, .int .i64 0] 128)
  generalize w2.alloc (.cells #[.int .i64 3, .string { data := #[] }, .int .i64 0, .slice none 0 0, .int .i64 0] 128) = W3 at b2 b3 hR3 ⊢
  clear hR2 hq hR1
  have hg2 : g ≠ q := by omega
  have n2 := hg2.symm
  have n3 : w.heap.size ≠ q := by omega
  have hqw' : w.heap.size ≤ q := by omega
  have hCw4 := Lib.hid (long_ok HBy.out hl at0 1 (by omega) x hr hR3.1 hR3.2.1)
  have y0 := b3.cell 0
  have y1 := b3.cell 1
  have y2 := b3.cell 2
  have y3 := b3.cell 3
  have y4 := b3.cell 4
  simp at y0 y1 y2 y3 y4
  go_wp2_with fail
  clear y0 y1 y2 y3 y4
  refine hCw4.out.mono ?_
  rintro _ w4 ⟨rfl, hR4⟩
  have b2 := Blk.keep b2 hR4.2.2 n1
  have b3 := Blk.keep b3 hR4.2.2 n2
  have hR4 := hR3.trans hR4
  clear hCw4 hR3
  have y0 := b3.cell 0
  have yf0 := b3.frozen 0
  have y1 := b3.cell 1
  have yf1 := b3.frozen 1
  have y2 := b3.cell 2
  have yf2 := b3.frozen 2
  have y3 := b3.cell 3
  have yf3 := b3.frozen 3
  have y4 := b3.cell 4
  have yf4 := b3.frozen 4
  simp at y0 y1 y2 y3 y4
  go_upto_region 16 with fail
  have hR4 := hR4.setNew hle q 4 (.int .i64 x) hqw' hg2
  have b2 : Blk (w4.setCell ⟨q, 4, none⟩ (.int .i64 x)) w.heap.size 128 #[.int .i64 0, .string { data := #[] }, .int .i64 0, .slice none 0 0, .int .i64 0] := b2.far n3 _
  have b3 : Blk (w4.setCell ⟨q, 4, none⟩ (.int .i64 x)) q 128 #[.int .i64 3, .string { data := #[] }, .int .i64 0, .slice none 0 0, .int .i64 x] := b3.set_ 4 _
  generalize w4.setCell ⟨q, 4, none⟩ (.int .i64 x) = W5 at hR4 b2 b3 ⊢
  clear y0 yf0 y1 yf1 y2 yf2 y3 yf3 y4 yf4
  have r0 := b2.cell 0
  have rf0 := b2.frozen 0
  have r1 := b2.cell 1
  have rf1 := b2.frozen 1
  have r2 := b2.cell 2
  have rf2 := b2.frozen 2
  have r3 := b2.cell 3
  have rf3 := b2.frozen 3
  have r4 := b2.cell 4
  have rf4 := b2.frozen 4
  simp at r0 r1 r2 r3 r4
  have y0 := b3.cell 0
  have y1 := b3.cell 1
  have y2 := b3.cell 2
  have y3 := b3.cell 3
  have y4 := b3.cell 4
  simp at y0 y1 y2 y3 y4
  obtain ⟨Az, cz, z0, z1, zf1, z2, zf2, zC, zl⟩ := rt_cells hR4.1
  go_wp2_with fail
  try simp only [Exit.inBlock, Exit.then]
  rw [← HPP.out]
  refine bodyPost_ret (results_cell_row rfl _ _ w.heap.size 128 #[.int .i64 3, .string { data := #[] }, .int .i64 0, .slice none 0 0, .int .i64 x] (0, 0) _ rfl (show Blk _ w.heap.size 128 #[.int .i64 3, .string { data := #[] }, .int .i64 0, .slice none 0 0, .int .i64 x] from (((((b2).set_ 0 _).set_ 1 _).set_ 2 _).set_ 3 _).set_ 4 _) Try.underlying128 rfl (by kernel_rfl)) rfl ?_
  exact ⟨⟨3, { data := #[] }, 0, [], x⟩, none, 0, _, _, rfl, Kd.R_nil _ _ _ _ _, (((((hR4).setNew hle _ 0 _ (Nat.le_refl _) hg1).setNew hle _ 1 _ (Nat.le_refl _) hg1).setNew hle _ 2 _ (Nat.le_refl _) hg1).setNew hle _ 3 _ (Nat.le_refl _) hg1).setNew hle _ 4 _ (Nat.le_refl _) hg1, ⟨rfl, rfl, rfl⟩⟩
set_option maxRecDepth 20000 in
set_option maxHeartbeats 4000000 in
theorem rcall_pick_bad (hI : IsS127 w0 w g L at0 false) (hb : Below w0.heap.size w0 w) (hB : By L) (hl : L.length ≤ 140737488355328) (ha : at0 < L.length) (hk : L.getD at0 0 = 3) (hr : rdL (L.drop at0) 1 = none) :
    Calls Try.prog 69 #[.pointer (some ⟨g, 0, none⟩)] w (TPost w0 w g L (none) at0) := by
  obtain ⟨PP, hPP⟩ : ∃ PP, TPost w0 w g L (none) at0 = PP := ⟨_, rfl⟩
  rw [hPP]
  have HPP := Lib.hid hPP
  clear hPP
  have hgl := hI.lt
  have hle := hb.size
  have hR1 := (RT.refl hI hb).alloc (.cells #[.int .i64 0, .string { data := #[] }, .int .i64 0, .slice none 0 0, .int .i64 0] 128)
  have b2 := Blk.new w 128 #[.int .i64 0, .string { data := #[] }, .int .i64 0, .slice none 0 0, .int .i64 0]
  have hg1 : g ≠ w.heap.size := by omega
  have n1 := hg1.symm
  have HBy := Lib.hid hB
  have hx1 := byte_ok hR1.1 hR1.2.1 hB ha hl
  rw [hk] at hx1
  have HX1 := Lib.hid hx1
  clear hI hb hB hx1
  obtain ⟨W1, hW1⟩ : ∃ W1, W1 = w.alloc (.cells #[.int .i64 0, .string { data := #[] }, .int .i64 0, .slice none 0 0, .int .i64 0] 128) := ⟨_, rfl⟩
  rw [← hW1] at hR1 b2 HX1
  go_enter Try.func69, Try.ntmps69
  go_upto_region 1 with fail
  rw [← hW1]
  clear hW1
  go_wp2_with fail
  refine HX1.out.mono ?_
  rintro e w2 ⟨rfl, hR2⟩
  have b2 := Blk.keep b2 hR2.2.2 n1
  have hR2 := hR1.trans hR2
  clear HX1
  go_upto_region 2 with fail
  obtain ⟨q, hq⟩ : ∃ q, w2.heap.size = q := ⟨_, rfl⟩
  have b3 := Blk.new w2 128 #[.int .i64 3, .string { data := #[] }, .int .i64 0, .slice none 0 0, .int .i64 0]
  have hqw : w.heap.size < q := by have := b2.lt; omega
  rw [hq] at b3 ⊢
  have b2 := b2.below ((Below.refl _ w2).alloc (Nat.le_refl _) (.cells #[.int .i64 3, .string { data := #[] }, .int .i64 0, .slice none 0 0, .int .i64 0] 128)) b2.lt
  have hR3 := hR2.alloc (.cells #[.int .i64 3, .string { data := #[] }, .int .i64 0, .slice none 0 0, .int .i64 0] 128)
  generalize w2.alloc (.cells #[.int .i64 3, .string { data := #[] }, .int .i64 0, .slice none 0 0, .int .i64 0] 128) = W3 at b2 b3 hR3 ⊢
  clear hR2 hq hR1
  have hg2 : g ≠ q := by omega
  have n2 := hg2.symm
  have n3 : w.heap.size ≠ q := by omega
  have hqw' : w.heap.size ≤ q := by omega
  have hCw4 := Lib.hid (long_bad HBy.out hl at0 1 (by omega) hr hR3.1 hR3.2.1)
  have y0 := b3.cell 0
  have y1 := b3.cell 1
  have y2 := b3.cell 2
  have y3 := b3.cell 3
  have y4 := b3.cell 4
  simp at y0 y1 y2 y3 y4
  go_wp2_with fail
  clear y0 y1 y2 y3 y4
  refine hCw4.out.mono ?_
  rintro _ w4 ⟨x, a1, rfl, hR4⟩
  have b2 := Blk.keep b2 hR4.2.2 n1
  have b3 := Blk.keep b3 hR4.2.2 n2
  have hR4 := hR3.trans hR4
  clear hCw4 hR3
  have y0 := b3.cell 0
  have yf0 := b3.frozen 0
  have y1 := b3.cell 1
  have yf1 := b3.frozen 1
  have y2 := b3.cell 2
  have yf2 := b3.frozen 2
  have y3 := b3.cell 3
  have yf3 := b3.frozen 3
  have y4 := b3.cell 4
  have yf4 := b3.frozen 4
  simp at y0 y1 y2 y3 y4
  go_upto_region 16 with fail
  have hR4 := hR4.setNew hle q 4 (.int .i64 x) hqw' hg2
  have b2 : Blk (w4.setCell ⟨q, 4, none⟩ (.int .i64 x)) w.heap.size 128 #[.int .i64 0, .string { data := #[] }, .int .i64 0, .slice none 0 0, .int .i64 0] := b2.far n3 _
  have b3 : Blk (w4.setCell ⟨q, 4, none⟩ (.int .i64 x)) q 128 #[.int .i64 3, .string { data := #[] }, .int .i64 0, .slice none 0 0, .int .i64 x] := b3.set_ 4 _
  generalize w4.setCell ⟨q, 4, none⟩ (.int .i64 x) = W5 at hR4 b2 b3 ⊢
  clear y0 yf0 y1 yf1 y2 yf2 y3 yf3 y4 yf4
  have r0 := b2.cell 0
  have rf0 := b2.frozen 0
  have r1 := b2.cell 1
  have rf1 := b2.frozen 1
  have r2 := b2.cell 2
  have rf2 := b2.frozen 2
  have r3 := b2.cell 3
  have rf3 := b2.frozen 3
  have r4 := b2.cell 4
  have rf4 := b2.frozen 4
  simp at r0 r1 r2 r3 r4
  have y0 := b3.cell 0
  have y1 := b3.cell 1
  have y2 := b3.cell 2
  have y3 := b3.cell 3
  have y4 := b3.cell 4
  simp at y0 y1 y2 y3 y4
  obtain ⟨Az, cz, z0, z1, zf1, z2, zf2, zC, zl⟩ := rt_cells hR4.1
  go_wp2_with fail
  try simp only [Exit.inBlock, Exit.then]
  rw [← HPP.out]
  refine bodyPost_ret (results_cell_row rfl _ _ w.heap.size 128 #[.int .i64 3, .string { data := #[] }, .int .i64 0, .slice none 0 0, .int .i64 x] (0, 0) _ rfl (show Blk _ w.heap.size 128 #[.int .i64 3, .string { data := #[] }, .int .i64 0, .slice none 0 0, .int .i64 x] from (((((b2).set_ 0 _).set_ 1 _).set_ 2 _).set_ 3 _).set_ 4 _) Try.underlying128 rfl (by kernel_rfl)) rfl ?_
  exact ⟨⟨3, { data := #[] }, 0, [], x⟩, none, 0, _, _, rfl, Kd.R_nil _ _ _ _ _, (((((hR4).setNew hle _ 0 _ (Nat.le_refl _) hg1).setNew hle _ 1 _ (Nat.le_refl _) hg1).setNew hle _ 2 _ (Nat.le_refl _) hg1).setNew hle _ 3 _ (Nat.le_refl _) hg1).setNew hle _ 4 _ (Nat.le_refl _) hg1, rfl⟩
set_option maxRecDepth 20000 in
set_option maxHeartbeats 4000000 in
theorem rcall_send_bad1 (hI : IsS127 w0 w g L at0 false) (hb : Below w0.heap.size w0 w) (hB : By L) (hl : L.length ≤ 140737488355328) (ha : at0 < L.length) (hk : L.getD at0 0 = 2) (hr : rdL (L.drop at0) 1 = none) :
    Calls Try.prog 69 #[.pointer (some ⟨g, 0, none⟩)] w (TPost w0 w g L (none) at0) := by
  obtain ⟨PP, hPP⟩ : ∃ PP, TPost w0 w g L (none) at0 = PP := ⟨_, rfl⟩
  rw [hPP]
  have HPP := Lib.hid hPP
  clear hPP
  have hgl := hI.lt
  have hle := hb.size
  have hR1 := (RT.refl hI hb).alloc (.cells #[.int .i64 0, .string { data := #[] }, .int .i64 0, .slice none 0 0, .int .i64 0] 128)
  have b2 := Blk.new w 128 #[.int .i64 0, .string { data := #[] }, .int .i64 0, .slice none 0 0, .int .i64 0]
  have hg1 : g ≠ w.heap.size := by omega
  have n1 := hg1.symm
  have HBy := Lib.hid hB
  have hx1 := byte_ok hR1.1 hR1.2.1 hB ha hl
  rw [hk] at hx1
  have HX1 := Lib.hid hx1
  clear hI hb hB hx1
  obtain ⟨W1, hW1⟩ : ∃ W1, W1 = w.alloc (.cells #[.int .i64 0, .string { data := #[] }, .int .i64 0, .slice none 0 0, .int .i64 0] 128) := ⟨_, rfl⟩
  rw [← hW1] at hR1 b2 HX1
  go_enter Try.func69, Try.ntmps69
  go_upto_region 1 with fail
  rw [← hW1]
  clear hW1
  go_wp2_with fail
  refine HX1.out.mono ?_
  rintro e w2 ⟨rfl, hR2⟩
  have b2 := Blk.keep b2 hR2.2.2 n1
  have hR2 := hR1.trans hR2
  clear HX1
  go_upto_region 2 with fail
  obtain ⟨q, hq⟩ : ∃ q, w2.heap.size = q := ⟨_, rfl⟩
  have b3 := Blk.new w2 128 #[.int .i64 2, .string { data := #[] }, .int .i64 0, .slice none 0 0, .int .i64 0]
  have hqw : w.heap.size < q := by have := b2.lt; omega
  rw [hq] at b3 ⊢
  have b2 := b2.below ((Below.refl _ w2).alloc (Nat.le_refl _) (.cells #[.int .i64 2, .string { data := #[] }, .int .i64 0, .slice none 0 0, .int .i64 0] 128)) b2.lt
  have hR3 := hR2.alloc (.cells #[.int .i64 2, .string { data := #[] }, .int .i64 0, .slice none 0 0, .int .i64 0] 128)
  generalize w2.alloc (.cells #[.int .i64 2, .string { data := #[] }, .int .i64 0, .slice none 0 0, .int .i64 0] 128) = W3 at b2 b3 hR3 ⊢
  clear hR2 hq hR1
  have hg2 : g ≠ q := by omega
  have n2 := hg2.symm
  have n3 : w.heap.size ≠ q := by omega
  have hqw' : w.heap.size ≤ q := by omega
  have hCw4 := Lib.hid (long_bad HBy.out hl at0 1 (by omega) hr hR3.1 hR3.2.1)
  have y0 := b3.cell 0
  have y1 := b3.cell 1
  have y2 := b3.cell 2
  have y3 := b3.cell 3
  have y4 := b3.cell 4
  simp at y0 y1 y2 y3 y4
  go_wp2_with fail
  clear y0 y1 y2 y3 y4
  refine hCw4.out.mono ?_
  rintro _ w4 ⟨x, a1, rfl, hR4⟩
  have b2 := Blk.keep b2 hR4.2.2 n1
  have b3 := Blk.keep b3 hR4.2.2 n2
  have hR4 := hR3.trans hR4
  clear hCw4 hR3
  have y0 := b3.cell 0
  have yf0 := b3.frozen 0
  have y1 := b3.cell 1
  have yf1 := b3.frozen 1
  have y2 := b3.cell 2
  have yf2 := b3.frozen 2
  have y3 := b3.cell 3
  have yf3 := b3.frozen 3
  have y4 := b3.cell 4
  have yf4 := b3.frozen 4
  simp at y0 y1 y2 y3 y4
  go_upto_region 6 with fail
  have hR4 := hR4.setNew hle q 2 (.int .i64 x) hqw' hg2
  have b2 : Blk (w4.setCell ⟨q, 2, none⟩ (.int .i64 x)) w.heap.size 128 #[.int .i64 0, .string { data := #[] }, .int .i64 0, .slice none 0 0, .int .i64 0] := b2.far n3 _
  have b3 : Blk (w4.setCell ⟨q, 2, none⟩ (.int .i64 x)) q 128 #[.int .i64 2, .string { data := #[] }, .int .i64 x, .slice none 0 0, .int .i64 0] := b3.set_ 2 _
  generalize w4.setCell ⟨q, 2, none⟩ (.int .i64 x) = W5 at hR4 b2 b3 ⊢
  clear y0 yf0 y1 yf1 y2 yf2 y3 yf3 y4 yf4
  have hCw6 := Lib.hid (name_was a1 hR4.1 hR4.2.1)
  go_wp2_with fail
  refine hCw6.out.mono ?_
  rintro _ w6 ⟨rfl, hR6⟩
  have b2 := Blk.keep b2 hR6.2.2 n1
  have b3 := Blk.keep b3 hR6.2.2 n2
  have hR6 := hR4.trans hR6
  clear hCw6 hR4
  have y0 := b3.cell 0
  have yf0 := b3.frozen 0
  have y1 := b3.cell 1
  have yf1 := b3.frozen 1
  have y2 := b3.cell 2
  have yf2 := b3.frozen 2
  have y3 := b3.cell 3
  have yf3 := b3.frozen 3
  have y4 := b3.cell 4
  have yf4 := b3.frozen 4
  simp at y0 y1 y2 y3 y4
  go_upto_region 7 with fail
  have hR6 := hR6.setNew hle q 1 (.string { data := #[] }) hqw' hg2
  have b2 : Blk (w6.setCell ⟨q, 1, none⟩ (.string { data := #[] })) w.heap.size 128 #[.int .i64 0, .string { data := #[] }, .int .i64 0, .slice none 0 0, .int .i64 0] := b2.far n3 _
  have b3 : Blk (w6.setCell ⟨q, 1, none⟩ (.string { data := #[] })) q 128 #[.int .i64 2, .string { data := #[] }, .int .i64 x, .slice none 0 0, .int .i64 0] := b3.set_ 1 _
  generalize w6.setCell ⟨q, 1, none⟩ (.string { data := #[] }) = W7 at hR6 b2 b3 ⊢
  clear y0 yf0 y1 yf1 y2 yf2 y3 yf3 y4 yf4
  obtain ⟨Az, cz, z0, z1, zf1, z2, zf2, zC, zl⟩ := rt_cells hR6.1
  go_upto_region 16 with fail
  clear z0 z1 zf1 z2 zf2 zC zl
  have r0 := b2.cell 0
  have rf0 := b2.frozen 0
  have r1 := b2.cell 1
  have rf1 := b2.frozen 1
  have r2 := b2.cell 2
  have rf2 := b2.frozen 2
  have r3 := b2.cell 3
  have rf3 := b2.frozen 3
  have r4 := b2.cell 4
  have rf4 := b2.frozen 4
  simp at r0 r1 r2 r3 r4
  have y0 := b3.cell 0
  have y1 := b3.cell 1
  have y2 := b3.cell 2
  have y3 := b3.cell 3
  have y4 := b3.cell 4
  simp at y0 y1 y2 y3 y4
  obtain ⟨Az, cz, z0, z1, zf1, z2, zf2, zC, zl⟩ := rt_cells hR6.1
  go_wp2_with fail
  try simp only [Exit.inBlock, Exit.then]
  rw [← HPP.out]
  refine bodyPost_ret (results_cell_row rfl _ _ w.heap.size 128 #[.int .i64 2, .string { data := #[] }, .int .i64 x, .slice none 0 0, .int .i64 0] (0, 0) _ rfl (show Blk _ w.heap.size 128 #[.int .i64 2, .string { data := #[] }, .int .i64 x, .slice none 0 0, .int .i64 0] from (((((b2).set_ 0 _).set_ 1 _).set_ 2 _).set_ 3 _).set_ 4 _) Try.underlying128 rfl (by kernel_rfl)) rfl ?_
  exact ⟨⟨2, { data := #[] }, x, [], 0⟩, none, 0, _, _, rfl, Kd.R_nil _ _ _ _ _, (((((hR6).setNew hle _ 0 _ (Nat.le_refl _) hg1).setNew hle _ 1 _ (Nat.le_refl _) hg1).setNew hle _ 2 _ (Nat.le_refl _) hg1).setNew hle _ 3 _ (Nat.le_refl _) hg1).setNew hle _ 4 _ (Nat.le_refl _) hg1, rfl⟩
set_option maxRecDepth 20000 in
set_option maxHeartbeats 4000000 in
theorem rcall_send_bad2 (hI : IsS127 w0 w g L at0 false) (hb : Below w0.heap.size w0 w) (hB : By L) (hl : L.length ≤ 140737488355328) (ha : at0 < L.length) (hk : L.getD at0 0 = 2) (x : Int) (hr : rdL (L.drop at0) 1 = some x) (hr2 : rdW (L.drop at0) 9 = none) :
    Calls Try.prog 69 #[.pointer (some ⟨g, 0, none⟩)] w (TPost w0 w g L (none) at0) := by
  obtain ⟨PP, hPP⟩ : ∃ PP, TPost w0 w g L (none) at0 = PP := ⟨_, rfl⟩
  rw [hPP]
  have HPP := Lib.hid hPP
  clear hPP
  have hgl := hI.lt
  have hle := hb.size
  have hR1 := (RT.refl hI hb).alloc (.cells #[.int .i64 0, .string { data := #[] }, .int .i64 0, .slice none 0 0, .int .i64 0] 128)
  have b2 := Blk.new w 128 #[.int .i64 0, .string { data := #[] }, .int .i64 0, .slice none 0 0, .int .i64 0]
  have hg1 : g ≠ w.heap.size := by omega
  have n1 := hg1.symm
  have HBy := Lib.hid hB
  have hx1 := byte_ok hR1.1 hR1.2.1 hB ha hl
  rw [hk] at hx1
  have HX1 := Lib.hid hx1
  clear hI hb hB hx1
  have hlen9 : at0 + 9 ≤ L.length := by have := rdL_le hr; rw [List.length_drop] at this; omega
  obtain ⟨W1, hW1⟩ : ∃ W1, W1 = w.alloc (.cells #[.int .i64 0, .string { data := #[] }, .int .i64 0, .slice none 0 0, .int .i64 0] 128) := ⟨_, rfl⟩
  rw [← hW1] at hR1 b2 HX1
  go_enter Try.func69, Try.ntmps69
  go_upto_region 1 with fail
  rw [← hW1]
  clear hW1
  go_wp2_with fail
  refine HX1.out.mono ?_
  rintro e w2 ⟨rfl, hR2⟩
  have b2 := Blk.keep b2 hR2.2.2 n1
  have hR2 := hR1.trans hR2
  clear HX1
  go_upto_region 2 with fail
  obtain ⟨q, hq⟩ : ∃ q, w2.heap.size = q := ⟨_, rfl⟩
  have b3 := Blk.new w2 128 #[.int .i64 2, .string { data := #[] }, .int .i64 0, .slice none 0 0, .int .i64 0]
  have hqw : w.heap.size < q := by have := b2.lt; omega
  rw [hq] at b3 ⊢
  have b2 := b2.below ((Below.refl _ w2).alloc (Nat.le_refl _) (.cells #[.int .i64 2, .string { data := #[] }, .int .i64 0, .slice none 0 0, .int .i64 0] 128)) b2.lt
  have hR3 := hR2.alloc (.cells #[.int .i64 2, .string { data := #[] }, .int .i64 0, .slice none 0 0, .int .i64 0] 128)
  generalize w2.alloc (.cells #[.int .i64 2, .string { data := #[] }, .int .i64 0, .slice none 0 0, .int .i64 0] 128) = W3 at b2 b3 hR3 ⊢
  clear hR2 hq hR1
  have hg2 : g ≠ q := by omega
  have n2 := hg2.symm
  have n3 : w.heap.size ≠ q := by omega
  have hqw' : w.heap.size ≤ q := by omega
  have hCw4 := Lib.hid (long_ok HBy.out hl at0 1 (by omega) x hr hR3.1 hR3.2.1)
  have y0 := b3.cell 0
  have y1 := b3.cell 1
  have y2 := b3.cell 2
  have y3 := b3.cell 3
  have y4 := b3.cell 4
  simp at y0 y1 y2 y3 y4
  go_wp2_with fail
  clear y0 y1 y2 y3 y4
  refine hCw4.out.mono ?_
  rintro _ w4 ⟨rfl, hR4⟩
  have b2 := Blk.keep b2 hR4.2.2 n1
  have b3 := Blk.keep b3 hR4.2.2 n2
  have hR4 := hR3.trans hR4
  clear hCw4 hR3
  have y0 := b3.cell 0
  have yf0 := b3.frozen 0
  have y1 := b3.cell 1
  have yf1 := b3.frozen 1
  have y2 := b3.cell 2
  have yf2 := b3.frozen 2
  have y3 := b3.cell 3
  have yf3 := b3.frozen 3
  have y4 := b3.cell 4
  have yf4 := b3.frozen 4
  simp at y0 y1 y2 y3 y4
  go_upto_region 6 with fail
  have hR4 := hR4.setNew hle q 2 (.int .i64 x) hqw' hg2
  have b2 : Blk (w4.setCell ⟨q, 2, none⟩ (.int .i64 x)) w.heap.size 128 #[.int .i64 0, .string { data := #[] }, .int .i64 0, .slice none 0 0, .int .i64 0] := b2.far n3 _
  have b3 : Blk (w4.setCell ⟨q, 2, none⟩ (.int .i64 x)) q 128 #[.int .i64 2, .string { data := #[] }, .int .i64 x, .slice none 0 0, .int .i64 0] := b3.set_ 2 _
  generalize w4.setCell ⟨q, 2, none⟩ (.int .i64 x) = W5 at hR4 b2 b3 ⊢
  clear y0 yf0 y1 yf1 y2 yf2 y3 yf3 y4 yf4
  have hCw6 := Lib.hid (name_bad HBy.out hl at0 9 hlen9 hr2 hR4.1 hR4.2.1)
  go_wp2_with fail
  refine hCw6.out.mono ?_
  rintro _ w6 ⟨s, a1, rfl, hR6⟩
  have b2 := Blk.keep b2 hR6.2.2 n1
  have b3 := Blk.keep b3 hR6.2.2 n2
  have hR6 := hR4.trans hR6
  clear hCw6 hR4
  have y0 := b3.cell 0
  have yf0 := b3.frozen 0
  have y1 := b3.cell 1
  have yf1 := b3.frozen 1
  have y2 := b3.cell 2
  have yf2 := b3.frozen 2
  have y3 := b3.cell 3
  have yf3 := b3.frozen 3
  have y4 := b3.cell 4
  have yf4 := b3.frozen 4
  simp at y0 y1 y2 y3 y4
  go_upto_region 7 with fail
  have hR6 := hR6.setNew hle q 1 (.string s) hqw' hg2
  have b2 : Blk (w6.setCell ⟨q, 1, none⟩ (.string s)) w.heap.size 128 #[.int .i64 0, .string { data := #[] }, .int .i64 0, .slice none 0 0, .int .i64 0] := b2.far n3 _
  have b3 : Blk (w6.setCell ⟨q, 1, none⟩ (.string s)) q 128 #[.int .i64 2, .string s, .int .i64 x, .slice none 0 0, .int .i64 0] := b3.set_ 1 _
  generalize w6.setCell ⟨q, 1, none⟩ (.string s) = W7 at hR6 b2 b3 ⊢
  clear y0 yf0 y1 yf1 y2 yf2 y3 yf3 y4 yf4
  obtain ⟨Az, cz, z0, z1, zf1, z2, zf2, zC, zl⟩ := rt_cells hR6.1
  go_upto_region 16 with fail
  clear z0 z1 zf1 z2 zf2 zC zl
  have r0 := b2.cell 0
  have rf0 := b2.frozen 0
  have r1 := b2.cell 1
  have rf1 := b2.frozen 1
  have r2 := b2.cell 2
  have rf2 := b2.frozen 2
  have r3 := b2.cell 3
  have rf3 := b2.frozen 3
  have r4 := b2.cell 4
  have rf4 := b2.frozen 4
  simp at r0 r1 r2 r3 r4
  have y0 := b3.cell 0
  have y1 := b3.cell 1
  have y2 := b3.cell 2
  have y3 := b3.cell 3
  have y4 := b3.cell 4
  simp at y0 y1 y2 y3 y4
  obtain ⟨Az, cz, z0, z1, zf1, z2, zf2, zC, zl⟩ := rt_cells hR6.1
  go_wp2_with fail
  try simp only [Exit.inBlock, Exit.then]
  rw [← HPP.out]
  refine bodyPost_ret (results_cell_row rfl _ _ w.heap.size 128 #[.int .i64 2, .string s, .int .i64 x, .slice none 0 0, .int .i64 0] (0, 0) _ rfl (show Blk _ w.heap.size 128 #[.int .i64 2, .string s, .int .i64 x, .slice none 0 0, .int .i64 0] from (((((b2).set_ 0 _).set_ 1 _).set_ 2 _).set_ 3 _).set_ 4 _) Try.underlying128 rfl (by kernel_rfl)) rfl ?_
  exact ⟨⟨2, s, x, [], 0⟩, none, 0, _, _, rfl, Kd.R_nil _ _ _ _ _, (((((hR6).setNew hle _ 0 _ (Nat.le_refl _) hg1).setNew hle _ 1 _ (Nat.le_refl _) hg1).setNew hle _ 2 _ (Nat.le_refl _) hg1).setNew hle _ 3 _ (Nat.le_refl _) hg1).setNew hle _ 4 _ (Nat.le_refl _) hg1, rfl⟩
end
end Go.Proofs.Ytlbfnnngemonoaa.Wir
namespace Go.Proofs.Ytlbfnnngemonoaa.Wir
open Go.RowKit Go.Proofs.Ytlbfnnngemonoaa.PWireReads
open Go.Proofs.Ytlbfnnngemonoaa.Fat (Blk Chg Off chg_opt)
open Go.Proofs.YtlbfnnngemonoaaW.PrintWords Go.Proofs.YtlbfnnngemonoaaW.PrintLast Go.Proofs.YtlbfnnngemonoaaW.PrintMore
set_option linter.unusedVariables false
set_option linter.unusedSimpArgs false
section
variable {w0 w : World} {g at0 : Nat} {L : List Int} {bad : Bool}
set_option maxRecDepth 20000 in
set_option maxHeartbeats 4000000 in
theorem rcall_send_bad3 (hI : IsS127 w0 w g L at0 false) (hb : Below w0.heap.size w0 w) (hB : By L) (hl : L.length ≤ 140737488355328) (ha : at0 < L.length) (hk : L.getD at0 0 = 2) (x : Int) (hr : rdL (L.drop at0) 1 = some x) (s : ByteArray) (n : Nat) (hr2 : rdW (L.drop at0) 9 = some (s, n)) (hr3 : rdP (L.drop (at0 + n)) = none) :
    Calls Try.prog 69 #[.pointer (some ⟨g, 0, none⟩)] w (TPost w0 w g L (none) at0) := by
  obtain ⟨PP, hPP⟩ : ∃ PP, TPost w0 w g L (none) at0 = PP := ⟨_, rfl⟩
  rw [hPP]
  have HPP := Lib.hid hPP
  clear hPP
  have hgl := hI.lt
  have hle := hb.size
  have hR1 := (RT.refl hI hb).alloc (.cells #[.int .i64 0, .string { data := #[] }, .int .i64 0, .slice none 0 0, .int .i64 0] 128)
  have b2 := Blk.new w 128 #[.int .i64 0, .string { data := #[] }, .int .i64 0, .slice none 0 0, .int .i64 0]
  have hg1 : g ≠ w.heap.size := by omega
  have n1 := hg1.symm
  have HBy := Lib.hid hB
  have hx1 := byte_ok hR1.1 hR1.2.1 hB ha hl
  rw [hk] at hx1
  have HX1 := Lib.hid hx1
  clear hI hb hB hx1
  have hlen9 : at0 + 9 ≤ L.length := by have := rdL_le hr; rw [List.length_drop] at this; omega
  have hnL : at0 + n ≤ L.length := by have := (rdW_le hr2).1; rw [List.length_drop] at this; omega
  obtain ⟨z9, hz⟩ : ∃ z9, at0 + n = z9 := ⟨_, rfl⟩
  rw [hz] at hr3 hnL
  have HZ := Lib.hid hz
  clear hz
  obtain ⟨W1, hW1⟩ : ∃ W1, W1 = w.alloc (.cells #[.int .i64 0, .string { data := #[] }, .int .i64 0, .slice none 0 0, .int .i64 0] 128) := ⟨_, rfl⟩
  rw [← hW1] at hR1 b2 HX1
  go_enter Try.func69, Try.ntmps69
  go_upto_region 1 with fail
  rw [← hW1]
  clear hW1
  go_wp2_with fail
  refine HX1.out.mono ?_
  rintro e w2 ⟨rfl, hR2⟩
  have b2 := Blk.keep b2 hR2.2.2 n1
  have hR2 := hR1.trans hR2
  clear HX1
  go_upto_region 2 with fail
  obtain ⟨q, hq⟩ : ∃ q, w2.heap.size = q := ⟨_, rfl⟩
  have b3 := Blk.new w2 128 #[.int .i64 2, .string { data := #[] }, .int .i64 0, .slice none 0 0, .int .i64 0]
  have hqw : w.heap.size < q := by have := b2.lt; omega
  rw [hq] at b3 ⊢
  have b2 := b2.below ((Below.refl _ w2).alloc (Nat.le_refl _) (.cells #[.int .i64 2, .string { data := #[] }, .int .i64 0, .slice none 0 0, .int .i64 0] 128)) b2.lt
  have hR3 := hR2.alloc (.cells #[.int .i64 2, .string { data := #[] }, .int .i64 0, .slice none 0 0, .int .i64 0] 128)
  generalize w2.alloc (.cells #[.int .i64 2, .string { data := #[] }, .int .i64 0, .slice none 0 0, .int .i64 0] 128) = W3 at b2 b3 hR3 ⊢
  clear hR2 hq hR1
  have hg2 : g ≠ q := by omega
  have n2 := hg2.symm
  have n3 : w.heap.size ≠ q := by omega
  have hqw' : w.heap.size ≤ q := by omega
  have hCw4 := Lib.hid (long_ok HBy.out hl at0 1 (by omega) x hr hR3.1 hR3.2.1)
  have y0 := b3.cell 0
  have y1 := b3.cell 1
  have y2 := b3.cell 2
  have y3 := b3.cell 3
  have y4 := b3.cell 4
  simp at y0 y1 y2 y3 y4
  go_wp2_with fail
  clear y0 y1 y2 y3 y4
  refine hCw4.out.mono ?_
  rintro _ w4 ⟨rfl, hR4⟩
  have b2 := Blk.keep b2 hR4.2.2 n1
  have b3 := Blk.keep b3 hR4.2.2 n2
  have hR4 := hR3.trans hR4
  clear hCw4 hR3
  have y0 := b3.cell 0
  have yf0 := b3.frozen 0
  have y1 := b3.cell 1
  have yf1 := b3.frozen 1
  have y2 := b3.cell 2
  have yf2 := b3.frozen 2
  have y3 := b3.cell 3
  have yf3 := b3.frozen 3
  have y4 := b3.cell 4
  have yf4 := b3.frozen 4
  simp at y0 y1 y2 y3 y4
  go_upto_region 6 with fail
  have hR4 := hR4.setNew hle q 2 (.int .i64 x) hqw' hg2
  have b2 : Blk (w4.setCell ⟨q, 2, none⟩ (.int .i64 x)) w.heap.size 128 #[.int .i64 0, .string { data := #[] }, .int .i64 0, .slice none 0 0, .int .i64 0] := b2.far n3 _
  have b3 : Blk (w4.setCell ⟨q, 2, none⟩ (.int .i64 x)) q 128 #[.int .i64 2, .string { data := #[] }, .int .i64 x, .slice none 0 0, .int .i64 0] := b3.set_ 2 _
  generalize w4.setCell ⟨q, 2, none⟩ (.int .i64 x) = W5 at hR4 b2 b3 ⊢
  clear y0 yf0 y1 yf1 y2 yf2 y3 yf3 y4 yf4
  have hCw6 := Lib.hid (name_ok HBy.out hl at0 9 hlen9 s n hr2 hR4.1 hR4.2.1)
  go_wp2_with fail
  refine hCw6.out.mono ?_
  rintro _ w6 ⟨rfl, hR6⟩
  have b2 := Blk.keep b2 hR6.2.2 n1
  have b3 := Blk.keep b3 hR6.2.2 n2
  have hR6 := hR4.trans hR6
  clear hCw6 hR4
  rw [HZ.out] at hR6
  have y0 := b3.cell 0
  have yf0 := b3.frozen 0
  have y1 := b3.cell 1
  have yf1 := b3.frozen 1
  have y2 := b3.cell 2
  have yf2 := b3.frozen 2
  have y3 := b3.cell 3
  have yf3 := b3.frozen 3
  have y4 := b3.cell 4
  have yf4 := b3.frozen 4
  simp at y0 y1 y2 y3 y4
  go_upto_region 7 with fail
  have hR6 := hR6.setNew hle q 1 (.string s) hqw' hg2
  have b2 : Blk (w6.setCell ⟨q, 1, none⟩ (.string s)) w.heap.size 128 #[.int .i64 0, .string { data := #[] }, .int .i64 0, .slice none 0 0, .int .i64 0] := b2.far n3 _
  have b3 : Blk (w6.setCell ⟨q, 1, none⟩ (.string s)) q 128 #[.int .i64 2, .string s, .int .i64 x, .slice none 0 0, .int .i64 0] := b3.set_ 1 _
  generalize w6.setCell ⟨q, 1, none⟩ (.string s) = W7 at hR6 b2 b3 ⊢
  clear y0 yf0 y1 yf1 y2 yf2 y3 yf3 y4 yf4
  obtain ⟨Az, cz, z0, z1, zf1, z2, zf2, zC, zl⟩ := rt_cells hR6.1
  go_upto_region 8 with fail
  clear z0 z1 zf1 z2 zf2
  obtain ⟨Ar, cr, hblk, _, zC', zl'⟩ := hR6.1
  clear zC zl
  obtain ⟨A1, c1, hcut, hc1, hC1⟩ := cutBy Ar cr L w0 zC' zl' z9 hnL
  have hl2 : (L.drop z9).length ≤ 140737488355328 := by rw [List.length_drop]; omega
  have HLEN : Hid ((L.drop z9).length + z9 = L.length) := Lib.hid (by rw [List.length_drop]; omega)
  have hB2 := HBy.out.drop z9
  generalize L.drop z9 = l2 at hcut hc1 hC1 hl2 hB2 hr3 HLEN
  have HR3 := Lib.hid hr3
  have HC1 := Lib.hid hC1
  have HB2 := Lib.hid hB2
  have HL2 := Lib.hid hl2
  have HC1' := Lib.hid hc1
  clear hC1 hB2 hl2 hr3 hc1 hr hr2 zC' zl'
  have hblk : Blk W7 g 127 #[.slice Ar L.length cr, .int .i64 (z9 : Int), .bool false] := hblk
  refine start_ (n := 12) (S := fun w' => Blk w' g 127 #[.slice Ar L.length cr, .int .i64 (z9 : Int), .bool false]) (ds := []) #[false, false, false, false, false, false, false, false, false, false, false, false] (by kernel_rfl) rfl rfl hblk.drew (fun hHeld => ?_)
  refine with_tabW tab69 bits69 (fun HT_ HW_ => ?_)
  have hR7 := hR6.more 1
  have b2 := Lib.hid b2.drew
  have b3 := Lib.hid b3.drew
  have hR7 : RT w0 w W7.drew g L z9 false := hR7
  generalize W7.drew = W8 at hHeld hR7 b2 b3 ⊢
  have hR7 := Lib.hid hR7
  clear hR6
  refine pure_ (i := 0) (N := some 30) (v := ?_) (a' := ?_) #[true, false, false, false, false, false, false, false, false, false, false, false] rfl rfl (any_of HT_.out (by kernel_rfl)) (fun _ _ _ h => h) (Or.inl ⟨by rfl, ?_⟩) ?_ ?_
  rotate_left
  · intro w'
    go_simp
    with_reducible rfl
  rotate_left
  · simp only [Act.put, List.setIfInBounds_toArray, List.set_cons_zero, List.set_cons_succ, i64_w, i32_w]
    rfl
  refine pure_ (i := 1) (N := some 31) (v := ?_) (a' := ?_) #[true, true, false, false, false, false, false, false, false, false, false, false] rfl rfl (any_of HT_.out (by kernel_rfl)) (fun _ _ _ h => h) (Or.inl ⟨by rfl, ?_⟩) ?_ ?_
  rotate_left
  · intro w'
    go_simp
    with_reducible rfl
  rotate_left
  · simp only [Act.put, List.setIfInBounds_toArray, List.set_cons_zero, List.set_cons_succ, i64_w, i32_w]
    rfl
  refine pure_ (i := 2) (N := some 32) (v := ?_) (a' := ?_) #[true, true, true, false, false, false, false, false, false, false, false, false] rfl rfl (any_of HT_.out (by kernel_rfl)) (fun _ _ _ h => h) (Or.inl ⟨by rfl, ?_⟩) ?_ ?_
  rotate_left
  · intro w'
    go_simp
    with_reducible rfl
  rotate_left
  · simp only [Act.put, List.setIfInBounds_toArray, List.set_cons_zero, List.set_cons_succ, i64_w, i32_w]
    rfl
  refine take_ (i := 3) (N := some 33) (v := ?_) (a' := ?_) #[true, true, true, true, false, false, false, false, false, false, false, false] rfl rfl (take_ofW HT_.out HW_.out (by kernel_rfl)) (fun _ _ _ h => h) (Or.inl ⟨by rfl, ?_⟩) hHeld ?_ ?_
  rotate_left
  · intro w' HS_
    have s0 := HS_.cell 0
    have s1 := HS_.cell 1
    simp at s0 s1
    go_simp
    with_reducible rfl
  rotate_left
  · simp only [Act.put, List.setIfInBounds_toArray, List.set_cons_zero, List.set_cons_succ, i64_w, i32_w]
    rfl
  refine pure_ (i := 4) (N := some 34) (v := ?_) (a' := ?_) #[true, true, true, true, true, false, false, false, false, false, false, false] rfl rfl (any_of HT_.out (by kernel_rfl)) (fun _ _ _ h => h) (Or.inl ⟨by rfl, ?_⟩) ?_ ?_
  rotate_left
  · intro w'
    go_simp
    with_reducible rfl
  rotate_left
  · simp only [Act.put, List.setIfInBounds_toArray, List.set_cons_zero, List.set_cons_succ, i64_w, i32_w]
    rfl
  refine pure_ (i := 5) (N := some 35) (v := ?_) (a' := ?_) #[true, true, true, true, true, true, false, false, false, false, false, false] rfl rfl (any_of HT_.out (by kernel_rfl)) (fun _ _ _ h => h) (Or.inl ⟨by rfl, ?_⟩) ?_ ?_
  rotate_left
  · intro w'
    go_simp
    with_reducible rfl
  rotate_left
  · simp only [Act.put, List.setIfInBounds_toArray, List.set_cons_zero, List.set_cons_succ, i64_w, i32_w]
    rfl
  refine pure_ (i := 6) (N := some 36) (v := ?_) (a' := ?_) #[true, true, true, true, true, true, true, false, false, false, false, false] rfl rfl (any_of HT_.out (by kernel_rfl)) (fun _ _ _ h => h) (Or.inl ⟨by rfl, ?_⟩) ?_ ?_
  rotate_left
  · intro w'
    go_simp
    with_reducible rfl
  rotate_left
  · simp only [Act.put, List.setIfInBounds_toArray, List.set_cons_zero, List.set_cons_succ, i64_w, i32_w]
    rfl
  refine take_ (i := 7) (N := some 37) (v := ?_) (a' := ?_) #[true, true, true, true, true, true, true, true, false, false, false, false] rfl rfl (take_ofW HT_.out HW_.out (by kernel_rfl)) (fun _ _ _ h => h) (Or.inl ⟨by rfl, ?_⟩) hHeld ?_ ?_
  rotate_left
  · intro w' HS_
    have s0 := HS_.cell 0
    have s1 := HS_.cell 1
    simp at s0 s1
    go_simp
    with_reducible rfl
  rotate_left
  · simp only [Act.put, List.setIfInBounds_toArray, List.set_cons_zero, List.set_cons_succ, i64_w, i32_w]
    rfl
  refine pure_ (i := 8) (N := some 38) (v := ?_) (a' := ?_) #[true, true, true, true, true, true, true, true, true, false, false, false] rfl rfl (any_of HT_.out (by kernel_rfl)) (fun _ _ _ h => h) (Or.inl ⟨by rfl, ?_⟩) ?_ ?_
  rotate_left
  · intro w'
    go_simp
    with_reducible rfl
  rotate_left
  · simp only [Act.put, List.setIfInBounds_toArray, List.set_cons_zero, List.set_cons_succ, i64_w, i32_w]
    rfl
  refine pure_ (i := 9) (N := some 39) (v := ?_) (a' := ?_) #[true, true, true, true, true, true, true, true, true, true, false, false] rfl rfl (any_of HT_.out (by kernel_rfl)) (fun _ _ _ h => h) (Or.inl ⟨by rfl, ?_⟩) ?_ ?_
  rotate_left
  · intro w'
    go_simp
    with_reducible rfl
  rotate_left
  · simp only [Act.put, List.setIfInBounds_toArray, List.set_cons_zero, List.set_cons_succ, i64_w, i32_w]
    rfl
  refine one_ (i := 10) (N := some 40) #[true, true, true, true, true, true, true, true, true, true, true, false] rfl rfl (one_of HT_.out (by kernel_rfl)) (by decide) (fun K hK => ?_)
  refine value_ (w1 := ?_) (v := ?_) (by rfl) rfl ?_ ?_
  rotate_left 2
  · go_simp
    constructor
    · rfl
    · rfl
  have hbx : Below W8.heap.size W8 (W8.alloc (.cells #[.slice A1 l2.length c1, .int .i64 0, .bool false] 62)) := (Below.refl _ W8).alloc (Nat.le_refl _) _
  refine hK.out _ _ (hHeld.below hbx hHeld.lt) (fun hHeld2 => ?_)
  clear hK K
  refine norm_ (a' := ?_) ?_ ?_
  rotate_left
  · show Act.put _ (some 40) _ = _
    simp only [Act.put, List.setIfInBounds_toArray, List.set_cons_zero, List.set_cons_succ, i64_w, i32_w]
    rfl
  refine pure_ (i := 11) (N := some 4) (v := ?_) (a' := ?_) #[true, true, true, true, true, true, true, true, true, true, true, true] rfl rfl (any_of HT_.out (by kernel_rfl)) (fun _ _ _ h => h) (Or.inl ⟨by rfl, ?_⟩) ?_ ?_
  rotate_left
  · intro w'
    go_simp
    with_reducible rfl
  rotate_left
  · simp only [Act.put, List.setIfInBounds_toArray, List.set_cons_zero, List.set_cons_succ, i64_w, i32_w]
    rfl
  refine done_ (done_of HT_.out (by kernel_rfl)) ?_
  clear HT_ HW_ hcut
  have b3lt := b3.out.lt
  have hI2 := IsS62.new w0 W8 A1 c1 l2 0 false hR7.out.2.1 HC1.out HC1'.out
  have hR8 := hR7.out.alloc (.cells #[.slice A1 l2.length c1, .int .i64 0, .bool false] 62)
  have b2 := b2.out.below hbx b2.out.lt
  have b3 := b3.out.below hbx b3.out.lt
  obtain ⟨p, hp⟩ : ∃ p, W8.heap.size = p := ⟨_, rfl⟩
  have hpq : q < p := hp ▸ b3lt
  have hpw : w.heap.size < p := by omega
  rw [hp] at hI2 ⊢
  generalize W8.alloc (.cells #[.slice A1 l2.length c1, .int .i64 0, .bool false] 62) = W9 at hI2 hbx hR8 b2 b3 ⊢
  have hp9 := hI2.lt
  have hq22 := rpay_any hI2 hR8.2.1 HB2.out HL2.out (Nat.zero_le _)
  have hq22 : Calls Try.prog 22 #[.pointer (some ⟨p, 0, none⟩)] W9 (QPost w0 W9 p l2 (rdP l2) 0) := by simpa using hq22
  rw [HR3.out] at hq22
  have HQ := Lib.hid hq22
  clear hq22 hI2 hHeld hHeld2
  go_wp2_with fail
  refine HQ.out.mono ?_
  rintro _ w10 ⟨at1, bb, hS, hat, rfl, rfl⟩
  have hgp : g ≠ p := by omega
  have hR10 := hR8.keepS hS hgp (by omega)
  have b2 := Blk.keep b2 hS.2.2 (by omega)
  have b3 := Blk.keep b3 hS.2.2 (by omega)
  have hS1 := hS.1
  clear HQ hR8 hbx hS hR7
  have y0 := b3.cell 0
  have yf0 := b3.frozen 0
  have y1 := b3.cell 1
  have yf1 := b3.frozen 1
  have y2 := b3.cell 2
  have yf2 := b3.frozen 2
  have y3 := b3.cell 3
  have yf3 := b3.frozen 3
  have y4 := b3.cell 4
  have yf4 := b3.frozen 4
  simp at y0 y1 y2 y3 y4
  go_upto_region 10 with fail
  have hR11 := hR10.setNew hle q 3 (.slice none 0 0) hqw' hg2
  have hS2 := is_move hS1 (Below.heap_setCell w10 ⟨q, 3, none⟩ (.slice none 0 0) p (by show p ≠ q; omega))
  have b2 : Blk (w10.setCell ⟨q, 3, none⟩ (.slice none 0 0)) w.heap.size 128 #[.int .i64 0, .string { data := #[] }, .int .i64 0, .slice none 0 0, .int .i64 0] := b2.far n3 _
  have b3 : Blk (w10.setCell ⟨q, 3, none⟩ (.slice none 0 0)) q 128 #[.int .i64 2, .string s, .int .i64 x, .slice none 0 0, .int .i64 0] := b3.set_ 3 _
  generalize w10.setCell ⟨q, 3, none⟩ (.slice none 0 0) = W11 at hR11 hS2 b2 b3 ⊢
  clear y0 yf0 y1 yf1 y2 yf2 y3 yf3 y4 yf4
  clear hS1 hR10
  have he24 := end_any (bad := true) hS2 hR11.2.1
  have HE : Hid (Calls Try.prog 24 #[.pointer (some ⟨p, 0, none⟩)] W11 fun e w' => e = .returned (.tuple #[.int .i64 0, .int .i64 110]) ∧ RS w0 W11 w' p l2 at1 true) := Lib.hid (by simpa using he24)
  clear he24 hS2
  go_wp2_with fail
  refine HE.out.mono ?_
  rintro _ w12 ⟨rfl, hS12⟩
  have hR12 := hR11.keepS hS12 hgp (by omega)
  have b2 := Blk.keep b2 hS12.2.2 (by omega)
  have b3 := Blk.keep b3 hS12.2.2 (by omega)
  clear HE hR11 hS12
  obtain ⟨Az, cz, z0, z1, zf1, z2, zf2, zC, zl⟩ := rt_cells hR12.1
  have hwa : IntKind.i64.wrap ((z9 : Int) + 0) = (z9 : Int) := by rw [IntKind.wrap_i64]; have := HLEN.out; omega
  go_upto_region 12 with fail
  have hR13 := hR12.set_2 true
  have b2 : Blk (w12.setCell ⟨g, 2, none⟩ (.bool true)) w.heap.size 128 #[.int .i64 0, .string { data := #[] }, .int .i64 0, .slice none 0 0, .int .i64 0] := b2.far n1 _
  have b3 : Blk (w12.setCell ⟨g, 2, none⟩ (.bool true)) q 128 #[.int .i64 2, .string s, .int .i64 x, .slice none 0 0, .int .i64 0] := b3.far n2 _
  generalize w12.setCell ⟨g, 2, none⟩ (.bool true) = W13 at hR13 b2 b3 ⊢
  clear z0 z1 zf1 z2 zf2 zC zl
  clear hR12
  obtain ⟨Az, cz, z0, z1, zf1, z2, zf2, zC, zl⟩ := rt_cells hR13.1
  go_upto_region 16 with fail
  have hR14 : RT w0 w (W13.setCell ⟨g, 1, none⟩ (.int .i64 ((z9 : Int)))) g L (z9) true := by have h := hR13.set_1 (z9); exact h
  have b2 : Blk (W13.setCell ⟨g, 1, none⟩ (.int .i64 ((z9 : Int)))) w.heap.size 128 #[.int .i64 0, .string { data := #[] }, .int .i64 0, .slice none 0 0, .int .i64 0] := b2.far n1 _
  have b3 : Blk (W13.setCell ⟨g, 1, none⟩ (.int .i64 ((z9 : Int)))) q 128 #[.int .i64 2, .string s, .int .i64 x, .slice none 0 0, .int .i64 0] := b3.far n2 _
  generalize W13.setCell ⟨g, 1, none⟩ (.int .i64 ((z9 : Int))) = W14 at hR14 b2 b3 ⊢
  clear z0 z1 zf1 z2 zf2 zC zl
  clear hR13 hwa
  have r0 := b2.cell 0
  have rf0 := b2.frozen 0
  have r1 := b2.cell 1
  have rf1 := b2.frozen 1
  have r2 := b2.cell 2
  have rf2 := b2.frozen 2
  have r3 := b2.cell 3
  have rf3 := b2.frozen 3
  have r4 := b2.cell 4
  have rf4 := b2.frozen 4
  simp at r0 r1 r2 r3 r4
  have y0 := b3.cell 0
  have y1 := b3.cell 1
  have y2 := b3.cell 2
  have y3 := b3.cell 3
  have y4 := b3.cell 4
  simp at y0 y1 y2 y3 y4
  obtain ⟨Az, cz, z0, z1, zf1, z2, zf2, zC, zl⟩ := rt_cells hR14.1
  go_wp2_with fail
  try simp only [Exit.inBlock, Exit.then]
  rw [← HPP.out]
  refine bodyPost_ret (results_cell_row rfl _ _ w.heap.size 128 #[.int .i64 2, .string s, .int .i64 x, .slice none 0 0, .int .i64 0] (0, 0) _ rfl (show Blk _ w.heap.size 128 #[.int .i64 2, .string s, .int .i64 x, .slice none 0 0, .int .i64 0] from (((((b2).set_ 0 _).set_ 1 _).set_ 2 _).set_ 3 _).set_ 4 _) Try.underlying128 rfl (by kernel_rfl)) rfl ?_
  exact ⟨⟨2, s, x, [], 0⟩, none, 0, _, _, rfl, Kd.R_nil _ _ _ _ _, (((((hR14).setNew hle _ 0 _ (Nat.le_refl _) hg1).setNew hle _ 1 _ (Nat.le_refl _) hg1).setNew hle _ 2 _ (Nat.le_refl _) hg1).setNew hle _ 3 _ (Nat.le_refl _) hg1).setNew hle _ 4 _ (Nat.le_refl _) hg1, rfl⟩
set_option maxRecDepth 20000 in
set_option maxHeartbeats 4000000 in
theorem rcall_send (hI : IsS127 w0 w g L at0 false) (hb : Below w0.heap.size w0 w) (hB : By L) (hl : L.length ≤ 140737488355328) (ha : at0 < L.length) (hk : L.getD at0 0 = 2) (x : Int) (hr : rdL (L.drop at0) 1 = some x) (s : ByteArray) (n : Nat) (hr2 : rdW (L.drop at0) 9 = some (s, n)) (vs : List V) (m : Nat) (hr3 : rdP (L.drop (at0 + n)) = some (vs, m)) :
    Calls Try.prog 69 #[.pointer (some ⟨g, 0, none⟩)] w (TPost w0 w g L (some (⟨2, s, x, vs, 0⟩, n + m)) at0) := by
  obtain ⟨PP, hPP⟩ : ∃ PP, TPost w0 w g L (some (⟨2, s, x, vs, 0⟩, n + m)) at0 = PP := ⟨_, rfl⟩
  rw [hPP]
  have HPP := Lib.hid hPP
  clear hPP
  have hgl := hI.lt
  have hle := hb.size
  have hR1 := (RT.refl hI hb).alloc (.cells #[.int .i64 0, .string { data := #[] }, .int .i64 0, .slice none 0 0, .int .i64 0] 128)
  have b2 := Blk.new w 128 #[.int .i64 0, .string { data := #[] }, .int .i64 0, .slice none 0 0, .int .i64 0]
  have hg1 : g ≠ w.heap.size := by omega
  have n1 := hg1.symm
  have HBy := Lib.hid hB
  have hx1 := byte_ok hR1.1 hR1.2.1 hB ha hl
  rw [hk] at hx1
  have HX1 := Lib.hid hx1
  clear hI hb hB hx1
  have hlen9 : at0 + 9 ≤ L.length := by have := rdL_le hr; rw [List.length_drop] at this; omega
  have hnL : at0 + n ≤ L.length := by have := (rdW_le hr2).1; rw [List.length_drop] at this; omega
  obtain ⟨z9, hz⟩ : ∃ z9, at0 + n = z9 := ⟨_, rfl⟩
  rw [hz] at hr3 hnL
  have HZ := Lib.hid hz
  clear hz
  obtain ⟨W1, hW1⟩ : ∃ W1, W1 = w.alloc (.cells #[.int .i64 0, .string { data := #[] }, .int .i64 0, .slice none 0 0, .int .i64 0] 128) := ⟨_, rfl⟩
  rw [← hW1] at hR1 b2 HX1
  go_enter Try.func69, Try.ntmps69
  go_upto_region 1 with fail
  rw [← hW1]
  clear hW1
  go_wp2_with fail
  refine HX1.out.mono ?_
  rintro e w2 ⟨rfl, hR2⟩
  have b2 := Blk.keep b2 hR2.2.2 n1
  have hR2 := hR1.trans hR2
  clear HX1
  go_upto_region 2 with fail
  obtain ⟨q, hq⟩ : ∃ q, w2.heap.size = q := ⟨_, rfl⟩
  have b3 := Blk.new w2 128 #[.int .i64 2, .string { data := #[] }, .int .i64 0, .slice none 0 0, .int .i64 0]
  have hqw : w.heap.size < q := by have := b2.lt; omega
  rw [hq] at b3 ⊢
  have b2 := b2.below ((Below.refl _ w2).alloc (Nat.le_refl _) (.cells #[.int .i64 2, .string { data := #[] }, .int .i64 0, .slice none 0 0, .int .i64 0] 128)) b2.lt
  have hR3 := hR2.alloc (.cells #[.int .i64 2, .string { data := #[] }, .int .i64 0, .slice none 0 0, .int .i64 0] 128)
  generalize w2.alloc (.cells #[.int .i64 2, .string { data := #[] }, .int .i64 0, .slice none 0 0, .int .i64 0] 128) = W3 at b2 b3 hR3 ⊢
  clear hR2 hq hR1
  have hg2 : g ≠ q := by omega
  have n2 := hg2.symm
  have n3 : w.heap.size ≠ q := by omega
  have hqw' : w.heap.size ≤ q := by omega
  have hCw4 := Lib.hid (long_ok HBy.out hl at0 1 (by omega) x hr hR3.1 hR3.2.1)
  have y0 := b3.cell 0
  have y1 := b3.cell 1
  have y2 := b3.cell 2
  have y3 := b3.cell 3
  have y4 := b3.cell 4
  simp at y0 y1 y2 y3 y4
  go_wp2_with fail
  clear y0 y1 y2 y3 y4
  refine hCw4.out.mono ?_
  rintro _ w4 ⟨rfl, hR4⟩
  have b2 := Blk.keep b2 hR4.2.2 n1
  have b3 := Blk.keep b3 hR4.2.2 n2
  have hR4 := hR3.trans hR4
  clear hCw4 hR3
  have y0 := b3.cell 0
  have yf0 := b3.frozen 0
  have y1 := b3.cell 1
  have yf1 := b3.frozen 1
  have y2 := b3.cell 2
  have yf2 := b3.frozen 2
  have y3 := b3.cell 3
  have yf3 := b3.frozen 3
  have y4 := b3.cell 4
  have yf4 := b3.frozen 4
  simp at y0 y1 y2 y3 y4
  go_upto_region 6 with fail
  have hR4 := hR4.setNew hle q 2 (.int .i64 x) hqw' hg2
  have b2 : Blk (w4.setCell ⟨q, 2, none⟩ (.int .i64 x)) w.heap.size 128 #[.int .i64 0, .string { data := #[] }, .int .i64 0, .slice none 0 0, .int .i64 0] := b2.far n3 _
  have b3 : Blk (w4.setCell ⟨q, 2, none⟩ (.int .i64 x)) q 128 #[.int .i64 2, .string { data := #[] }, .int .i64 x, .slice none 0 0, .int .i64 0] := b3.set_ 2 _
  generalize w4.setCell ⟨q, 2, none⟩ (.int .i64 x) = W5 at hR4 b2 b3 ⊢
  clear y0 yf0 y1 yf1 y2 yf2 y3 yf3 y4 yf4
  have hCw6 := Lib.hid (name_ok HBy.out hl at0 9 hlen9 s n hr2 hR4.1 hR4.2.1)
  go_wp2_with fail
  refine hCw6.out.mono ?_
  rintro _ w6 ⟨rfl, hR6⟩
  have b2 := Blk.keep b2 hR6.2.2 n1
  have b3 := Blk.keep b3 hR6.2.2 n2
  have hR6 := hR4.trans hR6
  clear hCw6 hR4
  rw [HZ.out] at hR6
  have y0 := b3.cell 0
  have yf0 := b3.frozen 0
  have y1 := b3.cell 1
  have yf1 := b3.frozen 1
  have y2 := b3.cell 2
  have yf2 := b3.frozen 2
  have y3 := b3.cell 3
  have yf3 := b3.frozen 3
  have y4 := b3.cell 4
  have yf4 := b3.frozen 4
  simp at y0 y1 y2 y3 y4
  go_upto_region 7 with fail
  have hR6 := hR6.setNew hle q 1 (.string s) hqw' hg2
  have b2 : Blk (w6.setCell ⟨q, 1, none⟩ (.string s)) w.heap.size 128 #[.int .i64 0, .string { data := #[] }, .int .i64 0, .slice none 0 0, .int .i64 0] := b2.far n3 _
  have b3 : Blk (w6.setCell ⟨q, 1, none⟩ (.string s)) q 128 #[.int .i64 2, .string s, .int .i64 x, .slice none 0 0, .int .i64 0] := b3.set_ 1 _
  generalize w6.setCell ⟨q, 1, none⟩ (.string s) = W7 at hR6 b2 b3 ⊢
  clear y0 yf0 y1 yf1 y2 yf2 y3 yf3 y4 yf4
  obtain ⟨Az, cz, z0, z1, zf1, z2, zf2, zC, zl⟩ := rt_cells hR6.1
  go_upto_region 8 with fail
  clear z0 z1 zf1 z2 zf2
  obtain ⟨Ar, cr, hblk, _, zC', zl'⟩ := hR6.1
  clear zC zl
  obtain ⟨A1, c1, hcut, hc1, hC1⟩ := cutBy Ar cr L w0 zC' zl' z9 hnL
  have hl2 : (L.drop z9).length ≤ 140737488355328 := by rw [List.length_drop]; omega
  have HLEN : Hid ((L.drop z9).length + z9 = L.length) := Lib.hid (by rw [List.length_drop]; omega)
  have hB2 := HBy.out.drop z9
  generalize L.drop z9 = l2 at hcut hc1 hC1 hl2 hB2 hr3 HLEN
  have HR3 := Lib.hid hr3
  have HC1 := Lib.hid hC1
  have HB2 := Lib.hid hB2
  have HL2 := Lib.hid hl2
  have HC1' := Lib.hid hc1
  clear hC1 hB2 hl2 hr3 hc1 hr hr2 zC' zl'
  have hblk : Blk W7 g 127 #[.slice Ar L.length cr, .int .i64 (z9 : Int), .bool false] := hblk
  refine start_ (n := 12) (S := fun w' => Blk w' g 127 #[.slice Ar L.length cr, .int .i64 (z9 : Int), .bool false]) (ds := []) #[false, false, false, false, false, false, false, false, false, false, false, false] (by kernel_rfl) rfl rfl hblk.drew (fun hHeld => ?_)
  refine with_tabW tab69 bits69 (fun HT_ HW_ => ?_)
  have hR7 := hR6.more 1
  have b2 := Lib.hid b2.drew
  have b3 := Lib.hid b3.drew
  have hR7 : RT w0 w W7.drew g L z9 false := hR7
  generalize W7.drew = W8 at hHeld hR7 b2 b3 ⊢
  have hR7 := Lib.hid hR7
  clear hR6
  refine pure_ (i := 0) (N := some 30) (v := ?_) (a' := ?_) #[true, false, false, false, false, false, false, false, false, false, false, false] rfl rfl (any_of HT_.out (by kernel_rfl)) (fun _ _ _ h => h) (Or.inl ⟨by rfl, ?_⟩) ?_ ?_
  rotate_left
  · intro w'
    go_simp
    with_reducible rfl
  rotate_left
  · simp only [Act.put, List.setIfInBounds_toArray, List.set_cons_zero, List.set_cons_succ, i64_w, i32_w]
    rfl
  refine pure_ (i := 1) (N := some 31) (v := ?_) (a' := ?_) #[true, true, false, false, false, false, false, false, false, false, false, false] rfl rfl (any_of HT_.out (by kernel_rfl)) (fun _ _ _ h => h) (Or.inl ⟨by rfl, ?_⟩) ?_ ?_
  rotate_left
  · intro w'
    go_simp
    with_reducible rfl
  rotate_left
  · simp only [Act.put, List.setIfInBounds_toArray, List.set_cons_zero, List.set_cons_succ, i64_w, i32_w]
    rfl
  refine pure_ (i := 2) (N := some 32) (v := ?_) (a' := ?_) #[true, true, true, false, false, false, false, false, false, false, false, false] rfl rfl (any_of HT_.out (by kernel_rfl)) (fun _ _ _ h => h) (Or.inl ⟨by rfl, ?_⟩) ?_ ?_
  rotate_left
  · intro w'
    go_simp
    with_reducible rfl
  rotate_left
  · simp only [Act.put, List.setIfInBounds_toArray, List.set_cons_zero, List.set_cons_succ, i64_w, i32_w]
    rfl
  refine take_ (i := 3) (N := some 33) (v := ?_) (a' := ?_) #[true, true, true, true, false, false, false, false, false, false, false, false] rfl rfl (take_ofW HT_.out HW_.out (by kernel_rfl)) (fun _ _ _ h => h) (Or.inl ⟨by rfl, ?_⟩) hHeld ?_ ?_
  rotate_left
  · intro w' HS_
    have s0 := HS_.cell 0
    have s1 := HS_.cell 1
    simp at s0 s1
    go_simp
    with_reducible rfl
  rotate_left
  · simp only [Act.put, List.setIfInBounds_toArray, List.set_cons_zero, List.set_cons_succ, i64_w, i32_w]
    rfl
  refine pure_ (i := 4) (N := some 34) (v := ?_) (a' := ?_) #[true, true, true, true, true, false, false, false, false, false, false, false] rfl rfl (any_of HT_.out (by kernel_rfl)) (fun _ _ _ h => h) (Or.inl ⟨by rfl, ?_⟩) ?_ ?_
  rotate_left
  · intro w'
    go_simp
    with_reducible rfl
  rotate_left
  · simp only [Act.put, List.setIfInBounds_toArray, List.set_cons_zero, List.set_cons_succ, i64_w, i32_w]
    rfl
  refine pure_ (i := 5) (N := some 35) (v := ?_) (a' := ?_) #[true, true, true, true, true, true, false, false, false, false, false, false] rfl rfl (any_of HT_.out (by kernel_rfl)) (fun _ _ _ h => h) (Or.inl ⟨by rfl, ?_⟩) ?_ ?_
  rotate_left
  · intro w'
    go_simp
    with_reducible rfl
  rotate_left
  · simp only [Act.put, List.setIfInBounds_toArray, List.set_cons_zero, List.set_cons_succ, i64_w, i32_w]
    rfl
  refine pure_ (i := 6) (N := some 36) (v := ?_) (a' := ?_) #[true, true, true, true, true, true, true, false, false, false, false, false] rfl rfl (any_of HT_.out (by kernel_rfl)) (fun _ _ _ h => h) (Or.inl ⟨by rfl, ?_⟩) ?_ ?_
  rotate_left
  · intro w'
    go_simp
    with_reducible rfl
  rotate_left
  · simp only [Act.put, List.setIfInBounds_toArray, List.set_cons_zero, List.set_cons_succ, i64_w, i32_w]
    rfl
  refine take_ (i := 7) (N := some 37) (v := ?_) (a' := ?_) #[true, true, true, true, true, true, true, true, false, false, false, false] rfl rfl (take_ofW HT_.out HW_.out (by kernel_rfl)) (fun _ _ _ h => h) (Or.inl ⟨by rfl, ?_⟩) hHeld ?_ ?_
  rotate_left
  · intro w' HS_
    have s0 := HS_.cell 0
    have s1 := HS_.cell 1
    simp at s0 s1
    go_simp
    with_reducible rfl
  rotate_left
  · simp only [Act.put, List.setIfInBounds_toArray, List.set_cons_zero, List.set_cons_succ, i64_w, i32_w]
    rfl
  refine pure_ (i := 8) (N := some 38) (v := ?_) (a' := ?_) #[true, true, true, true, true, true, true, true, true, false, false, false] rfl rfl (any_of HT_.out (by kernel_rfl)) (fun _ _ _ h => h) (Or.inl ⟨by rfl, ?_⟩) ?_ ?_
  rotate_left
  · intro w'
    go_simp
    with_reducible rfl
  rotate_left
  · simp only [Act.put, List.setIfInBounds_toArray, List.set_cons_zero, List.set_cons_succ, i64_w, i32_w]
    rfl
  refine pure_ (i := 9) (N := some 39) (v := ?_) (a' := ?_) #[true, true, true, true, true, true, true, true, true, true, false, false] rfl rfl (any_of HT_.out (by kernel_rfl)) (fun _ _ _ h => h) (Or.inl ⟨by rfl, ?_⟩) ?_ ?_
  rotate_left
  · intro w'
    go_simp
    with_reducible rfl
  rotate_left
  · simp only [Act.put, List.setIfInBounds_toArray, List.set_cons_zero, List.set_cons_succ, i64_w, i32_w]
    rfl
  refine one_ (i := 10) (N := some 40) #[true, true, true, true, true, true, true, true, true, true, true, false] rfl rfl (one_of HT_.out (by kernel_rfl)) (by decide) (fun K hK => ?_)
  refine value_ (w1 := ?_) (v := ?_) (by rfl) rfl ?_ ?_
  rotate_left 2
  · go_simp
    constructor
    · rfl
    · rfl
  have hbx : Below W8.heap.size W8 (W8.alloc (.cells #[.slice A1 l2.length c1, .int .i64 0, .bool false] 62)) := (Below.refl _ W8).alloc (Nat.le_refl _) _
  refine hK.out _ _ (hHeld.below hbx hHeld.lt) (fun hHeld2 => ?_)
  clear hK K
  refine norm_ (a' := ?_) ?_ ?_
  rotate_left
  · show Act.put _ (some 40) _ = _
    simp only [Act.put, List.setIfInBounds_toArray, List.set_cons_zero, List.set_cons_succ, i64_w, i32_w]
    rfl
  refine pure_ (i := 11) (N := some 4) (v := ?_) (a' := ?_) #[true, true, true, true, true, true, true, true, true, true, true, true] rfl rfl (any_of HT_.out (by kernel_rfl)) (fun _ _ _ h => h) (Or.inl ⟨by rfl, ?_⟩) ?_ ?_
  rotate_left
  · intro w'
    go_simp
    with_reducible rfl
  rotate_left
  · simp only [Act.put, List.setIfInBounds_toArray, List.set_cons_zero, List.set_cons_succ, i64_w, i32_w]
    rfl
  refine done_ (done_of HT_.out (by kernel_rfl)) ?_
  clear HT_ HW_ hcut
  have b3lt := b3.out.lt
  have hI2 := IsS62.new w0 W8 A1 c1 l2 0 false hR7.out.2.1 HC1.out HC1'.out
  have hR8 := hR7.out.alloc (.cells #[.slice A1 l2.length c1, .int .i64 0, .bool false] 62)
  have b2 := b2.out.below hbx b2.out.lt
  have b3 := b3.out.below hbx b3.out.lt
  obtain ⟨p, hp⟩ : ∃ p, W8.heap.size = p := ⟨_, rfl⟩
  have hpq : q < p := hp ▸ b3lt
  have hpw : w.heap.size < p := by omega
  rw [hp] at hI2 ⊢
  generalize W8.alloc (.cells #[.slice A1 l2.length c1, .int .i64 0, .bool false] 62) = W9 at hI2 hbx hR8 b2 b3 ⊢
  have hp9 := hI2.lt
  have hq22 := rpay_any hI2 hR8.2.1 HB2.out HL2.out (Nat.zero_le _)
  have hq22 : Calls Try.prog 22 #[.pointer (some ⟨p, 0, none⟩)] W9 (QPost w0 W9 p l2 (rdP l2) 0) := by simpa using hq22
  rw [HR3.out] at hq22
  have HQ := Lib.hid hq22
  clear hq22 hI2 hHeld hHeld2
  go_wp2_with fail
  refine HQ.out.mono ?_
  rintro _ w10 ⟨at1, bb, hS, hat, ⟨v, rfl, hRow⟩, hat1, rfl⟩
  obtain ⟨Av, cv, rfl⟩ := Kd.R_slice hRow
  have hat2 : at1 = m := by omega
  clear hat1
  subst hat2
  have hgp : g ≠ p := by omega
  have hR10 := hR8.keepS hS hgp (by omega)
  have b2 := Blk.keep b2 hS.2.2 (by omega)
  have b3 := Blk.keep b3 hS.2.2 (by omega)
  have hS1 := hS.1
  clear HQ hR8 hbx hS hR7
  have HRow := R_over hRow ((Chg.refl [q] w10).setCell (p := ⟨q, 3, none⟩) (.inl (by simp)) (.slice Av vs.length cv)) (by simp; omega)
  clear hRow
  have y0 := b3.cell 0
  have yf0 := b3.frozen 0
  have y1 := b3.cell 1
  have yf1 := b3.frozen 1
  have y2 := b3.cell 2
  have yf2 := b3.frozen 2
  have y3 := b3.cell 3
  have yf3 := b3.frozen 3
  have y4 := b3.cell 4
  have yf4 := b3.frozen 4
  simp at y0 y1 y2 y3 y4
  go_upto_region 10 with fail
  have hR11 := hR10.setNew hle q 3 (.slice Av vs.length cv) hqw' hg2
  have hS2 := is_move hS1 (Below.heap_setCell w10 ⟨q, 3, none⟩ (.slice Av vs.length cv) p (by show p ≠ q; omega))
  have b2 : Blk (w10.setCell ⟨q, 3, none⟩ (.slice Av vs.length cv)) w.heap.size 128 #[.int .i64 0, .string { data := #[] }, .int .i64 0, .slice none 0 0, .int .i64 0] := b2.far n3 _
  have b3 : Blk (w10.setCell ⟨q, 3, none⟩ (.slice Av vs.length cv)) q 128 #[.int .i64 2, .string s, .int .i64 x, .slice Av vs.length cv, .int .i64 0] := b3.set_ 3 _
  generalize w10.setCell ⟨q, 3, none⟩ (.slice Av vs.length cv) = W11 at hR11 hS2 b2 b3 HRow ⊢
  clear y0 yf0 y1 yf1 y2 yf2 y3 yf3 y4 yf4
  clear hS1 hR10
  have he24 := end_any (bad := false) hS2 hR11.2.1
  have HE : Hid (Calls Try.prog 24 #[.pointer (some ⟨p, 0, none⟩)] W11 fun e w' => e = .returned (.tuple #[.int .i64 (at1 : Int), .int .i64 0]) ∧ RS w0 W11 w' p l2 at1 false) := Lib.hid (by simpa using he24)
  clear he24 hS2
  go_wp2_with fail
  refine HE.out.mono ?_
  rintro _ w12 ⟨rfl, hS12⟩
  have hR12 := hR11.keepS hS12 hgp (by omega)
  have b2 := Blk.keep b2 hS12.2.2 (by omega)
  have b3 := Blk.keep b3 hS12.2.2 (by omega)
  have HRow := R_keep HRow hS12.2.2 hp9
  clear HE hR11 hS12
  obtain ⟨Az, cz, z0, z1, zf1, z2, zf2, zC, zl⟩ := rt_cells hR12.1
  have hwa : IntKind.i64.wrap ((z9 : Int) + (at1 : Int)) = (z9 : Int) + (at1 : Int) := by rw [IntKind.wrap_i64]; have := HLEN.out; omega
  go_upto_region 12 with fail
  have hR13 := hR12.set_2 false
  have b2 : Blk (w12.setCell ⟨g, 2, none⟩ (.bool false)) w.heap.size 128 #[.int .i64 0, .string { data := #[] }, .int .i64 0, .slice none 0 0, .int .i64 0] := b2.far n1 _
  have b3 : Blk (w12.setCell ⟨g, 2, none⟩ (.bool false)) q 128 #[.int .i64 2, .string s, .int .i64 x, .slice Av vs.length cv, .int .i64 0] := b3.far n2 _
  have HRow := R_over HRow ((Chg.refl [g] w12).setCell (p := ⟨g, 2, none⟩) (.inl (by simp)) (.bool false)) (by simp; omega)
  generalize w12.setCell ⟨g, 2, none⟩ (.bool false) = W13 at hR13 b2 b3 HRow ⊢
  clear z0 z1 zf1 z2 zf2 zC zl
  clear hR12
  obtain ⟨Az, cz, z0, z1, zf1, z2, zf2, zC, zl⟩ := rt_cells hR13.1
  go_upto_region 16 with fail
  have hR14 : RT w0 w (W13.setCell ⟨g, 1, none⟩ (.int .i64 ((z9 : Int) + (at1 : Int)))) g L (z9 + at1) false := by have h := hR13.set_1 (z9 + at1); rwa [Int.natCast_add] at h
  have b2 : Blk (W13.setCell ⟨g, 1, none⟩ (.int .i64 ((z9 : Int) + (at1 : Int)))) w.heap.size 128 #[.int .i64 0, .string { data := #[] }, .int .i64 0, .slice none 0 0, .int .i64 0] := b2.far n1 _
  have b3 : Blk (W13.setCell ⟨g, 1, none⟩ (.int .i64 ((z9 : Int) + (at1 : Int)))) q 128 #[.int .i64 2, .string s, .int .i64 x, .slice Av vs.length cv, .int .i64 0] := b3.far n2 _
  have HRow := R_over HRow ((Chg.refl [g] W13).setCell (p := ⟨g, 1, none⟩) (.inl (by simp)) (.int .i64 ((z9 : Int) + (at1 : Int)))) (by simp; omega)
  generalize W13.setCell ⟨g, 1, none⟩ (.int .i64 ((z9 : Int) + (at1 : Int))) = W14 at hR14 b2 b3 HRow ⊢
  clear z0 z1 zf1 z2 zf2 zC zl
  clear hR13 hwa
  have r0 := b2.cell 0
  have rf0 := b2.frozen 0
  have r1 := b2.cell 1
  have rf1 := b2.frozen 1
  have r2 := b2.cell 2
  have rf2 := b2.frozen 2
  have r3 := b2.cell 3
  have rf3 := b2.frozen 3
  have r4 := b2.cell 4
  have rf4 := b2.frozen 4
  simp at r0 r1 r2 r3 r4
  have y0 := b3.cell 0
  have y1 := b3.cell 1
  have y2 := b3.cell 2
  have y3 := b3.cell 3
  have y4 := b3.cell 4
  simp at y0 y1 y2 y3 y4
  obtain ⟨Az, cz, z0, z1, zf1, z2, zf2, zC, zl⟩ := rt_cells hR14.1
  go_wp2_with fail
  try simp only [Exit.inBlock, Exit.then]
  rw [← HPP.out]
  refine bodyPost_ret (results_cell_row rfl _ _ w.heap.size 128 #[.int .i64 2, .string s, .int .i64 x, .slice Av vs.length cv, .int .i64 0] (0, 0) _ rfl (show Blk _ w.heap.size 128 #[.int .i64 2, .string s, .int .i64 x, .slice Av vs.length cv, .int .i64 0] from (((((b2).set_ 0 _).set_ 1 _).set_ 2 _).set_ 3 _).set_ 4 _) Try.underlying128 rfl (by kernel_rfl)) rfl ?_
  exact ⟨⟨2, s, x, vs, 0⟩, Av, cv, _, _, rfl, Kd.R_lower (R_over HRow (((((((Chg.refl [w.heap.size] _)).setCell (.inl (by simp)) _).setCell (.inl (by simp)) _).setCell (.inl (by simp)) _).setCell (.inl (by simp)) _).setCell (.inl (by simp)) _) (by simp; omega)) (by omega), (((((hR14).setNew hle _ 0 _ (Nat.le_refl _) hg1).setNew hle _ 1 _ (Nat.le_refl _) hg1).setNew hle _ 2 _ (Nat.le_refl _) hg1).setNew hle _ 3 _ (Nat.le_refl _) hg1).setNew hle _ 4 _ (Nat.le_refl _) hg1, ⟨rfl, by have := HZ.out; omega, rfl⟩⟩
end
end Go.Proofs.Ytlbfnnngemonoaa.Wir
