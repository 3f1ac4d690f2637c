/- The document's Reading: Message. -/
import Derived.Test.YtlbfnnngemonoaaWirRPay2
namespace Go.Proofs.Ytlbfnnngemonoaa.Wir
open Go.RowKit Go.Proofs.Ytlbfnnngemonoaa.PWireReads
open Go.Proofs.Ytlbfnnngemonoaa.Fat (Blk Chg Off)
open Go.Proofs.YtlbfnnngemonoaaW.PrintWords Go.Proofs.YtlbfnnngemonoaaW.PrintLast Go.Proofs.YtlbfnnngemonoaaW.PrintMore
set_option linter.unusedVariables false
set_option linter.unusedSimpArgs false
section
variable {w0 w : World} {g at0 : Nat} {L : List Int} {bad : Bool}
/-- What the document's Message leaves. -/
def NPost (w0 w : World) (g : Nat) (L : List Int) (o : Option (M × Nat)) (at0 : Nat) (e : Ending) (w' : World) : Prop :=
  ∃ (at1 : Nat) (b1 : Bool), RS w0 w w' g L at1 b1 ∧ at1 ≤ L.length ∧ match o with
    | some (m, n) => (∃ v, e = .returned (.agg #[.int .i64 m.id, .string m.tag, v]) ∧ Kd.R kV 50 w' w.heap.size (fun _ => True) v m.pl) ∧ at1 = at0 + n ∧ b1 = false
    | none => e = .returned (.agg #[.int .i64 0, .string { data := #[] }, .slice none 0 0]) ∧ b1 = true
set_option maxRecDepth 20000 in
set_option maxHeartbeats 4000000 in
theorem rmsg_short4 (hI : IsS62 w0 w g L at0 false) (hb : Below w0.heap.size w0 w) (hB : By L) (hl : L.length ≤ 140737488355328) (ha : at0 ≤ L.length) (h : L.length < at0 + 4) :
    Calls Try.prog 23 #[.pointer (some ⟨g, 0, none⟩)] w (NPost w0 w g L (none) at0) := by
  have hgl := hI.lt
  have hle := hb.size
  have hR1 := ((RS.refl hI hb).alloc (.cells #[.int .i64 0, .string { data := #[] }, .slice none 0 0] 57)).alloc (.cells #[.int .i64 0, .string { data := #[] }, .slice none 0 0] 57)
  obtain ⟨b2, b3, _⟩ := two_new w #[.int .i64 0, .string { data := #[] }, .slice none 0 0] #[.int .i64 0, .string { data := #[] }, .slice none 0 0] 57 57
  have hg1 : g ≠ w.heap.size := by omega
  have hg2 : g ≠ w.heap.size + 1 := by omega
  have n1 := hg1.symm
  have n2 := hg2.symm
  have n3 : w.heap.size ≠ w.heap.size + 1 := by omega
  have n4 : w.heap.size + 1 ≠ w.heap.size := by omega
  have HBy := Lib.hid hB
  clear hI hb hB
  obtain ⟨W1, hW1⟩ : ∃ W1, W1 = ((w.alloc (.cells #[.int .i64 0, .string { data := #[] }, .slice none 0 0] 57)).alloc (.cells #[.int .i64 0, .string { data := #[] }, .slice none 0 0] 57)) := ⟨_, rfl⟩
  rw [← hW1] at hR1 b2 b3
  go_enter Try.func23, Try.ntmps23
  go_upto_region 2 with fail
  rw [← hW1]
  clear hW1
  have HN := Lib.hid (num_bad hR1.1 hR1.2.1 4 (.inr h) ha hl (by omega))
  go_wp2_with fail
  refine HN.out.mono ?_
  rintro e w2 ⟨rfl, hR2⟩
  have b2 := Blk.keep b2 hR2.2.2 n1
  have b3 := Blk.keep b3 hR2.2.2 n2
  have hR2 := hR1.trans hR2
  have y0 := b3.cell 0
  have yf0 := b3.frozen 0
  have y1 := b3.cell 1
  have yf1 := b3.frozen 1
  have y2 := b3.cell 2
  have yf2 := b3.frozen 2
  simp at y0 y1 y2
  go_upto_region 3 with fail
  have hR2 := hR2.setNew hle (w.heap.size + 1) 0 (.int .i64 0) (Nat.le_succ _) hg2
  have b2 : Blk (w2.setCell ⟨w.heap.size + 1, 0, none⟩ (.int .i64 0)) w.heap.size 57 #[.int .i64 0, .string { data := #[] }, .slice none 0 0] := b2.far n3 _
  have b3 : Blk (w2.setCell ⟨w.heap.size + 1, 0, none⟩ (.int .i64 0)) (w.heap.size + 1) 57 #[.int .i64 0, .string { data := #[] }, .slice none 0 0] := b3.set_ 0 _
  generalize w2.setCell ⟨w.heap.size + 1, 0, none⟩ (.int .i64 0) = w3 at hR2 b2 b3 ⊢
  clear y0 yf0 y1 yf1 y2 yf2
  have HN2 := Lib.hid (num_bad hR2.1 hR2.2.1 1 (.inl rfl) ha hl (by omega))
  go_wp2_with fail
  refine HN2.out.mono ?_
  rintro e w4 ⟨rfl, hR4⟩
  have b2 := Blk.keep b2 hR4.2.2 n1
  have b3 := Blk.keep b3 hR4.2.2 n2
  have hR4 := hR2.trans hR4
  obtain ⟨z, zf⟩ := rs_cell hR4.1
  have y0 := b3.cell 0
  have y1 := b3.cell 1
  have y2 := b3.cell 2
  simp at y0 y1 y2
  go_upto_region 6 with fail
  have hR4 := hR4.set_2 true
  have b2 : Blk (w4.setCell ⟨g, 2, none⟩ (.bool true)) w.heap.size 57 #[.int .i64 0, .string { data := #[] }, .slice none 0 0] := b2.far n1 _
  have b3 : Blk (w4.setCell ⟨g, 2, none⟩ (.bool true)) (w.heap.size + 1) 57 #[.int .i64 0, .string { data := #[] }, .slice none 0 0] := b3.far n2 _
  generalize w4.setCell ⟨g, 2, none⟩ (.bool true) = w4 at hR4 b2 b3 ⊢
  clear y0 y1 y2
  clear z zf
  have HT := Lib.hid (text_bad (at0 := at0) hR4.1 hR4.2.1 0 (.inl rfl) (by omega) hl)
  go_wp2_with fail
  refine HT.out.mono ?_
  rintro e w6 ⟨rfl, hR6⟩
  have b2 := Blk.keep b2 hR6.2.2 n1
  have b3 := Blk.keep b3 hR6.2.2 n2
  have hR6 := hR4.trans hR6
  have y0 := b3.cell 0
  have yf0 := b3.frozen 0
  have y1 := b3.cell 1
  have yf1 := b3.frozen 1
  have y2 := b3.cell 2
  have yf2 := b3.frozen 2
  simp at y0 y1 y2
  go_upto_region 7 with fail
  have hR6 := hR6.setNew hle (w.heap.size + 1) 1 (.string ByteArray.empty) (Nat.le_succ _) hg2
  have b2 : Blk (w6.setCell ⟨w.heap.size + 1, 1, none⟩ (.string ByteArray.empty)) w.heap.size 57 #[.int .i64 0, .string { data := #[] }, .slice none 0 0] := b2.far n3 _
  have b3 : Blk (w6.setCell ⟨w.heap.size + 1, 1, none⟩ (.string ByteArray.empty)) (w.heap.size + 1) 57 #[.int .i64 0, .string ByteArray.empty, .slice none 0 0] := b3.set_ 1 _
  generalize w6.setCell ⟨w.heap.size + 1, 1, none⟩ (.string ByteArray.empty) = w7 at hR6 b2 b3 ⊢
  clear y0 yf0 y1 yf1 y2 yf2
  have HQ := Lib.hid (rpay_any (at0 := at0) hR6.1 hR6.2.1 HBy.out hl (by omega))
  go_wp2_with fail
  refine HQ.out.mono ?_
  rintro e w8 ⟨at1, bb, hR8, hat, he⟩
  obtain ⟨rfl, rfl⟩ := he
  have b2 := Blk.keep b2 hR8.2.2 n1
  have b3 := Blk.keep b3 hR8.2.2 n2
  have hR8 := hR6.trans hR8
  have y0 := b3.cell 0
  have yf0 := b3.frozen 0
  have y1 := b3.cell 1
  have yf1 := b3.frozen 1
  have y2 := b3.cell 2
  have yf2 := b3.frozen 2
  simp at y0 y1 y2
  go_upto_region 8 with fail
  have hR8 := hR8.setNew hle (w.heap.size + 1) 2 (.slice none 0 0) (Nat.le_succ _) hg2
  have b2 : Blk (w8.setCell ⟨w.heap.size + 1, 2, none⟩ (.slice none 0 0)) w.heap.size 57 #[.int .i64 0, .string { data := #[] }, .slice none 0 0] := b2.far n3 _
  have b3 : Blk (w8.setCell ⟨w.heap.size + 1, 2, none⟩ (.slice none 0 0)) (w.heap.size + 1) 57 #[.int .i64 0, .string ByteArray.empty, .slice none 0 0] := b3.set_ 2 _
  generalize w8.setCell ⟨w.heap.size + 1, 2, none⟩ (.slice none 0 0) = w9 at hR8 b2 b3 ⊢
  clear y0 yf0 y1 yf1 y2 yf2
  obtain ⟨z, zf⟩ := rs_cell hR8.1
  have r0 := b2.cell 0
  have rf0 := b2.frozen 0
  have r1 := b2.cell 1
  have rf1 := b2.frozen 1
  have r2 := b2.cell 2
  have rf2 := b2.frozen 2
  simp at r0 r1 r2
  go_wp2_with fail
  try simp only [Exit.inBlock, Exit.then]
  refine bodyPost_ret (results_cell_row rfl _ _ w.heap.size 57 #[.int .i64 0, .string { data := #[] }, .slice none 0 0] (0, 0) _ rfl (show Blk _ w.heap.size 57 #[.int .i64 0, .string { data := #[] }, .slice none 0 0] from ((b2.set_ 0 _).set_ 1 _).set_ 2 _) Try.underlying57 rfl (by kernel_rfl)) rfl ?_
  exact ⟨at1, true, ((hR8.setNew hle _ 0 _ (Nat.le_refl _) hg1).setNew hle _ 1 _ (Nat.le_refl _) hg1).setNew hle _ 2 _ (Nat.le_refl _) hg1, by omega, rfl, rfl⟩
set_option maxRecDepth 20000 in
set_option maxHeartbeats 4000000 in
theorem rmsg_short5 (hI : IsS62 w0 w g L at0 false) (hb : Below w0.heap.size w0 w) (hB : By L) (hl : L.length ≤ 140737488355328) (ha : at0 ≤ L.length) (h4 : at0 + 4 ≤ L.length) (h : L.length < at0 + 5) :
    Calls Try.prog 23 #[.pointer (some ⟨g, 0, none⟩)] w (NPost w0 w g L (none) at0) := by
  have hgl := hI.lt
  have hle := hb.size
  have hR1 := ((RS.refl hI hb).alloc (.cells #[.int .i64 0, .string { data := #[] }, .slice none 0 0] 57)).alloc (.cells #[.int .i64 0, .string { data := #[] }, .slice none 0 0] 57)
  obtain ⟨b2, b3, _⟩ := two_new w #[.int .i64 0, .string { data := #[] }, .slice none 0 0] #[.int .i64 0, .string { data := #[] }, .slice none 0 0] 57 57
  have hg1 : g ≠ w.heap.size := by omega
  have hg2 : g ≠ w.heap.size + 1 := by omega
  have n1 := hg1.symm
  have n2 := hg2.symm
  have n3 : w.heap.size ≠ w.heap.size + 1 := by omega
  have n4 : w.heap.size + 1 ≠ w.heap.size := by omega
  have HBy := Lib.hid hB
  have hidb := num_bound (L.drop at0) (hB.drop at0) 4 (by rw [List.length_drop]; omega)
  generalize hid : num ((L.drop at0).take 4) = id at hidb
  have hid0 : 0 ≤ id := hidb.1
  have hid1 : id < 4294967296 := hidb.2
  have HID := Lib.hid hid
  clear hid hidb
  clear hI hb hB
  obtain ⟨W1, hW1⟩ : ∃ W1, W1 = ((w.alloc (.cells #[.int .i64 0, .string { data := #[] }, .slice none 0 0] 57)).alloc (.cells #[.int .i64 0, .string { data := #[] }, .slice none 0 0] 57)) := ⟨_, rfl⟩
  rw [← hW1] at hR1 b2 b3
  go_enter Try.func23, Try.ntmps23
  go_upto_region 2 with fail
  rw [← hW1]
  clear hW1
  have HN := Lib.hid (num_ok hR1.1 hR1.2.1 HBy.out 4 (by omega) (by omega) hl)
  rw [HID.out] at HN
  go_wp2_with fail
  refine HN.out.mono ?_
  rintro e w2 ⟨rfl, hR2⟩
  have b2 := Blk.keep b2 hR2.2.2 n1
  have b3 := Blk.keep b3 hR2.2.2 n2
  have hR2 := hR1.trans hR2
  have y0 := b3.cell 0
  have yf0 := b3.frozen 0
  have y1 := b3.cell 1
  have yf1 := b3.frozen 1
  have y2 := b3.cell 2
  have yf2 := b3.frozen 2
  simp at y0 y1 y2
  go_upto_region 3 with fail
  have hR2 := hR2.setNew hle (w.heap.size + 1) 0 (.int .i64 id) (Nat.le_succ _) hg2
  have b2 : Blk (w2.setCell ⟨w.heap.size + 1, 0, none⟩ (.int .i64 id)) w.heap.size 57 #[.int .i64 0, .string { data := #[] }, .slice none 0 0] := b2.far n3 _
  have b3 : Blk (w2.setCell ⟨w.heap.size + 1, 0, none⟩ (.int .i64 id)) (w.heap.size + 1) 57 #[.int .i64 id, .string { data := #[] }, .slice none 0 0] := b3.set_ 0 _
  generalize w2.setCell ⟨w.heap.size + 1, 0, none⟩ (.int .i64 id) = w3 at hR2 b2 b3 ⊢
  clear y0 yf0 y1 yf1 y2 yf2
  have HN2 := Lib.hid (num_bad (at0 := at0 + 4) hR2.1 hR2.2.1 1 (.inr (by omega)) (by omega) hl (by omega))
  go_wp2_with fail
  refine HN2.out.mono ?_
  rintro e w4 ⟨rfl, hR4⟩
  have b2 := Blk.keep b2 hR4.2.2 n1
  have b3 := Blk.keep b3 hR4.2.2 n2
  have hR4 := hR2.trans hR4
  have g1 : decide ((0 : Int) < 1) = true := rfl
  have hcase : decide (id > 1048575) = true ∨ decide (id > 1048575) = false := by cases decide (id > 1048575) <;> simp
  rcases hcase with g0 | g0
  · obtain ⟨z, zf⟩ := rs_cell hR4.1
    have y0 := b3.cell 0
    have y1 := b3.cell 1
    have y2 := b3.cell 2
    simp at y0 y1 y2
    go_upto_region 6 with fail
    have hR4 := hR4.set_2 true
    have b2 : Blk (w4.setCell ⟨g, 2, none⟩ (.bool true)) w.heap.size 57 #[.int .i64 0, .string { data := #[] }, .slice none 0 0] := b2.far n1 _
    have b3 : Blk (w4.setCell ⟨g, 2, none⟩ (.bool true)) (w.heap.size + 1) 57 #[.int .i64 id, .string { data := #[] }, .slice none 0 0] := b3.far n2 _
    generalize w4.setCell ⟨g, 2, none⟩ (.bool true) = w4 at hR4 b2 b3 ⊢
    clear y0 y1 y2
    clear z zf
    have HT := Lib.hid (text_bad (at0 := at0 + 4) hR4.1 hR4.2.1 0 (.inl rfl) (by omega) hl)
    go_wp2_with fail
    refine HT.out.mono ?_
    rintro e w6 ⟨rfl, hR6⟩
    have b2 := Blk.keep b2 hR6.2.2 n1
    have b3 := Blk.keep b3 hR6.2.2 n2
    have hR6 := hR4.trans hR6
    have y0 := b3.cell 0
    have yf0 := b3.frozen 0
    have y1 := b3.cell 1
    have yf1 := b3.frozen 1
    have y2 := b3.cell 2
    have yf2 := b3.frozen 2
    simp at y0 y1 y2
    go_upto_region 7 with fail
    have hR6 := hR6.setNew hle (w.heap.size + 1) 1 (.string ByteArray.empty) (Nat.le_succ _) hg2
    have b2 : Blk (w6.setCell ⟨w.heap.size + 1, 1, none⟩ (.string ByteArray.empty)) w.heap.size 57 #[.int .i64 0, .string { data := #[] }, .slice none 0 0] := b2.far n3 _
    have b3 : Blk (w6.setCell ⟨w.heap.size + 1, 1, none⟩ (.string ByteArray.empty)) (w.heap.size + 1) 57 #[.int .i64 id, .string ByteArray.empty, .slice none 0 0] := b3.set_ 1 _
    generalize w6.setCell ⟨w.heap.size + 1, 1, none⟩ (.string ByteArray.empty) = w7 at hR6 b2 b3 ⊢
    clear y0 yf0 y1 yf1 y2 yf2
    have HQ := Lib.hid (rpay_any (at0 := at0 + 4) hR6.1 hR6.2.1 HBy.out hl (by omega))
    go_wp2_with fail
    refine HQ.out.mono ?_
    rintro e w8 ⟨at1, bb, hR8, hat, he⟩
    obtain ⟨rfl, rfl⟩ := he
    have b2 := Blk.keep b2 hR8.2.2 n1
    have b3 := Blk.keep b3 hR8.2.2 n2
    have hR8 := hR6.trans hR8
    have y0 := b3.cell 0
    have yf0 := b3.frozen 0
    have y1 := b3.cell 1
    have yf1 := b3.frozen 1
    have y2 := b3.cell 2
    have yf2 := b3.frozen 2
    simp at y0 y1 y2
    go_upto_region 8 with fail
    have hR8 := hR8.setNew hle (w.heap.size + 1) 2 (.slice none 0 0) (Nat.le_succ _) hg2
    have b2 : Blk (w8.setCell ⟨w.heap.size + 1, 2, none⟩ (.slice none 0 0)) w.heap.size 57 #[.int .i64 0, .string { data := #[] }, .slice none 0 0] := b2.far n3 _
    have b3 : Blk (w8.setCell ⟨w.heap.size + 1, 2, none⟩ (.slice none 0 0)) (w.heap.size + 1) 57 #[.int .i64 id, .string ByteArray.empty, .slice none 0 0] := b3.set_ 2 _
    generalize w8.setCell ⟨w.heap.size + 1, 2, none⟩ (.slice none 0 0) = w9 at hR8 b2 b3 ⊢
    clear y0 yf0 y1 yf1 y2 yf2
    obtain ⟨z, zf⟩ := rs_cell hR8.1
    have r0 := b2.cell 0
    have rf0 := b2.frozen 0
    have r1 := b2.cell 1
    have rf1 := b2.frozen 1
    have r2 := b2.cell 2
    have rf2 := b2.frozen 2
    simp at r0 r1 r2
    go_wp2_with fail
    try simp only [Exit.inBlock, Exit.then]
    refine bodyPost_ret (results_cell_row rfl _ _ w.heap.size 57 #[.int .i64 0, .string { data := #[] }, .slice none 0 0] (0, 0) _ rfl (show Blk _ w.heap.size 57 #[.int .i64 0, .string { data := #[] }, .slice none 0 0] from ((b2.set_ 0 _).set_ 1 _).set_ 2 _) Try.underlying57 rfl (by kernel_rfl)) rfl ?_
    exact ⟨at1, true, ((hR8.setNew hle _ 0 _ (Nat.le_refl _) hg1).setNew hle _ 1 _ (Nat.le_refl _) hg1).setNew hle _ 2 _ (Nat.le_refl _) hg1, by omega, rfl, rfl⟩
  · obtain ⟨z, zf⟩ := rs_cell hR4.1
    have y0 := b3.cell 0
    have y1 := b3.cell 1
    have y2 := b3.cell 2
    simp at y0 y1 y2
    go_upto_region 6 with fail
    have hR4 := hR4.set_2 true
    have b2 : Blk (w4.setCell ⟨g, 2, none⟩ (.bool true)) w.heap.size 57 #[.int .i64 0, .string { data := #[] }, .slice none 0 0] := b2.far n1 _
    have b3 : Blk (w4.setCell ⟨g, 2, none⟩ (.bool true)) (w.heap.size + 1) 57 #[.int .i64 id, .string { data := #[] }, .slice none 0 0] := b3.far n2 _
    generalize w4.setCell ⟨g, 2, none⟩ (.bool true) = w4 at hR4 b2 b3 ⊢
    clear y0 y1 y2
    clear z zf
    have HT := Lib.hid (text_bad (at0 := at0 + 4) hR4.1 hR4.2.1 0 (.inl rfl) (by omega) hl)
    go_wp2_with fail
    refine HT.out.mono ?_
    rintro e w6 ⟨rfl, hR6⟩
    have b2 := Blk.keep b2 hR6.2.2 n1
    have b3 := Blk.keep b3 hR6.2.2 n2
    have hR6 := hR4.trans hR6
    have y0 := b3.cell 0
    have yf0 := b3.frozen 0
    have y1 := b3.cell 1
    have yf1 := b3.frozen 1
    have y2 := b3.cell 2
    have yf2 := b3.frozen 2
    simp at y0 y1 y2
    go_upto_region 7 with fail
    have hR6 := hR6.setNew hle (w.heap.size + 1) 1 (.string ByteArray.empty) (Nat.le_succ _) hg2
    have b2 : Blk (w6.setCell ⟨w.heap.size + 1, 1, none⟩ (.string ByteArray.empty)) w.heap.size 57 #[.int .i64 0, .string { data := #[] }, .slice none 0 0] := b2.far n3 _
    have b3 : Blk (w6.setCell ⟨w.heap.size + 1, 1, none⟩ (.string ByteArray.empty)) (w.heap.size + 1) 57 #[.int .i64 id, .string ByteArray.empty, .slice none 0 0] := b3.set_ 1 _
    generalize w6.setCell ⟨w.heap.size + 1, 1, none⟩ (.string ByteArray.empty) = w7 at hR6 b2 b3 ⊢
    clear y0 yf0 y1 yf1 y2 yf2
    have HQ := Lib.hid (rpay_any (at0 := at0 + 4) hR6.1 hR6.2.1 HBy.out hl (by omega))
    go_wp2_with fail
    refine HQ.out.mono ?_
    rintro e w8 ⟨at1, bb, hR8, hat, he⟩
    obtain ⟨rfl, rfl⟩ := he
    have b2 := Blk.keep b2 hR8.2.2 n1
    have b3 := Blk.keep b3 hR8.2.2 n2
    have hR8 := hR6.trans hR8
    have y0 := b3.cell 0
    have yf0 := b3.frozen 0
    have y1 := b3.cell 1
    have yf1 := b3.frozen 1
    have y2 := b3.cell 2
    have yf2 := b3.frozen 2
    simp at y0 y1 y2
    go_upto_region 8 with fail
    have hR8 := hR8.setNew hle (w.heap.size + 1) 2 (.slice none 0 0) (Nat.le_succ _) hg2
    have b2 : Blk (w8.setCell ⟨w.heap.size + 1, 2, none⟩ (.slice none 0 0)) w.heap.size 57 #[.int .i64 0, .string { data := #[] }, .slice none 0 0] := b2.far n3 _
    have b3 : Blk (w8.setCell ⟨w.heap.size + 1, 2, none⟩ (.slice none 0 0)) (w.heap.size + 1) 57 #[.int .i64 id, .string ByteArray.empty, .slice none 0 0] := b3.set_ 2 _
    generalize w8.setCell ⟨w.heap.size + 1, 2, none⟩ (.slice none 0 0) = w9 at hR8 b2 b3 ⊢
    clear y0 yf0 y1 yf1 y2 yf2
    obtain ⟨z, zf⟩ := rs_cell hR8.1
    have r0 := b2.cell 0
    have rf0 := b2.frozen 0
    have r1 := b2.cell 1
    have rf1 := b2.frozen 1
    have r2 := b2.cell 2
    have rf2 := b2.frozen 2
    simp at r0 r1 r2
    go_wp2_with fail
    try simp only [Exit.inBlock, Exit.then]
    refine bodyPost_ret (results_cell_row rfl _ _ w.heap.size 57 #[.int .i64 0, .string { data := #[] }, .slice none 0 0] (0, 0) _ rfl (show Blk _ w.heap.size 57 #[.int .i64 0, .string { data := #[] }, .slice none 0 0] from ((b2.set_ 0 _).set_ 1 _).set_ 2 _) Try.underlying57 rfl (by kernel_rfl)) rfl ?_
    exact ⟨at1, true, ((hR8.setNew hle _ 0 _ (Nat.le_refl _) hg1).setNew hle _ 1 _ (Nat.le_refl _) hg1).setNew hle _ 2 _ (Nat.le_refl _) hg1, by omega, rfl, rfl⟩
set_option maxRecDepth 20000 in
set_option maxHeartbeats 4000000 in
theorem rmsg_head (hI : IsS62 w0 w g L at0 false) (hb : Below w0.heap.size w0 w) (hB : By L) (hl : L.length ≤ 140737488355328) (ha : at0 ≤ L.length) (h5 : at0 + 5 ≤ L.length) (hcond : 1048576 ≤ num ((L.drop at0).take 4) ∨ (L.drop at0).getD 4 0 < 1 ∨ 32 < (L.drop at0).getD 4 0) :
    Calls Try.prog 23 #[.pointer (some ⟨g, 0, none⟩)] w (NPost w0 w g L (none) at0) := by
  have hgl := hI.lt
  have hle := hb.size
  have hR1 := ((RS.refl hI hb).alloc (.cells #[.int .i64 0, .string { data := #[] }, .slice none 0 0] 57)).alloc (.cells #[.int .i64 0, .string { data := #[] }, .slice none 0 0] 57)
  obtain ⟨b2, b3, _⟩ := two_new w #[.int .i64 0, .string { data := #[] }, .slice none 0 0] #[.int .i64 0, .string { data := #[] }, .slice none 0 0] 57 57
  have hg1 : g ≠ w.heap.size := by omega
  have hg2 : g ≠ w.heap.size + 1 := by omega
  have n1 := hg1.symm
  have n2 := hg2.symm
  have n3 : w.heap.size ≠ w.heap.size + 1 := by omega
  have n4 : w.heap.size + 1 ≠ w.heap.size := by omega
  have HBy := Lib.hid hB
  have hidb := num_bound (L.drop at0) (hB.drop at0) 4 (by rw [List.length_drop]; omega)
  generalize hid : num ((L.drop at0).take 4) = id at hidb hcond
  have hid0 : 0 ≤ id := hidb.1
  have hid1 : id < 4294967296 := hidb.2
  have HID := Lib.hid hid
  clear hid hidb
  obtain ⟨B4, hB4⟩ : ∃ B : Nat, (L.drop at0).getD 4 0 = B := ⟨((L.drop at0).getD 4 0).toNat, by have := ((hB.drop at0).at 4).1; omega⟩
  have hb4 : B4 < 256 := by have := ((hB.drop at0).at 4).2; omega
  have hn4 : num ((L.drop (at0 + 4)).take 1) = (B4 : Int) := by
    rw [num_take _ 0 (by rw [List.length_drop]; omega)]
    have q1 : (L.drop (at0 + 4)).getD 0 0 = (L.drop at0).getD 4 0 := by simp [List.getD, List.getElem?_drop]
    rw [q1, hB4]
    show 0 * 256 + _ = _
    omega
  have HN4 := Lib.hid hn4
  clear hn4
  rw [hB4] at hcond
  clear hI hb hB
  obtain ⟨W1, hW1⟩ : ∃ W1, W1 = ((w.alloc (.cells #[.int .i64 0, .string { data := #[] }, .slice none 0 0] 57)).alloc (.cells #[.int .i64 0, .string { data := #[] }, .slice none 0 0] 57)) := ⟨_, rfl⟩
  rw [← hW1] at hR1 b2 b3
  go_enter Try.func23, Try.ntmps23
  go_upto_region 2 with fail
  rw [← hW1]
  clear hW1
  have HN := Lib.hid (num_ok hR1.1 hR1.2.1 HBy.out 4 (by omega) (by omega) hl)
  rw [HID.out] at HN
  go_wp2_with fail
  refine HN.out.mono ?_
  rintro e w2 ⟨rfl, hR2⟩
  have b2 := Blk.keep b2 hR2.2.2 n1
  have b3 := Blk.keep b3 hR2.2.2 n2
  have hR2 := hR1.trans hR2
  have y0 := b3.cell 0
  have yf0 := b3.frozen 0
  have y1 := b3.cell 1
  have yf1 := b3.frozen 1
  have y2 := b3.cell 2
  have yf2 := b3.frozen 2
  simp at y0 y1 y2
  go_upto_region 3 with fail
  have hR2 := hR2.setNew hle (w.heap.size + 1) 0 (.int .i64 id) (Nat.le_succ _) hg2
  have b2 : Blk (w2.setCell ⟨w.heap.size + 1, 0, none⟩ (.int .i64 id)) w.heap.size 57 #[.int .i64 0, .string { data := #[] }, .slice none 0 0] := b2.far n3 _
  have b3 : Blk (w2.setCell ⟨w.heap.size + 1, 0, none⟩ (.int .i64 id)) (w.heap.size + 1) 57 #[.int .i64 id, .string { data := #[] }, .slice none 0 0] := b3.set_ 0 _
  generalize w2.setCell ⟨w.heap.size + 1, 0, none⟩ (.int .i64 id) = w3 at hR2 b2 b3 ⊢
  clear y0 yf0 y1 yf1 y2 yf2
  have HN2 := Lib.hid (num_ok (at0 := at0 + 4) hR2.1 hR2.2.1 HBy.out 1 (by omega) (by omega) hl)
  rw [HN4.out] at HN2
  go_wp2_with fail
  refine HN2.out.mono ?_
  rintro e w4 ⟨rfl, hR4⟩
  have b2 := Blk.keep b2 hR4.2.2 n1
  have b3 := Blk.keep b3 hR4.2.2 n2
  have hR4 := hR2.trans hR4
  by_cases c0 : 1048575 < id
  · have g0 : decide (id > 1048575) = true := by simp; omega
    obtain ⟨z, zf⟩ := rs_cell hR4.1
    have y0 := b3.cell 0
    have y1 := b3.cell 1
    have y2 := b3.cell 2
    simp at y0 y1 y2
    go_upto_region 6 with fail
    have hR4 := hR4.set_2 true
    have b2 : Blk (w4.setCell ⟨g, 2, none⟩ (.bool true)) w.heap.size 57 #[.int .i64 0, .string { data := #[] }, .slice none 0 0] := b2.far n1 _
    have b3 : Blk (w4.setCell ⟨g, 2, none⟩ (.bool true)) (w.heap.size + 1) 57 #[.int .i64 id, .string { data := #[] }, .slice none 0 0] := b3.far n2 _
    generalize w4.setCell ⟨g, 2, none⟩ (.bool true) = w4 at hR4 b2 b3 ⊢
    clear y0 y1 y2
    clear z zf
    have HT := Lib.hid (text_bad (at0 := at0 + 4 + 1) hR4.1 hR4.2.1 B4 (.inl rfl) (by omega) hl)
    go_wp2_with fail
    refine HT.out.mono ?_
    rintro e w6 ⟨rfl, hR6⟩
    have b2 := Blk.keep b2 hR6.2.2 n1
    have b3 := Blk.keep b3 hR6.2.2 n2
    have hR6 := hR4.trans hR6
    have y0 := b3.cell 0
    have yf0 := b3.frozen 0
    have y1 := b3.cell 1
    have yf1 := b3.frozen 1
    have y2 := b3.cell 2
    have yf2 := b3.frozen 2
    simp at y0 y1 y2
    go_upto_region 7 with fail
    have hR6 := hR6.setNew hle (w.heap.size + 1) 1 (.string ByteArray.empty) (Nat.le_succ _) hg2
    have b2 : Blk (w6.setCell ⟨w.heap.size + 1, 1, none⟩ (.string ByteArray.empty)) w.heap.size 57 #[.int .i64 0, .string { data := #[] }, .slice none 0 0] := b2.far n3 _
    have b3 : Blk (w6.setCell ⟨w.heap.size + 1, 1, none⟩ (.string ByteArray.empty)) (w.heap.size + 1) 57 #[.int .i64 id, .string ByteArray.empty, .slice none 0 0] := b3.set_ 1 _
    generalize w6.setCell ⟨w.heap.size + 1, 1, none⟩ (.string ByteArray.empty) = w7 at hR6 b2 b3 ⊢
    clear y0 yf0 y1 yf1 y2 yf2
    have HQ := Lib.hid (rpay_any (at0 := at0 + 4 + 1) hR6.1 hR6.2.1 HBy.out hl (by omega))
    go_wp2_with fail
    refine HQ.out.mono ?_
    rintro e w8 ⟨at1, bb, hR8, hat, he⟩
    obtain ⟨rfl, rfl⟩ := he
    have b2 := Blk.keep b2 hR8.2.2 n1
    have b3 := Blk.keep b3 hR8.2.2 n2
    have hR8 := hR6.trans hR8
    have y0 := b3.cell 0
    have yf0 := b3.frozen 0
    have y1 := b3.cell 1
    have yf1 := b3.frozen 1
    have y2 := b3.cell 2
    have yf2 := b3.frozen 2
    simp at y0 y1 y2
    go_upto_region 8 with fail
    have hR8 := hR8.setNew hle (w.heap.size + 1) 2 (.slice none 0 0) (Nat.le_succ _) hg2
    have b2 : Blk (w8.setCell ⟨w.heap.size + 1, 2, none⟩ (.slice none 0 0)) w.heap.size 57 #[.int .i64 0, .string { data := #[] }, .slice none 0 0] := b2.far n3 _
    have b3 : Blk (w8.setCell ⟨w.heap.size + 1, 2, none⟩ (.slice none 0 0)) (w.heap.size + 1) 57 #[.int .i64 id, .string ByteArray.empty, .slice none 0 0] := b3.set_ 2 _
    generalize w8.setCell ⟨w.heap.size + 1, 2, none⟩ (.slice none 0 0) = w9 at hR8 b2 b3 ⊢
    clear y0 yf0 y1 yf1 y2 yf2
    obtain ⟨z, zf⟩ := rs_cell hR8.1
    have r0 := b2.cell 0
    have rf0 := b2.frozen 0
    have r1 := b2.cell 1
    have rf1 := b2.frozen 1
    have r2 := b2.cell 2
    have rf2 := b2.frozen 2
    simp at r0 r1 r2
    go_wp2_with fail
    try simp only [Exit.inBlock, Exit.then]
    refine bodyPost_ret (results_cell_row rfl _ _ w.heap.size 57 #[.int .i64 0, .string { data := #[] }, .slice none 0 0] (0, 0) _ rfl (show Blk _ w.heap.size 57 #[.int .i64 0, .string { data := #[] }, .slice none 0 0] from ((b2.set_ 0 _).set_ 1 _).set_ 2 _) Try.underlying57 rfl (by kernel_rfl)) rfl ?_
    exact ⟨at1, true, ((hR8.setNew hle _ 0 _ (Nat.le_refl _) hg1).setNew hle _ 1 _ (Nat.le_refl _) hg1).setNew hle _ 2 _ (Nat.le_refl _) hg1, by omega, rfl, rfl⟩
  · by_cases c1 : (B4 : Int) < 1
    · have g0 : decide (id > 1048575) = false := by simp; omega
      have g1 : decide ((B4 : Int) < 1) = true := by simp; omega
      obtain ⟨z, zf⟩ := rs_cell hR4.1
      have y0 := b3.cell 0
      have y1 := b3.cell 1
      have y2 := b3.cell 2
      simp at y0 y1 y2
      go_upto_region 6 with fail
      have hR4 := hR4.set_2 true
      have b2 : Blk (w4.setCell ⟨g, 2, none⟩ (.bool true)) w.heap.size 57 #[.int .i64 0, .string { data := #[] }, .slice none 0 0] := b2.far n1 _
      have b3 : Blk (w4.setCell ⟨g, 2, none⟩ (.bool true)) (w.heap.size + 1) 57 #[.int .i64 id, .string { data := #[] }, .slice none 0 0] := b3.far n2 _
      generalize w4.setCell ⟨g, 2, none⟩ (.bool true) = w4 at hR4 b2 b3 ⊢
      clear y0 y1 y2
      clear z zf
      have HT := Lib.hid (text_bad (at0 := at0 + 4 + 1) hR4.1 hR4.2.1 B4 (.inl rfl) (by omega) hl)
      go_wp2_with fail
      refine HT.out.mono ?_
      rintro e w6 ⟨rfl, hR6⟩
      have b2 := Blk.keep b2 hR6.2.2 n1
      have b3 := Blk.keep b3 hR6.2.2 n2
      have hR6 := hR4.trans hR6
      have y0 := b3.cell 0
      have yf0 := b3.frozen 0
      have y1 := b3.cell 1
      have yf1 := b3.frozen 1
      have y2 := b3.cell 2
      have yf2 := b3.frozen 2
      simp at y0 y1 y2
      go_upto_region 7 with fail
      have hR6 := hR6.setNew hle (w.heap.size + 1) 1 (.string ByteArray.empty) (Nat.le_succ _) hg2
      have b2 : Blk (w6.setCell ⟨w.heap.size + 1, 1, none⟩ (.string ByteArray.empty)) w.heap.size 57 #[.int .i64 0, .string { data := #[] }, .slice none 0 0] := b2.far n3 _
      have b3 : Blk (w6.setCell ⟨w.heap.size + 1, 1, none⟩ (.string ByteArray.empty)) (w.heap.size + 1) 57 #[.int .i64 id, .string ByteArray.empty, .slice none 0 0] := b3.set_ 1 _
      generalize w6.setCell ⟨w.heap.size + 1, 1, none⟩ (.string ByteArray.empty) = w7 at hR6 b2 b3 ⊢
      clear y0 yf0 y1 yf1 y2 yf2
      have HQ := Lib.hid (rpay_any (at0 := at0 + 4 + 1) hR6.1 hR6.2.1 HBy.out hl (by omega))
      go_wp2_with fail
      refine HQ.out.mono ?_
      rintro e w8 ⟨at1, bb, hR8, hat, he⟩
      obtain ⟨rfl, rfl⟩ := he
      have b2 := Blk.keep b2 hR8.2.2 n1
      have b3 := Blk.keep b3 hR8.2.2 n2
      have hR8 := hR6.trans hR8
      have y0 := b3.cell 0
      have yf0 := b3.frozen 0
      have y1 := b3.cell 1
      have yf1 := b3.frozen 1
      have y2 := b3.cell 2
      have yf2 := b3.frozen 2
      simp at y0 y1 y2
      go_upto_region 8 with fail
      have hR8 := hR8.setNew hle (w.heap.size + 1) 2 (.slice none 0 0) (Nat.le_succ _) hg2
      have b2 : Blk (w8.setCell ⟨w.heap.size + 1, 2, none⟩ (.slice none 0 0)) w.heap.size 57 #[.int .i64 0, .string { data := #[] }, .slice none 0 0] := b2.far n3 _
      have b3 : Blk (w8.setCell ⟨w.heap.size + 1, 2, none⟩ (.slice none 0 0)) (w.heap.size + 1) 57 #[.int .i64 id, .string ByteArray.empty, .slice none 0 0] := b3.set_ 2 _
      generalize w8.setCell ⟨w.heap.size + 1, 2, none⟩ (.slice none 0 0) = w9 at hR8 b2 b3 ⊢
      clear y0 yf0 y1 yf1 y2 yf2
      obtain ⟨z, zf⟩ := rs_cell hR8.1
      have r0 := b2.cell 0
      have rf0 := b2.frozen 0
      have r1 := b2.cell 1
      have rf1 := b2.frozen 1
      have r2 := b2.cell 2
      have rf2 := b2.frozen 2
      simp at r0 r1 r2
      go_wp2_with fail
      try simp only [Exit.inBlock, Exit.then]
      refine bodyPost_ret (results_cell_row rfl _ _ w.heap.size 57 #[.int .i64 0, .string { data := #[] }, .slice none 0 0] (0, 0) _ rfl (show Blk _ w.heap.size 57 #[.int .i64 0, .string { data := #[] }, .slice none 0 0] from ((b2.set_ 0 _).set_ 1 _).set_ 2 _) Try.underlying57 rfl (by kernel_rfl)) rfl ?_
      exact ⟨at1, true, ((hR8.setNew hle _ 0 _ (Nat.le_refl _) hg1).setNew hle _ 1 _ (Nat.le_refl _) hg1).setNew hle _ 2 _ (Nat.le_refl _) hg1, by omega, rfl, rfl⟩
    · have c2 : 32 < (B4 : Int) := by omega
      have g0 : decide (id > 1048575) = false := by simp; omega
      have g1 : decide ((B4 : Int) < 1) = false := by simp; omega
      have g2 : decide ((B4 : Int) > 32) = true := by simp; omega
      obtain ⟨z, zf⟩ := rs_cell hR4.1
      have y0 := b3.cell 0
      have y1 := b3.cell 1
      have y2 := b3.cell 2
      simp at y0 y1 y2
      go_upto_region 6 with fail
      have hR4 := hR4.set_2 true
      have b2 : Blk (w4.setCell ⟨g, 2, none⟩ (.bool true)) w.heap.size 57 #[.int .i64 0, .string { data := #[] }, .slice none 0 0] := b2.far n1 _
      have b3 : Blk (w4.setCell ⟨g, 2, none⟩ (.bool true)) (w.heap.size + 1) 57 #[.int .i64 id, .string { data := #[] }, .slice none 0 0] := b3.far n2 _
      generalize w4.setCell ⟨g, 2, none⟩ (.bool true) = w4 at hR4 b2 b3 ⊢
      clear y0 y1 y2
      clear z zf
      have HT := Lib.hid (text_bad (at0 := at0 + 4 + 1) hR4.1 hR4.2.1 B4 (.inl rfl) (by omega) hl)
      go_wp2_with fail
      refine HT.out.mono ?_
      rintro e w6 ⟨rfl, hR6⟩
      have b2 := Blk.keep b2 hR6.2.2 n1
      have b3 := Blk.keep b3 hR6.2.2 n2
      have hR6 := hR4.trans hR6
      have y0 := b3.cell 0
      have yf0 := b3.frozen 0
      have y1 := b3.cell 1
      have yf1 := b3.frozen 1
      have y2 := b3.cell 2
      have yf2 := b3.frozen 2
      simp at y0 y1 y2
      go_upto_region 7 with fail
      have hR6 := hR6.setNew hle (w.heap.size + 1) 1 (.string ByteArray.empty) (Nat.le_succ _) hg2
      have b2 : Blk (w6.setCell ⟨w.heap.size + 1, 1, none⟩ (.string ByteArray.empty)) w.heap.size 57 #[.int .i64 0, .string { data := #[] }, .slice none 0 0] := b2.far n3 _
      have b3 : Blk (w6.setCell ⟨w.heap.size + 1, 1, none⟩ (.string ByteArray.empty)) (w.heap.size + 1) 57 #[.int .i64 id, .string ByteArray.empty, .slice none 0 0] := b3.set_ 1 _
      generalize w6.setCell ⟨w.heap.size + 1, 1, none⟩ (.string ByteArray.empty) = w7 at hR6 b2 b3 ⊢
      clear y0 yf0 y1 yf1 y2 yf2
      have HQ := Lib.hid (rpay_any (at0 := at0 + 4 + 1) hR6.1 hR6.2.1 HBy.out hl (by omega))
      go_wp2_with fail
      refine HQ.out.mono ?_
      rintro e w8 ⟨at1, bb, hR8, hat, he⟩
      obtain ⟨rfl, rfl⟩ := he
      have b2 := Blk.keep b2 hR8.2.2 n1
      have b3 := Blk.keep b3 hR8.2.2 n2
      have hR8 := hR6.trans hR8
      have y0 := b3.cell 0
      have yf0 := b3.frozen 0
      have y1 := b3.cell 1
      have yf1 := b3.frozen 1
      have y2 := b3.cell 2
      have yf2 := b3.frozen 2
      simp at y0 y1 y2
      go_upto_region 8 with fail
      have hR8 := hR8.setNew hle (w.heap.size + 1) 2 (.slice none 0 0) (Nat.le_succ _) hg2
      have b2 : Blk (w8.setCell ⟨w.heap.size + 1, 2, none⟩ (.slice none 0 0)) w.heap.size 57 #[.int .i64 0, .string { data := #[] }, .slice none 0 0] := b2.far n3 _
      have b3 : Blk (w8.setCell ⟨w.heap.size + 1, 2, none⟩ (.slice none 0 0)) (w.heap.size + 1) 57 #[.int .i64 id, .string ByteArray.empty, .slice none 0 0] := b3.set_ 2 _
      generalize w8.setCell ⟨w.heap.size + 1, 2, none⟩ (.slice none 0 0) = w9 at hR8 b2 b3 ⊢
      clear y0 yf0 y1 yf1 y2 yf2
      obtain ⟨z, zf⟩ := rs_cell hR8.1
      have r0 := b2.cell 0
      have rf0 := b2.frozen 0
      have r1 := b2.cell 1
      have rf1 := b2.frozen 1
      have r2 := b2.cell 2
      have rf2 := b2.frozen 2
      simp at r0 r1 r2
      go_wp2_with fail
      try simp only [Exit.inBlock, Exit.then]
      refine bodyPost_ret (results_cell_row rfl _ _ w.heap.size 57 #[.int .i64 0, .string { data := #[] }, .slice none 0 0] (0, 0) _ rfl (show Blk _ w.heap.size 57 #[.int .i64 0, .string { data := #[] }, .slice none 0 0] from ((b2.set_ 0 _).set_ 1 _).set_ 2 _) Try.underlying57 rfl (by kernel_rfl)) rfl ?_
      exact ⟨at1, true, ((hR8.setNew hle _ 0 _ (Nat.le_refl _) hg1).setNew hle _ 1 _ (Nat.le_refl _) hg1).setNew hle _ 2 _ (Nat.le_refl _) hg1, by omega, rfl, rfl⟩
set_option maxRecDepth 20000 in
set_option maxHeartbeats 4000000 in
theorem rmsg_tag (hI : IsS62 w0 w g L at0 false) (hb : Below w0.heap.size w0 w) (hB : By L) (hl : L.length ≤ 140737488355328) (ha : at0 ≤ L.length) (h5 : at0 + 5 ≤ L.length) (hcond : ¬ (1048576 ≤ num ((L.drop at0).take 4) ∨ (L.drop at0).getD 4 0 < 1 ∨ 32 < (L.drop at0).getD 4 0)) (hlen : L.length < at0 + 5 + ((L.drop at0).getD 4 0).toNat) :
    Calls Try.prog 23 #[.pointer (some ⟨g, 0, none⟩)] w (NPost w0 w g L (none) at0) := by
  have hgl := hI.lt
  have hle := hb.size
  have hR1 := ((RS.refl hI hb).alloc (.cells #[.int .i64 0, .string { data := #[] }, .slice none 0 0] 57)).alloc (.cells #[.int .i64 0, .string { data := #[] }, .slice none 0 0] 57)
  obtain ⟨b2, b3, _⟩ := two_new w #[.int .i64 0, .string { data := #[] }, .slice none 0 0] #[.int .i64 0, .string { data := #[] }, .slice none 0 0] 57 57
  have hg1 : g ≠ w.heap.size := by omega
  have hg2 : g ≠ w.heap.size + 1 := by omega
  have n1 := hg1.symm
  have n2 := hg2.symm
  have n3 : w.heap.size ≠ w.heap.size + 1 := by omega
  have n4 : w.heap.size + 1 ≠ w.heap.size := by omega
  have HBy := Lib.hid hB
  have hidb := num_bound (L.drop at0) (hB.drop at0) 4 (by rw [List.length_drop]; omega)
  generalize hid : num ((L.drop at0).take 4) = id at hidb hcond
  have hid0 : 0 ≤ id := hidb.1
  have hid1 : id < 4294967296 := hidb.2
  have HID := Lib.hid hid
  clear hid hidb
  obtain ⟨B4, hB4⟩ : ∃ B : Nat, (L.drop at0).getD 4 0 = B := ⟨((L.drop at0).getD 4 0).toNat, by have := ((hB.drop at0).at 4).1; omega⟩
  have hb4 : B4 < 256 := by have := ((hB.drop at0).at 4).2; omega
  have hn4 : num ((L.drop (at0 + 4)).take 1) = (B4 : Int) := by
    rw [num_take _ 0 (by rw [List.length_drop]; omega)]
    have q1 : (L.drop (at0 + 4)).getD 0 0 = (L.drop at0).getD 4 0 := by simp [List.getD, List.getElem?_drop]
    rw [q1, hB4]
    show 0 * 256 + _ = _
    omega
  have HN4 := Lib.hid hn4
  clear hn4
  rw [hB4] at hcond hlen
  rw [Int.toNat_natCast] at hlen
  clear hI hb hB
  obtain ⟨W1, hW1⟩ : ∃ W1, W1 = ((w.alloc (.cells #[.int .i64 0, .string { data := #[] }, .slice none 0 0] 57)).alloc (.cells #[.int .i64 0, .string { data := #[] }, .slice none 0 0] 57)) := ⟨_, rfl⟩
  rw [← hW1] at hR1 b2 b3
  go_enter Try.func23, Try.ntmps23
  go_upto_region 2 with fail
  rw [← hW1]
  clear hW1
  have HN := Lib.hid (num_ok hR1.1 hR1.2.1 HBy.out 4 (by omega) (by omega) hl)
  rw [HID.out] at HN
  go_wp2_with fail
  refine HN.out.mono ?_
  rintro e w2 ⟨rfl, hR2⟩
  have b2 := Blk.keep b2 hR2.2.2 n1
  have b3 := Blk.keep b3 hR2.2.2 n2
  have hR2 := hR1.trans hR2
  have y0 := b3.cell 0
  have yf0 := b3.frozen 0
  have y1 := b3.cell 1
  have yf1 := b3.frozen 1
  have y2 := b3.cell 2
  have yf2 := b3.frozen 2
  simp at y0 y1 y2
  go_upto_region 3 with fail
  have hR2 := hR2.setNew hle (w.heap.size + 1) 0 (.int .i64 id) (Nat.le_succ _) hg2
  have b2 : Blk (w2.setCell ⟨w.heap.size + 1, 0, none⟩ (.int .i64 id)) w.heap.size 57 #[.int .i64 0, .string { data := #[] }, .slice none 0 0] := b2.far n3 _
  have b3 : Blk (w2.setCell ⟨w.heap.size + 1, 0, none⟩ (.int .i64 id)) (w.heap.size + 1) 57 #[.int .i64 id, .string { data := #[] }, .slice none 0 0] := b3.set_ 0 _
  generalize w2.setCell ⟨w.heap.size + 1, 0, none⟩ (.int .i64 id) = w3 at hR2 b2 b3 ⊢
  clear y0 yf0 y1 yf1 y2 yf2
  have HN2 := Lib.hid (num_ok (at0 := at0 + 4) hR2.1 hR2.2.1 HBy.out 1 (by omega) (by omega) hl)
  rw [HN4.out] at HN2
  go_wp2_with fail
  refine HN2.out.mono ?_
  rintro e w4 ⟨rfl, hR4⟩
  have b2 := Blk.keep b2 hR4.2.2 n1
  have b3 := Blk.keep b3 hR4.2.2 n2
  have hR4 := hR2.trans hR4
  have g0 : decide (id > 1048575) = false := by simp; omega
  have g1 : decide ((B4 : Int) < 1) = false := by simp; omega
  have g2 : decide ((B4 : Int) > 32) = false := by simp; omega
  have y0 := b3.cell 0
  have y1 := b3.cell 1
  have y2 := b3.cell 2
  simp at y0 y1 y2
  go_upto_region 6 with fail
  clear y0 y1 y2
  have HT := Lib.hid (text_bad (at0 := at0 + 4 + 1) hR4.1 hR4.2.1 B4 (.inr (by omega)) (by omega) hl)
  go_wp2_with fail
  refine HT.out.mono ?_
  rintro e w6 ⟨rfl, hR6⟩
  have b2 := Blk.keep b2 hR6.2.2 n1
  have b3 := Blk.keep b3 hR6.2.2 n2
  have hR6 := hR4.trans hR6
  have y0 := b3.cell 0
  have yf0 := b3.frozen 0
  have y1 := b3.cell 1
  have yf1 := b3.frozen 1
  have y2 := b3.cell 2
  have yf2 := b3.frozen 2
  simp at y0 y1 y2
  go_upto_region 7 with fail
  have hR6 := hR6.setNew hle (w.heap.size + 1) 1 (.string ByteArray.empty) (Nat.le_succ _) hg2
  have b2 : Blk (w6.setCell ⟨w.heap.size + 1, 1, none⟩ (.string ByteArray.empty)) w.heap.size 57 #[.int .i64 0, .string { data := #[] }, .slice none 0 0] := b2.far n3 _
  have b3 : Blk (w6.setCell ⟨w.heap.size + 1, 1, none⟩ (.string ByteArray.empty)) (w.heap.size + 1) 57 #[.int .i64 id, .string ByteArray.empty, .slice none 0 0] := b3.set_ 1 _
  generalize w6.setCell ⟨w.heap.size + 1, 1, none⟩ (.string ByteArray.empty) = w7 at hR6 b2 b3 ⊢
  clear y0 yf0 y1 yf1 y2 yf2
  have HQ := Lib.hid (rpay_any (at0 := at0 + 4 + 1) hR6.1 hR6.2.1 HBy.out hl (by omega))
  go_wp2_with fail
  refine HQ.out.mono ?_
  rintro e w8 ⟨at1, bb, hR8, hat, he⟩
  obtain ⟨rfl, rfl⟩ := he
  have b2 := Blk.keep b2 hR8.2.2 n1
  have b3 := Blk.keep b3 hR8.2.2 n2
  have hR8 := hR6.trans hR8
  have y0 := b3.cell 0
  have yf0 := b3.frozen 0
  have y1 := b3.cell 1
  have yf1 := b3.frozen 1
  have y2 := b3.cell 2
  have yf2 := b3.frozen 2
  simp at y0 y1 y2
  go_upto_region 8 with fail
  have hR8 := hR8.setNew hle (w.heap.size + 1) 2 (.slice none 0 0) (Nat.le_succ _) hg2
  have b2 : Blk (w8.setCell ⟨w.heap.size + 1, 2, none⟩ (.slice none 0 0)) w.heap.size 57 #[.int .i64 0, .string { data := #[] }, .slice none 0 0] := b2.far n3 _
  have b3 : Blk (w8.setCell ⟨w.heap.size + 1, 2, none⟩ (.slice none 0 0)) (w.heap.size + 1) 57 #[.int .i64 id, .string ByteArray.empty, .slice none 0 0] := b3.set_ 2 _
  generalize w8.setCell ⟨w.heap.size + 1, 2, none⟩ (.slice none 0 0) = w9 at hR8 b2 b3 ⊢
  clear y0 yf0 y1 yf1 y2 yf2
  obtain ⟨z, zf⟩ := rs_cell hR8.1
  have r0 := b2.cell 0
  have rf0 := b2.frozen 0
  have r1 := b2.cell 1
  have rf1 := b2.frozen 1
  have r2 := b2.cell 2
  have rf2 := b2.frozen 2
  simp at r0 r1 r2
  go_wp2_with fail
  try simp only [Exit.inBlock, Exit.then]
  refine bodyPost_ret (results_cell_row rfl _ _ w.heap.size 57 #[.int .i64 0, .string { data := #[] }, .slice none 0 0] (0, 0) _ rfl (show Blk _ w.heap.size 57 #[.int .i64 0, .string { data := #[] }, .slice none 0 0] from ((b2.set_ 0 _).set_ 1 _).set_ 2 _) Try.underlying57 rfl (by kernel_rfl)) rfl ?_
  exact ⟨at1, true, ((hR8.setNew hle _ 0 _ (Nat.le_refl _) hg1).setNew hle _ 1 _ (Nat.le_refl _) hg1).setNew hle _ 2 _ (Nat.le_refl _) hg1, by omega, rfl, rfl⟩
set_option maxRecDepth 20000 in
set_option maxHeartbeats 4000000 in
theorem rmsg_main (hI : IsS62 w0 w g L at0 false) (hb : Below w0.heap.size w0 w) (hB : By L) (hl : L.length ≤ 140737488355328) (ha : at0 ≤ L.length) (h5 : at0 + 5 ≤ L.length) (hcond : ¬ (1048576 ≤ num ((L.drop at0).take 4) ∨ (L.drop at0).getD 4 0 < 1 ∨ 32 < (L.drop at0).getD 4 0)) (hlen : at0 + 5 + ((L.drop at0).getD 4 0).toNat ≤ L.length) :
    Calls Try.prog 23 #[.pointer (some ⟨g, 0, none⟩)] w (NPost w0 w g L ((match rdP (L.drop (at0 + 4 + 1 + ((L.drop at0).getD 4 0).toNat)) with | none => none | some (vs, m) => some (⟨num ((L.drop at0).take 4), strOfNums ((L.take (at0 + 4 + 1 + ((L.drop at0).getD 4 0).toNat)).drop (at0 + 4 + 1)), vs⟩, 5 + ((L.drop at0).getD 4 0).toNat + m))) at0) := by
  have hgl := hI.lt
  have hle := hb.size
  have hR1 := ((RS.refl hI hb).alloc (.cells #[.int .i64 0, .string { data := #[] }, .slice none 0 0] 57)).alloc (.cells #[.int .i64 0, .string { data := #[] }, .slice none 0 0] 57)
  obtain ⟨b2, b3, _⟩ := two_new w #[.int .i64 0, .string { data := #[] }, .slice none 0 0] #[.int .i64 0, .string { data := #[] }, .slice none 0 0] 57 57
  have hg1 : g ≠ w.heap.size := by omega
  have hg2 : g ≠ w.heap.size + 1 := by omega
  have n1 := hg1.symm
  have n2 := hg2.symm
  have n3 : w.heap.size ≠ w.heap.size + 1 := by omega
  have n4 : w.heap.size + 1 ≠ w.heap.size := by omega
  have HBy := Lib.hid hB
  have hidb := num_bound (L.drop at0) (hB.drop at0) 4 (by rw [List.length_drop]; omega)
  generalize hid : num ((L.drop at0).take 4) = id at hidb hcond ⊢
  have hid0 : 0 ≤ id := hidb.1
  have hid1 : id < 4294967296 := hidb.2
  have HID := Lib.hid hid
  clear hid hidb
  obtain ⟨B4, hB4⟩ : ∃ B : Nat, (L.drop at0).getD 4 0 = B := ⟨((L.drop at0).getD 4 0).toNat, by have := ((hB.drop at0).at 4).1; omega⟩
  have hb4 : B4 < 256 := by have := ((hB.drop at0).at 4).2; omega
  have hn4 : num ((L.drop (at0 + 4)).take 1) = (B4 : Int) := by
    rw [num_take _ 0 (by rw [List.length_drop]; omega)]
    have q1 : (L.drop (at0 + 4)).getD 0 0 = (L.drop at0).getD 4 0 := by simp [List.getD, List.getElem?_drop]
    rw [q1, hB4]
    show 0 * 256 + _ = _
    omega
  have HN4 := Lib.hid hn4
  clear hn4
  rw [hB4, Int.toNat_natCast] at hlen ⊢
  rw [hB4] at hcond
  generalize htg : strOfNums ((L.take (at0 + 4 + 1 + B4)).drop (at0 + 4 + 1)) = tg
  have HTG := Lib.hid htg
  clear htg
  obtain ⟨PQ, hPQ⟩ : ∃ PQ, PQ = NPost w0 w g L (match rdP (L.drop (at0 + 4 + 1 + B4)) with | none => none | some (vs, m) => some (⟨id, tg, vs⟩, 5 + B4 + m)) at0 := ⟨_, rfl⟩
  rw [← hPQ]
  have HPQ := Lib.hid hPQ
  clear hPQ
  clear hI hb hB
  obtain ⟨W1, hW1⟩ : ∃ W1, W1 = ((w.alloc (.cells #[.int .i64 0, .string { data := #[] }, .slice none 0 0] 57)).alloc (.cells #[.int .i64 0, .string { data := #[] }, .slice none 0 0] 57)) := ⟨_, rfl⟩
  rw [← hW1] at hR1 b2 b3
  go_enter Try.func23, Try.ntmps23
  go_upto_region 2 with fail
  rw [← hW1]
  clear hW1
  have HN := Lib.hid (num_ok hR1.1 hR1.2.1 HBy.out 4 (by omega) (by omega) hl)
  rw [HID.out] at HN
  go_wp2_with fail
  refine HN.out.mono ?_
  rintro e w2 ⟨rfl, hR2⟩
  have b2 := Blk.keep b2 hR2.2.2 n1
  have b3 := Blk.keep b3 hR2.2.2 n2
  have hR2 := hR1.trans hR2
  have y0 := b3.cell 0
  have yf0 := b3.frozen 0
  have y1 := b3.cell 1
  have yf1 := b3.frozen 1
  have y2 := b3.cell 2
  have yf2 := b3.frozen 2
  simp at y0 y1 y2
  go_upto_region 3 with fail
  have hR2 := hR2.setNew hle (w.heap.size + 1) 0 (.int .i64 id) (Nat.le_succ _) hg2
  have b2 : Blk (w2.setCell ⟨w.heap.size + 1, 0, none⟩ (.int .i64 id)) w.heap.size 57 #[.int .i64 0, .string { data := #[] }, .slice none 0 0] := b2.far n3 _
  have b3 : Blk (w2.setCell ⟨w.heap.size + 1, 0, none⟩ (.int .i64 id)) (w.heap.size + 1) 57 #[.int .i64 id, .string { data := #[] }, .slice none 0 0] := b3.set_ 0 _
  generalize w2.setCell ⟨w.heap.size + 1, 0, none⟩ (.int .i64 id) = w3 at hR2 b2 b3 ⊢
  clear y0 yf0 y1 yf1 y2 yf2
  have HN2 := Lib.hid (num_ok (at0 := at0 + 4) hR2.1 hR2.2.1 HBy.out 1 (by omega) (by omega) hl)
  rw [HN4.out] at HN2
  go_wp2_with fail
  refine HN2.out.mono ?_
  rintro e w4 ⟨rfl, hR4⟩
  have b2 := Blk.keep b2 hR4.2.2 n1
  have b3 := Blk.keep b3 hR4.2.2 n2
  have hR4 := hR2.trans hR4
  have g0 : decide (id > 1048575) = false := by simp; omega
  have g1 : decide ((B4 : Int) < 1) = false := by simp; omega
  have g2 : decide ((B4 : Int) > 32) = false := by simp; omega
  have y0 := b3.cell 0
  have y1 := b3.cell 1
  have y2 := b3.cell 2
  simp at y0 y1 y2
  go_upto_region 6 with fail
  clear y0 y1 y2
  have HT := Lib.hid (text_ok (at0 := at0 + 4 + 1) hR4.1 hR4.2.1 B4 (by omega) hl)
  rw [HTG.out] at HT
  go_wp2_with fail
  refine HT.out.mono ?_
  rintro e w6 ⟨rfl, hR6⟩
  have b2 := Blk.keep b2 hR6.2.2 n1
  have b3 := Blk.keep b3 hR6.2.2 n2
  have hR6 := hR4.trans hR6
  have y0 := b3.cell 0
  have yf0 := b3.frozen 0
  have y1 := b3.cell 1
  have yf1 := b3.frozen 1
  have y2 := b3.cell 2
  have yf2 := b3.frozen 2
  simp at y0 y1 y2
  go_upto_region 7 with fail
  have hR6 := hR6.setNew hle (w.heap.size + 1) 1 (.string tg) (Nat.le_succ _) hg2
  have b2 : Blk (w6.setCell ⟨w.heap.size + 1, 1, none⟩ (.string tg)) w.heap.size 57 #[.int .i64 0, .string { data := #[] }, .slice none 0 0] := b2.far n3 _
  have b3 : Blk (w6.setCell ⟨w.heap.size + 1, 1, none⟩ (.string tg)) (w.heap.size + 1) 57 #[.int .i64 id, .string tg, .slice none 0 0] := b3.set_ 1 _
  generalize w6.setCell ⟨w.heap.size + 1, 1, none⟩ (.string tg) = w7 at hR6 b2 b3 ⊢
  clear y0 yf0 y1 yf1 y2 yf2
  have hbase : w.heap.size + 1 < w7.heap.size := b3.lt
  have hq := rpay_any (at0 := at0 + 4 + 1 + B4) hR6.1 hR6.2.1 HBy.out hl (by omega)
  rw [if_neg (by simp)] at hq
  generalize rdP (L.drop (at0 + 4 + 1 + B4)) = o at hq HPQ
  have HQ := Lib.hid hq
  clear hq
  cases o with
  | none =>
    go_wp2_with fail
    refine HQ.out.mono ?_
    rintro e w8 ⟨at1, bb, hR8, hat, he⟩
    obtain ⟨rfl, rfl⟩ := he
    have b2 := Blk.keep b2 hR8.2.2 n1
    have b3 := Blk.keep b3 hR8.2.2 n2
    have hR8 := hR6.trans hR8
    have y0 := b3.cell 0
    have yf0 := b3.frozen 0
    have y1 := b3.cell 1
    have yf1 := b3.frozen 1
    have y2 := b3.cell 2
    have yf2 := b3.frozen 2
    simp at y0 y1 y2
    go_upto_region 8 with fail
    have hR8 := hR8.setNew hle (w.heap.size + 1) 2 (.slice none 0 0) (Nat.le_succ _) hg2
    have b2 : Blk (w8.setCell ⟨w.heap.size + 1, 2, none⟩ (.slice none 0 0)) w.heap.size 57 #[.int .i64 0, .string { data := #[] }, .slice none 0 0] := b2.far n3 _
    have b3 : Blk (w8.setCell ⟨w.heap.size + 1, 2, none⟩ (.slice none 0 0)) (w.heap.size + 1) 57 #[.int .i64 id, .string tg, .slice none 0 0] := b3.set_ 2 _
    generalize w8.setCell ⟨w.heap.size + 1, 2, none⟩ (.slice none 0 0) = w9 at hR8 b2 b3 ⊢
    clear y0 yf0 y1 yf1 y2 yf2
    obtain ⟨z, zf⟩ := rs_cell hR8.1
    have r0 := b2.cell 0
    have rf0 := b2.frozen 0
    have r1 := b2.cell 1
    have rf1 := b2.frozen 1
    have r2 := b2.cell 2
    have rf2 := b2.frozen 2
    simp at r0 r1 r2
    go_wp2_with fail
    try simp only [Exit.inBlock, Exit.then]
    rw [HPQ.out]
    refine bodyPost_ret (results_cell_row rfl _ _ w.heap.size 57 #[.int .i64 0, .string { data := #[] }, .slice none 0 0] (0, 0) _ rfl (show Blk _ w.heap.size 57 #[.int .i64 0, .string { data := #[] }, .slice none 0 0] from ((b2.set_ 0 _).set_ 1 _).set_ 2 _) Try.underlying57 rfl (by kernel_rfl)) rfl ?_
    exact ⟨at1, true, ((hR8.setNew hle _ 0 _ (Nat.le_refl _) hg1).setNew hle _ 1 _ (Nat.le_refl _) hg1).setNew hle _ 2 _ (Nat.le_refl _) hg1, by omega, rfl, rfl⟩
  | some p =>
    obtain ⟨vs, m⟩ := p
    go_wp2_with fail
    refine HQ.out.mono ?_
    rintro e w8 ⟨at1, bb, hR8, hat, he⟩
    obtain ⟨⟨v, rfl, hRow⟩, rfl, rfl⟩ := he
    obtain ⟨Av, cv, rfl⟩ := Kd.R_slice hRow
    have b2 := Blk.keep b2 hR8.2.2 n1
    have b3 := Blk.keep b3 hR8.2.2 n2
    have hR8 := hR6.trans hR8
    have HRow := Lib.hid (R_over hRow ((Chg.refl [w.heap.size + 1] w8).setCell (p := ⟨w.heap.size + 1, 2, none⟩) (.inl (by simp)) (.slice Av vs.length cv)) (by simpa using hbase))
    clear hRow
    have y0 := b3.cell 0
    have yf0 := b3.frozen 0
    have y1 := b3.cell 1
    have yf1 := b3.frozen 1
    have y2 := b3.cell 2
    have yf2 := b3.frozen 2
    simp at y0 y1 y2
    go_upto_region 8 with fail
    have hR8 := hR8.setNew hle (w.heap.size + 1) 2 (.slice Av vs.length cv) (Nat.le_succ _) hg2
    have b2 : Blk (w8.setCell ⟨w.heap.size + 1, 2, none⟩ (.slice Av vs.length cv)) w.heap.size 57 #[.int .i64 0, .string { data := #[] }, .slice none 0 0] := b2.far n3 _
    have b3 : Blk (w8.setCell ⟨w.heap.size + 1, 2, none⟩ (.slice Av vs.length cv)) (w.heap.size + 1) 57 #[.int .i64 id, .string tg, .slice Av vs.length cv] := b3.set_ 2 _
    generalize w8.setCell ⟨w.heap.size + 1, 2, none⟩ (.slice Av vs.length cv) = w9 at hR8 HRow b2 b3 ⊢
    clear y0 yf0 y1 yf1 y2 yf2
    obtain ⟨z, zf⟩ := rs_cell hR8.1
    have r0 := b2.cell 0
    have rf0 := b2.frozen 0
    have r1 := b2.cell 1
    have rf1 := b2.frozen 1
    have r2 := b2.cell 2
    have rf2 := b2.frozen 2
    simp at r0 r1 r2
    have y0 := b3.cell 0
    have y1 := b3.cell 1
    have y2 := b3.cell 2
    simp at y0 y1 y2
    go_wp2_with fail
    try simp only [Exit.inBlock, Exit.then]
    rw [HPQ.out]
    refine bodyPost_ret (results_cell_row rfl _ _ w.heap.size 57 #[.int .i64 id, .string tg, .slice Av vs.length cv] (0, 0) _ rfl (show Blk _ w.heap.size 57 #[.int .i64 id, .string tg, .slice Av vs.length cv] from ((b2.set_ 0 _).set_ 1 _).set_ 2 _) Try.underlying57 rfl (by kernel_rfl)) rfl ?_
    refine ⟨_, false, ((hR8.setNew hle _ 0 _ (Nat.le_refl _) hg1).setNew hle _ 1 _ (Nat.le_refl _) hg1).setNew hle _ 2 _ (Nat.le_refl _) hg1, hat, ⟨.slice Av vs.length cv, rfl, ?_⟩, by omega, rfl⟩
    exact Kd.R_lower (R_over HRow.out ((((Chg.refl [w.heap.size] _).setCell (.inl (by simp)) _).setCell (.inl (by simp)) _).setCell (.inl (by simp)) _) (by simp; omega)) (by omega)
end
end Go.Proofs.Ytlbfnnngemonoaa.Wir
