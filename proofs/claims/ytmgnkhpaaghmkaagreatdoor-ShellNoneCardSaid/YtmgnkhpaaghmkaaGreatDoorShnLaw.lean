/- The walk through chordmaillaw28.ShellNone. -/
import Derived.Test.YtmgnkhpaaghmkaaGreatDoorShnRun
import Derived.Test.YtmgnkhpaaghmkaaGreatDoorShnZeros
namespace Go.Proofs.YtmgnkhpaaghmkaaGreatDoor.Shn
open Go.RowKit Go.Proofs.YtmgnkhpaaghmkaaGreatDoorW.PrintWords
set_option linter.unusedVariables false
set_option linter.unusedSimpArgs false

/-- A marked row of bytes reads so. -/
theorem marked_C (W : World) (xs : List Int) (n : Nat) (hn : xs.length = n) (h63 : n ≤ 100) (fr : Nat × Nat) : Kd.C (Kd.int .u8) (W.alloc (.cells (nums .u8 xs).toArray 5 fr)) (some ⟨W.heap.size, 0, none⟩) xs.length xs := by
  refine Kd.C_of_reads (enc := Value.int .u8) (d := (0 : Int)) (h1 := fun _ => rfl) ⟨rfl, by omega, fun _ => ⟨_, rfl, fun j hj => ?_⟩⟩
  rw [add_at, Nat.zero_add, cell_of_row (W.alloc (.cells (nums .u8 xs).toArray 5 fr)) W.heap.size j (nums .u8 xs).toArray 5 fr (heap_alloc_new W _)]
  simp [nums, List.getElem?_eq_getElem hj, List.getD_eq_getElem?_getD]
theorem marked_text (W : World) (fr : Nat × Nat) : Text (W.alloc (.cells (nums .u8 TX).toArray 5 fr)) W.heap.size := fun i hi => by
  rw [cell_of_row (W.alloc (.cells (nums .u8 TX).toArray 5 fr)) W.heap.size i (nums .u8 TX).toArray 5 fr (heap_alloc_new W _)]
  have hj : i < TX.length := hi
  simp [nums, List.getElem?_eq_getElem hj, List.getD_eq_getElem?_getD]
theorem cut_long (z : Nat) (W : World) : (Instr.slice 23 (.slice (some ⟨z, 0, none⟩) 32769 32769) none (some (.int .i64 32768)) none).run Tryz.prog W = .ok (.slice (some ⟨z, 0, none⟩) 32768 32769) W := by
  obtain ⟨i5, hi5, he5⟩ := Option.map_eq_some_iff.1 (show (Tryz.prog.info? 5).map (·.size) = some 1 by kernel_rfl)
  exact cut_to (P := Tryz.prog) 23 5 .i64 Tryz.underlying23 hi5 (some ⟨z, 0, none⟩) 32769 32769 32768 (by omega) (by omega) (Nat.le_refl _) W
theorem made_C (W : World) : Kd.C (Kd.int .u8) (W.alloc (.cells (madeCells #[.int .u8 0] 32769) 5)) (some ⟨W.heap.size, 0, none⟩) (List.replicate 32768 (0 : Int)).length (List.replicate 32768 (0 : Int)) := by
  have h := own_reads' (own_made W W.heap.size 5 .u8 32769 (Nat.le_refl _) (by omega))
  have h2 := h.take_ 32768 (by omega)
  rw [List.take_replicate, show min 32768 32769 = 32768 from rfl] at h2
  rw [List.length_replicate]
  exact Kd.C_of_reads (enc := Value.int .u8) (d := (0 : Int)) (h1 := fun _ => rfl) h2
set_option maxRecDepth 20000 in
set_option maxHeartbeats 8000000 in
theorem law_any (w : World) (hT : Tab w) : Calls Tryz.prog 3 #[] w fun e w' => e = .returned (.bool true) ∧ Below w.heap.size w w' := by
  have kc1 : ∀ W : World, (convert 23 23 (.slice (some ⟨W.heap.size, 0, none⟩) 5 5)).run Tryz.prog (W.alloc (.cells #[.int .u8 114, .int .u8 117, .int .u8 108, .int .u8 101, .int .u8 115] 5)) = .ok (.slice (some ⟨W.heap.size, 0, none⟩) 5 5) (W.alloc (.cells #[.int .u8 114, .int .u8 117, .int .u8 108, .int .u8 101, .int .u8 115] 5 (5, 6))) := fun W => Lib.run_convert_bytes_const W 23 5 _ 5 5 Tryz.underlying23 Tryz.underlying5
  have kc2 : ∀ W : World, (convert 23 23 (.slice (some ⟨W.heap.size, 0, none⟩) 9 9)).run Tryz.prog (W.alloc (.cells #[.int .u8 32, .int .u8 32, .int .u8 35, .int .u8 32, .int .u8 114, .int .u8 117, .int .u8 108, .int .u8 101, .int .u8 115] 5)) = .ok (.slice (some ⟨W.heap.size, 0, none⟩) 9 9) (W.alloc (.cells #[.int .u8 32, .int .u8 32, .int .u8 35, .int .u8 32, .int .u8 114, .int .u8 117, .int .u8 108, .int .u8 101, .int .u8 115] 5 (9, 10))) := fun W => Lib.run_convert_bytes_const W 23 5 _ 9 9 Tryz.underlying23 Tryz.underlying5
  have kc3 : ∀ W : World, (convert 23 23 (.slice (some ⟨W.heap.size, 0, none⟩) 8 8)).run Tryz.prog (W.alloc (.cells #[.int .u8 32, .int .u8 114, .int .u8 117, .int .u8 108, .int .u8 101, .int .u8 115, .int .u8 32, .int .u8 49] 5)) = .ok (.slice (some ⟨W.heap.size, 0, none⟩) 8 8) (W.alloc (.cells #[.int .u8 32, .int .u8 114, .int .u8 117, .int .u8 108, .int .u8 101, .int .u8 115, .int .u8 32, .int .u8 49] 5 (8, 9))) := fun W => Lib.run_convert_bytes_const W 23 5 _ 8 8 Tryz.underlying23 Tryz.underlying5
  have kc4 : ∀ W : World, (convert 23 23 (.slice (some ⟨W.heap.size, 0, none⟩) 29 29)).run Tryz.prog (W.alloc (.cells #[.int .u8 35, .int .u8 32, .int .u8 97, .int .u8 10, .int .u8 10, .int .u8 32, .int .u8 32, .int .u8 10, .int .u8 10, .int .u8 115, .int .u8 112, .int .u8 97, .int .u8 119, .int .u8 110, .int .u8 32, .int .u8 107, .int .u8 10, .int .u8 100, .int .u8 101, .int .u8 99, .int .u8 108, .int .u8 97, .int .u8 114, .int .u8 101, .int .u8 10, .int .u8 101, .int .u8 110, .int .u8 100, .int .u8 10] 5)) = .ok (.slice (some ⟨W.heap.size, 0, none⟩) 29 29) (W.alloc (.cells #[.int .u8 35, .int .u8 32, .int .u8 97, .int .u8 10, .int .u8 10, .int .u8 32, .int .u8 32, .int .u8 10, .int .u8 10, .int .u8 115, .int .u8 112, .int .u8 97, .int .u8 119, .int .u8 110, .int .u8 32, .int .u8 107, .int .u8 10, .int .u8 100, .int .u8 101, .int .u8 99, .int .u8 108, .int .u8 97, .int .u8 114, .int .u8 101, .int .u8 10, .int .u8 101, .int .u8 110, .int .u8 100, .int .u8 10] 5 (29, 30))) := fun W => Lib.run_convert_bytes_const W 23 5 _ 29 29 Tryz.underlying23 Tryz.underlying5
  have hmk : ∀ W : World, (Instr.makeSlice 23 (.int .i64 32769) (.int .i64 32769)).run Tryz.prog W = .ok (.slice (some ⟨W.heap.size, 0, none⟩) 32769 32769) (W.alloc (.cells (madeCells #[.int .u8 0] 32769) 5)) := print_make 23 5 .u8 1 Tryz.underlying23 info5' (by decide) 32769 (by decide)
  have hcl := cut_long
  have hmc := Lib.hid made_C
  generalize madeCells #[.int .u8 0] 32769 = Z at hmk hmc
  have HT := Lib.hid hT
  clear hT
  go_enter Tryz.func3, Tryz.ntmps3
  go_wp2_with fail
  have HB1 := Lib.hid ((Below.refl w.heap.size w).alloc (Nat.le_refl _) (.cells #[.int .u8 114, .int .u8 117, .int .u8 108, .int .u8 101, .int .u8 115] 5 (5, 6)))
  generalize w.alloc (.cells #[.int .u8 114, .int .u8 117, .int .u8 108, .int .u8 101, .int .u8 115] 5 (5, 6)) = w1 at HB1 ⊢
  refine (line_nil _ _ _ _).mono ?_
  rintro e w1 ⟨rfl, rfl⟩
  clear kc1
  go_wp2_with fail
  have hz := hmc.out w1
  have hb2 := below_alloc HB1.out (.cells Z 5)
  have HZ : Hid (w1.heap.size + 1 ≤ (w1.alloc (.cells Z 5)).heap.size) := Lib.hid (by simp)
  generalize w1.alloc (.cells Z 5) = w2 at hz hb2 HZ ⊢
  generalize w1.heap.size = z at hz HZ ⊢
  have HZC := Lib.hid hz
  have HB2 := Lib.hid hb2
  clear hz hb2 hmk hmc HB1
  refine (run_long _ _ _ (by omega) _).mono ?_
  rintro e w2 ⟨rfl, rfl⟩
  go_wp2_with fail
  refine (new_any _).mono ?_
  rintro e w3 ⟨s, m, rfl, hS, hs, hm, hb⟩
  have HS := Lib.hid hS
  have HM := Lib.hid (And.intro (Nat.le_trans HB2.out.size hs) (Nat.le_trans HB2.out.size hm))
  have HZ3 := Lib.hid (Kd.C_below HZC.out hb)
  have HB3 := Lib.hid (HB2.out.trans (hb.mono HB2.out.size))
  clear hS hs hm hb HZC HB2 HZ
  go_wp2_with fail
  refine (line_long _ _ _ _ (by omega) _).mono ?_
  rintro e w3 ⟨rfl, rfl⟩
  go_wp2_with fail
  refine (line_zeros 32768 s m _ _ _ (by omega) (by omega) (HT.out.below HB3.out) HS.out HZ3.out).mono ?_
  rintro e w4 ⟨v6, rfl, ht6, hb⟩
  have HT6 := Lib.hid ht6
  have HS4 := Lib.hid (HS.out.below hb)
  have HB4 := Lib.hid (HB3.out.trans (hb.mono HB3.out.size))
  clear ht6 hb HS HZ3 HB3 hcl
  go_wp2_with fail
  have hb := below_alloc (Below.refl w4.heap.size w4) (.cells #[.int .u8 32, .int .u8 32, .int .u8 35, .int .u8 32, .int .u8 114, .int .u8 117, .int .u8 108, .int .u8 101, .int .u8 115] 5 (9, 10))
  have hC := marked_C w4 [32, 32, 35, 32, 114, 117, 108, 101, 115] 9 rfl (by omega) (9, 10)
  simp only [nums, List.map_cons, List.map_nil] at hC
  have HT6b := Lib.hid (HT6.out.below hb)
  have HS5 := Lib.hid (HS4.out.below hb)
  have HB5 := Lib.hid (HB4.out.trans (hb.mono HB4.out.size))
  have HC5 := Lib.hid hC
  generalize w4.alloc (.cells #[.int .u8 32, .int .u8 32, .int .u8 35, .int .u8 32, .int .u8 114, .int .u8 117, .int .u8 108, .int .u8 101, .int .u8 115] 5 (9, 10)) = w5 at HT6b HS5 HB5 HC5 ⊢
  clear hb hC HT6 HS4 HB4 kc2
  refine (line_hash s m _ _ [32, 32, 35, 32, 114, 117, 108, 101, 115] ⟨#[35]⟩ [⟨#[114, 117, 108, 101, 115]⟩] _ HS5.out HC5.out (by decide) (by kernel_rfl) (by decide) (by kernel_rfl) (by decide) (by decide)).mono ?_
  rintro e w6 ⟨rfl, hb⟩
  have HT6c := Lib.hid (HT6b.out.below hb)
  have HS6 := Lib.hid (HS5.out.below hb)
  have HB6 := Lib.hid (HB5.out.trans (hb.mono HB5.out.size))
  clear hb HT6b HS5 HB5 HC5
  go_wp2_with fail
  have hb := below_alloc (Below.refl w6.heap.size w6) (.cells #[.int .u8 32, .int .u8 114, .int .u8 117, .int .u8 108, .int .u8 101, .int .u8 115, .int .u8 32, .int .u8 49] 5 (8, 9))
  have hC := marked_C w6 [32, 114, 117, 108, 101, 115, 32, 49] 8 rfl (by omega) (8, 9)
  simp only [nums, List.map_cons, List.map_nil] at hC
  have HT6d := Lib.hid (HT6c.out.below hb)
  have HS7 := Lib.hid (HS6.out.below hb)
  have HB7 := Lib.hid (HB6.out.trans (hb.mono HB6.out.size))
  have HC7 := Lib.hid hC
  generalize w6.alloc (.cells #[.int .u8 32, .int .u8 114, .int .u8 117, .int .u8 108, .int .u8 101, .int .u8 115, .int .u8 32, .int .u8 49] 5 (8, 9)) = w7 at HT6d HS7 HB7 HC7 ⊢
  clear hb hC HT6c HS6 HB6 kc3
  refine (line_280 s m _ _ [32, 114, 117, 108, 101, 115, 32, 49] ⟨#[114, 117, 108, 101, 115]⟩ [⟨#[49]⟩] _ (HT.out.below HB7.out) HS7.out HC7.out (by decide) (by kernel_rfl) (by decide) (by kernel_rfl) (by decide) (by decide) (by decide) (by rw [Go.ByteArray.toList_eq]; decide)).mono ?_
  rintro e w8 ⟨v8, rfl, ht8, hb⟩
  have HT6e := Lib.hid (HT6d.out.below hb)
  have HT8 := Lib.hid ht8
  have HB8 := Lib.hid (HB7.out.trans (hb.mono HB7.out.size))
  clear ht8 hb HT6d HS7 HB7 HC7
  go_wp2_with fail
  have hb := below_alloc (Below.refl w8.heap.size w8) (.cells #[.int .u8 35, .int .u8 32, .int .u8 97, .int .u8 10, .int .u8 10, .int .u8 32, .int .u8 32, .int .u8 10, .int .u8 10, .int .u8 115, .int .u8 112, .int .u8 97, .int .u8 119, .int .u8 110, .int .u8 32, .int .u8 107, .int .u8 10, .int .u8 100, .int .u8 101, .int .u8 99, .int .u8 108, .int .u8 97, .int .u8 114, .int .u8 101, .int .u8 10, .int .u8 101, .int .u8 110, .int .u8 100, .int .u8 10] 5 (29, 30))
  have hX := marked_text w8 (29, 30)
  simp only [nums, TX, List.map_cons, List.map_nil] at hX
  have HT6f := Lib.hid (HT6e.out.below hb)
  have HT8b := Lib.hid (HT8.out.below hb)
  have HB9 := Lib.hid (HB8.out.trans (hb.mono HB8.out.size))
  have HX9 := Lib.hid hX
  generalize w8.alloc (.cells #[.int .u8 35, .int .u8 32, .int .u8 97, .int .u8 10, .int .u8 10, .int .u8 32, .int .u8 32, .int .u8 10, .int .u8 10, .int .u8 115, .int .u8 112, .int .u8 97, .int .u8 119, .int .u8 110, .int .u8 32, .int .u8 107, .int .u8 10, .int .u8 100, .int .u8 101, .int .u8 99, .int .u8 108, .int .u8 97, .int .u8 114, .int .u8 101, .int .u8 10, .int .u8 101, .int .u8 110, .int .u8 100, .int .u8 10] 5 (29, 30)) = w9 at HT6f HT8b HB9 HX9 ⊢
  clear hb hX HT6e HT8 HB8 kc4
  refine (run_text _ _ (HT.out.below HB9.out) HX9.out).mono ?_
  rintro e w10 ⟨v10, rfl, ha10, hb⟩
  have HT6g := HT6f.out.below hb
  have HT8c := HT8b.out.below hb
  have HB10 := Lib.hid (HB9.out.trans (hb.mono HB9.out.size))
  obtain ⟨r6, c6, rfl, _, _, _, k6⟩ := HT6g
  obtain ⟨r8, c8, rfl, _, _, _, k8⟩ := HT8c
  obtain ⟨A10, c10, rfl, k10⟩ := ha10
  have h6 : (convert 23 9 (.slice (some ⟨r6, 0, none⟩) 10 c6)).run Tryz.prog w10 = .ok (.string ⟨#[101, 114, 114, 111, 114, 32, 50, 56, 48, 10]⟩) w10 := str_C k6
  have h8 : (convert 23 9 (.slice (some ⟨r8, 0, none⟩) 10 c8)).run Tryz.prog w10 = .ok (.string ⟨#[101, 114, 114, 111, 114, 32, 50, 56, 48, 10]⟩) w10 := str_C k8
  have h10 : (convert 23 9 (.slice A10 19 c10)).run Tryz.prog w10 = .ok (.string ⟨#[101, 114, 114, 111, 114, 32, 50, 56, 48, 10, 101, 114, 114, 111, 114, 32, 57, 48, 10]⟩) w10 := string_of_reads Tryz.underlying23 Tryz.underlying5 Tryz.underlying9 k10
  rw [show b280.length = 10 from rfl]
  rw [show (b280 ++ b90).length = 19 from rfl]
  clear HT6f HT8b HB9 HX9 hb k6 k8 k10 HT
  go_wp2
  go_returns
  exact ⟨rfl, HB10.out⟩
end Go.Proofs.YtmgnkhpaaghmkaaGreatDoor.Shn
