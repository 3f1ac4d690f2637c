/- chordmaillaw11's awake. -/
import Derived.Test.YtlbfnnngemonoaaWfnPure2
namespace Go.Proofs.Ytlbfnnngemonoaa.Wir
open Go.RowKit Go.Proofs.Ytlbfnnngemonoaa.PWireReads
open Go.Proofs.Ytlbfnnngemonoaa.Fat (Blk Chg Off chg_opt)
open Go.Proofs.YtlbfnnngemonoaaW.PrintWords Go.Proofs.YtlbfnnngemonoaaW.PrintLast Go.Proofs.YtlbfnnngemonoaaW.PrintMore
set_option linter.unusedVariables false
set_option linter.unusedSimpArgs false
attribute [local go_sem] run_store_float run_store_complex

theorem R_string {w W : World} {base : Nat} {A : Option Addr} {n c : Nat} {xs : List Int} (h : Kd.R (Kd.int .u8) 5 w base (fun _ => True) (.slice A n c) xs) (hb : Below w.heap.size w W) : (convert 45 9 (.slice A n c)).run Try.prog W = .ok (.string (strOfNums xs)) W := by
  have hn := (Kd.R_reads' h).1
  subst hn
  exact Kd.C_string Try.underlying45 Try.underlying5 Try.underlying9 (Kd.C_below (Kd.R_reads' h).2.2 hb)
set_option maxRecDepth 20000 in
set_option maxHeartbeats 2000000 in
theorem awakeW_any (w : World) : Calls Try.prog 30 #[] w fun e w' => e = .returned (.bool true) ∧ Below w.heap.size w w' := by
  have h1 := value_any (vT { data := #[97, 98] }) (.inr (.inr (.inr ⟨_, by decide, rfl⟩))) ⟨by decide, by decide, by decide⟩ w
  have e1 : strOfNums (formV (vT { data := #[97, 98] })) = { data := #[4, 0, 2, 97, 98] } := by kernel_rfl
  have h2 := fun W => messageW_any ⟨258, { data := #[112, 117, 116] }, []⟩ none 0 W (Kd.C_nil kV W) (Nat.le_refl _) (by simp) (by simp) (by simp) (by simp [szs]) ⟨by decide, by decide⟩ ⟨by decide, by decide⟩
  have e2 : strOfNums (formM ⟨258, { data := #[112, 117, 116] }, []⟩) = { data := #[0, 0, 1, 2, 3, 112, 117, 116, 0] } := by kernel_rfl
  have h3 := fun W => readV_any (some ⟨W.heap.size, 0, none⟩) 5 [4, 0, 1, 97, 98] (W.alloc (.cells #[.int .u8 4, .int .u8 0, .int .u8 1, .int .u8 97, .int .u8 98] 5)) (C_blk (Blk.new W 5 _) [4, 0, 1, 97, 98] rfl (by decide)) (by decide) (by unfold By; decide)
  have e3 : resV (rdV [4, 0, 1, 97, 98]) = .tuple #[.agg #[.int .i64 4, .int .i64 0, .float .f64 0, .complex .f64 0 0, .string { data := #[97] }], .int .i64 4, .int .i64 0] := by kernel_rfl
  have h4 := fun W => readV_any (some ⟨W.heap.size, 0, none⟩) 2 [5, 0] (W.alloc (.cells #[.int .u8 5, .int .u8 0] 5)) (C_blk (Blk.new W 5 _) [5, 0] rfl (by decide)) (by decide) (by unfold By; decide)
  have e4 : resV (rdV [5, 0]) = .tuple #[.agg #[.int .i64 0, .int .i64 0, .float .f64 0, .complex .f64 0 0, .string { data := #[] }], .int .i64 0, .int .i64 110] := by kernel_rfl
  rw [e3] at h3
  rw [e4] at h4
  have H1 := Lib.hid h1
  have H2 := Lib.hid h2
  have H3 := Lib.hid h3
  have H4 := Lib.hid h4
  have E1 := Lib.hid e1
  have E2 := Lib.hid e2
  clear h1 h2 h3 h4 e1 e2 e3 e4
  go_enter Try.func30, Try.ntmps30
  go_wp2_with fail
  refine H1.out.mono ?_
  rintro e w1 ⟨u1, rfl, hR1, hb1⟩
  obtain ⟨A1, c1, rfl⟩ := Kd.R_slice hR1
  generalize (formV (vT { data := #[97, 98] })).length = n1 at hR1 ⊢
  have HR1 := Lib.hid hR1
  have HB1 := Lib.hid hb1
  clear hR1 hb1
  go_wp2_with fail
  refine (H2.out _).mono ?_
  rintro e w2 ⟨u2, rfl, hR2, hb2⟩
  obtain ⟨A2, c2, rfl⟩ := Kd.R_slice hR2
  generalize (formM ⟨258, { data := #[112, 117, 116] }, []⟩).length = n2 at hR2 ⊢
  have HR2 := Lib.hid hR2
  have HB2 := Lib.hid hb2
  clear hR2 hb2
  go_wp2_with fail
  refine (H3.out _).mono ?_
  rintro e w3 ⟨rfl, hb3⟩
  have HB3 : Hid (Below w2.heap.size w2 w3) := Lib.hid (((Below.refl _ w2).alloc (Nat.le_refl _) _).trans (hb3.mono (by simp)))
  clear hb3
  go_upto_region 4 with fail
  have hB := Blk.new w3 50 #[.int .i64 4, .int .i64 0, .float .f64 0, .complex .f64 0 0, .string { data := #[97] }]
  have hb4 := (Below.refl w3.heap.size w3).alloc (Nat.le_refl _) (.cells #[.int .i64 4, .int .i64 0, .float .f64 0, .complex .f64 0 0, .string { data := #[97] }] 50)
  generalize hWq : w3.alloc (.cells #[.int .i64 4, .int .i64 0, .float .f64 0, .complex .f64 0 0, .string { data := #[97] }] 50) = W4 at hB hb4 ⊢
  clear hWq
  have HBX := Lib.hid hB
  have HB4 := Lib.hid (HB3.out.trans (hb4.mono HB3.out.size))
  clear hB hb4
  go_wp2_with fail
  refine (H4.out _).mono ?_
  rintro e w5 ⟨rfl, hb5⟩
  have HB5 : Hid (Below W4.heap.size W4 w5) := Lib.hid (((Below.refl _ W4).alloc (Nat.le_refl _) _).trans (hb5.mono (by simp)))
  clear hb5
  go_upto_region 5 with fail
  have hb6 := HB5.out.alloc HB5.out.size (.cells #[.int .i64 0, .int .i64 0, .float .f64 0, .complex .f64 0 0, .string { data := #[] }] 50)
  generalize hWq : w5.alloc (.cells #[.int .i64 0, .int .i64 0, .float .f64 0, .complex .f64 0 0, .string { data := #[] }] 50) = W6 at hb6 ⊢
  clear hWq
  have hbx := HBX.out.below hb6 HBX.out.lt
  have x4 := hbx.cell 4
  simp at x4
  have hb26 := HB4.out.trans (hb6.mono HB4.out.size)
  have s2 := R_string HR2.out hb26
  have hb16 := HB2.out.trans (hb26.mono HB2.out.size)
  have s1 := R_string HR1.out hb16
  rw [E1.out] at s1
  rw [E2.out] at s2
  have HF := Lib.hid (HB1.out.trans (hb16.mono HB1.out.size))
  clear hbx hb6 hb26 hb16
  go_wp2_with fail
  go_ret
  exact ⟨rfl, HF.out⟩
end Go.Proofs.Ytlbfnnngemonoaa.Wir
