/- The law WireReads: the walk. -/
import Derived.Test.YtlbfnnngemonoaaWirUni
namespace Go.Proofs.Ytlbfnnngemonoaa.Wir
open Go.RowKit Go.Proofs.Ytlbfnnngemonoaa.PWireReads
open Go.Proofs.Ytlbfnnngemonoaa.Fat (Blk Chg Off chg_opt)
open Go.Proofs.YtlbfnnngemonoaaW.PrintWords Go.Proofs.YtlbfnnngemonoaaW.PrintLast Go.Proofs.YtlbfnnngemonoaaW.PrintMore
set_option linter.unusedVariables false
set_option linter.unusedSimpArgs false
attribute [local go_sem] run_store_float run_store_complex

theorem RS.chg {w0 w w' : World} {g : Nat} {L : List Int} {at1 : Nat} {b1 : Bool} (h : RS w0 w w' g L at1 b1) (hb : Below w0.heap.size w0 w) (G : List Nat) (hg : g ∈ G) : Chg G w w' :=
  ⟨h.2.1.os.trans hb.os.symm, h.2.1.tape.trans hb.tape.symm, h.2.1.output.trans hb.output.symm, h.2.2.1, fun k hk hn => h.2.2.2 k hk (fun e => hn (e ▸ hg)) (by simp)⟩
theorem three_new (W0 : World) (A : Option Addr) (c : Nat) (l : List Int) (hC : Kd.C (Kd.int .u8) W0 A l.length l) (hl : l.length ≤ c) :
    IsS62 W0 (((W0.alloc (.cells #[.slice A l.length c, .int .i64 0, .bool false] 62)).alloc (.cells #[.slice A l.length c, .int .i64 0, .bool false] 62)).alloc (.cells #[.slice A l.length c, .int .i64 0, .bool false] 62)) W0.heap.size l 0 false ∧
    IsS62 W0 (((W0.alloc (.cells #[.slice A l.length c, .int .i64 0, .bool false] 62)).alloc (.cells #[.slice A l.length c, .int .i64 0, .bool false] 62)).alloc (.cells #[.slice A l.length c, .int .i64 0, .bool false] 62)) (W0.heap.size + 1) l 0 false ∧
    IsS62 W0 (((W0.alloc (.cells #[.slice A l.length c, .int .i64 0, .bool false] 62)).alloc (.cells #[.slice A l.length c, .int .i64 0, .bool false] 62)).alloc (.cells #[.slice A l.length c, .int .i64 0, .bool false] 62)) (W0.heap.size + 2) l 0 false ∧
    Below W0.heap.size W0 (((W0.alloc (.cells #[.slice A l.length c, .int .i64 0, .bool false] 62)).alloc (.cells #[.slice A l.length c, .int .i64 0, .bool false] 62)).alloc (.cells #[.slice A l.length c, .int .i64 0, .bool false] 62)) := by
  have b1 := below_alloc (Below.refl W0.heap.size W0) (.cells #[.slice A l.length c, .int .i64 0, .bool false] 62)
  have b2 := below_alloc b1 (.cells #[.slice A l.length c, .int .i64 0, .bool false] 62)
  have b3 := below_alloc b2 (.cells #[.slice A l.length c, .int .i64 0, .bool false] 62)
  have h1 := IsS62.new W0 W0 A c l 0 false (Below.refl _ _) hC hl
  have h2 := IsS62.new W0 _ A c l 0 false b1 hC hl
  have h3 := IsS62.new W0 _ A c l 0 false b2 hC hl
  have e1 : (W0.alloc (.cells #[.slice A l.length c, .int .i64 0, .bool false] 62)).heap.size = W0.heap.size + 1 := by simp
  have e2 : ((W0.alloc (.cells #[.slice A l.length c, .int .i64 0, .bool false] 62)).alloc (.cells #[.slice A l.length c, .int .i64 0, .bool false] 62)).heap.size = W0.heap.size + 2 := by simp
  rw [e1] at h2
  rw [e2] at h3
  exact ⟨(h1.alloc _).alloc _, h2.alloc _, h3, b3⟩
theorem size5 : (Try.prog.info? 5).map (·.size) = some [(.int .u8 0 : Value)].length := by kernel_rfl
theorem add0 (g n : Nat) : (⟨g, 0, none⟩ : Addr).add n = ⟨g, n, none⟩ := by
  unfold Addr.add
  split
  · rename_i h; rw [h]
  · simp
theorem is_other {w0 w w' : World} {g k : Nat} {L : List Int} {at1 a : Nat} {b1 b : Bool} (h : IsS62 w0 w k L a b) (hR : RS w0 w w' g L at1 b1) (hne : k ≠ g) : IsS62 w0 w' k L a b := is_move h (hR.2.2.2 k h.lt hne (by simp))
set_option maxRecDepth 20000 in
set_option maxHeartbeats 4000000 in
theorem law_any (A : Option Addr) (c : Nat) (l0 : List Int) (w : World) (hC : Kd.C (Kd.int .u8) w A l0.length l0) (hl : l0.length + 2 ≤ 140737488355328) (hBy : By l0) :
    Calls Try.prog 5 #[.slice A l0.length c] w fun e w' => e = .returned (.bool true) ∧ Below w.heap.size w w' := by
  have HL0 := Lib.hid (lent_any A c l0 w hC hl)
  clear hC
  go_enter Try.func5, Try.ntmps5
  go_wp2_with fail
  refine HL0.out.mono ?_
  rintro e w1 ⟨g, cap, rfl, hL, hcap, hb⟩
  have HB0 := Lib.hid hb
  have HLt := Lib.hid hL
  have HBy := Lib.hid hBy
  have hg : w.heap.size ≤ g ∧ g < w1.heap.size := by
    obtain ⟨g', c', hv, h1, h2, _⟩ := Kd.R_form hL (by simp)
    injection hv with h3 h4
    injection h3 with h3
    injection h3 with h3
    subst h3
    exact ⟨h1, h2⟩
  clear HL0 hL hb hBy
  go_wp2_with fail
  go_loopw [4] (fun i wr => ∃ (k : Nat) (l : List Int), i = .int .i64 k ∧ k ≤ 2 ∧ Hid (l.length = l0.length) ∧ Hid (By l) ∧ Hid (Lent wr w.heap.size g cap l) ∧ Hid (Below w.heap.size w wr) ∧ g < wr.heap.size) (fun i _ => 2 - (intOf i).toNat)
  case atStart => exact ⟨0, l0, rfl, Nat.zero_le _, Lib.hid rfl, HBy, HLt, HB0, hg.2⟩
  case round =>
    clear HLt HBy HB0
    obtain ⟨k, l, rfl, hk, HLL, HBy, HL, HB, hgl⟩ := hrel
    obtain ⟨wi, hwi⟩ : ∃ wi : World, wi = wr := ⟨_, rfl⟩
    subst hwi
    by_cases hk1 : k < 2
    · have b1 : decide ((k : Int) < 2) = true := by simp; omega
      rw [← HLL.out] at hl hcap ⊢
      have HI0 := Lib.hid (lent_any (some ⟨g, 0, none⟩) cap l wi HL.out.C.1 hl)
      go_wp2_with fail
      refine HI0.out.mono ?_
      rintro e w2 ⟨h, cap2, rfl, hI, hcap2, hb2⟩
      have HI := Lib.hid hI
      have HB2 := Lib.hid hb2
      have HV := Lib.hid (readV_u (some ⟨g, 0, none⟩) cap l w2 (Kd.C_below HL.out.C.1 hb2) (by omega) HBy.out)
      clear hI hb2 HI0
      go_wp2_with fail
      refine HV.out.mono ?_
      rintro e w3 ⟨rfl, hb3⟩
      generalize hv : oV (rdV l) = v
      have HI3 := Lib.hid (Kd.R_below HI.out hb3)
      have HB3 := Lib.hid (HB2.out.trans (hb3.mono HB2.out.size))
      clear hb3 HV
      simp only [ag]
      go_upto_region 7 with fail
      have hB6 := Blk.new w3 50 #[.int .i64 v.k, .int .i64 v.i, .float .f64 v.r, .complex .f64 v.p.fst v.p.snd, .string v.s]
      have hbA := (Below.refl w3.heap.size w3).alloc (Nat.le_refl _) (.cells #[.int .i64 v.k, .int .i64 v.i, .float .f64 v.r, .complex .f64 v.p.fst v.p.snd, .string v.s] 50)
      generalize hWq : w3.alloc (.cells #[.int .i64 v.k, .int .i64 v.i, .float .f64 v.r, .complex .f64 v.p.fst v.p.snd, .string v.s] 50) = w4 at hB6 hbA ⊢
      clear hWq
      have HI4 := Lib.hid (Kd.R_below HI3.out hbA)
      have HB4 := Lib.hid (HB3.out.trans (hbA.mono HB3.out.size))
      have hb6l := HB3.out.size
      generalize w3.heap.size = b6 at hB6 hb6l ⊢
      have HB6 := Lib.hid hB6
      have HP0 := Lib.hid (readP_u (some ⟨g, 0, none⟩) cap l w4 (Kd.C_below HL.out.C.1 HB4.out) (by omega) HBy.out (by omega))
      clear hB6 hbA HB3
      go_wp2_with fail
      refine HP0.out.mono ?_
      rintro e w5 ⟨P, cp, rfl, hRp, hb5⟩
      have HRp := Lib.hid (Kd.R_lower hRp HB4.out.size)
      have HI5 := Lib.hid (Kd.R_below HI4.out hb5)
      have HB65 := Lib.hid (HB6.out.below hb5 HB6.out.lt)
      have HB5 := Lib.hid (HB4.out.trans (hb5.mono HB4.out.size))
      have HM0 := Lib.hid (readM_u (some ⟨g, 0, none⟩) cap l w5 (Kd.C_below HL.out.C.1 HB5.out) (by omega) HBy.out (by omega))
      have HPG := Lib.hid (oP_good l)
      clear hRp hb5 HP0 HB4 HB6
      generalize hps : oP (rdP l) = ps at HRp HPG ⊢
      go_wp2_with fail
      refine HM0.out.mono ?_
      rintro e w6 ⟨M1, cm, rfl, hRm, hb6⟩
      have HI6 := Lib.hid (Kd.R_below HI5.out hb6)
      have HB66 := Lib.hid (HB65.out.below hb6 HB65.out.lt)
      have HRp6 := Lib.hid (Kd.R_below HRp.out hb6)
      have HRm := Lib.hid (Kd.R_lower hRm HB5.out.size)
      have HB6w := Lib.hid (HB5.out.trans (hb6.mono HB5.out.size))
      have HMG := Lib.hid (oM_good l)
      clear hRm hb6 HM0 HRp HB5 HB65
      generalize hmd : oM (rdM l) = m at HRm HMG ⊢
      go_upto_region 9 with fail
      have hB12 := Blk.new w6 57 #[.int .i64 m.id, .string m.tag, .slice M1 m.pl.length cm]
      have hbA := (Below.refl w6.heap.size w6).alloc (Nat.le_refl _) (.cells #[.int .i64 m.id, .string m.tag, .slice M1 m.pl.length cm] 57)
      generalize hWq : w6.alloc (.cells #[.int .i64 m.id, .string m.tag, .slice M1 m.pl.length cm] 57) = W0 at hB12 hbA ⊢
      clear hWq
      have HBW := Lib.hid (HB6w.out.trans (hbA.mono HB6w.out.size))
      have HRp0 := Lib.hid (Kd.R_below HRp6.out hbA)
      have HRm0 := Lib.hid (Kd.R_below HRm.out hbA)
      have HB60 := Lib.hid (HB66.out.below hbA HB66.out.lt)
      have hb12l := HB6w.out.size
      generalize w6.heap.size = b12 at hB12 hb12l ⊢
      have HB12 := Lib.hid hB12
      have HLg : Hid (Lent W0 w.heap.size g cap l) := Lib.hid (Kd.R_below HL.out HBW.out)
      have HLh : Hid (Lent W0 wi.heap.size h cap2 l) := Lib.hid (Kd.R_below HI6.out hbA)
      have HCh := Lib.hid HLh.out.C.1
      clear hB12 hbA HRp6 HRm HB66 HB6w HI HI3 HI4 HI5 HI6 HL HB2
      have H3 := Lib.hid (three_new W0 (some ⟨h, 0, none⟩) cap2 l HCh.out (by omega))
      go_upto_region 12 with fail
      generalize hWq : ((W0.alloc (.cells #[.slice (some ⟨h, 0, none⟩) l.length cap2, .int .i64 0, .bool false] 62)).alloc (.cells #[.slice (some ⟨h, 0, none⟩) l.length cap2, .int .i64 0, .bool false] 62)).alloc (.cells #[.slice (some ⟨h, 0, none⟩) l.length cap2, .int .i64 0, .bool false] 62) = X0 at H3 ⊢
      clear hWq
      have HC21 := Lib.hid (rval_u H3.out.1 H3.out.2.2.2 HBy.out (by omega))
      rw [hv] at HC21
      go_wp2_with fail
      refine HC21.out.mono ?_
      rintro e X1 ⟨at1, b1, rfl, hR1, hE1⟩
      have HR1 := Lib.hid hR1
      have HE1 := Lib.hid hE1
      have HS2 := Lib.hid (is_other (a := 0) H3.out.2.1 hR1 (by omega))
      have HS3 := Lib.hid (is_other (a := 0) H3.out.2.2.1 hR1 (by omega))
      have hx1 : W0.heap.size + 2 < X1.heap.size := Nat.lt_of_lt_of_le H3.out.2.2.1.lt hR1.2.2.1
      clear hR1 hE1 HC21 H3
      simp only [ag]
      go_upto_region 13 with fail
      have hB18 := Blk.new X1 50 #[.int .i64 v.k, .int .i64 v.i, .float .f64 v.r, .complex .f64 v.p.fst v.p.snd, .string v.s]
      have hbA := (Below.refl X1.heap.size X1).alloc (Nat.le_refl _) (.cells #[.int .i64 v.k, .int .i64 v.i, .float .f64 v.r, .complex .f64 v.p.fst v.p.snd, .string v.s] 50)
      generalize hWq : X1.alloc (.cells #[.int .i64 v.k, .int .i64 v.i, .float .f64 v.r, .complex .f64 v.p.fst v.p.snd, .string v.s] 50) = X2 at hB18 hbA ⊢
      clear hWq
      have HB18 := Lib.hid hB18
      have HBX2 := Lib.hid (HR1.out.2.1.trans (hbA.mono HR1.out.2.1.size))
      have HT1 := Lib.hid (HR1.out.1.below hbA)
      have HT2 := Lib.hid (HS2.out.below hbA)
      have HT3 := Lib.hid (HS3.out.below hbA)
      have hx2 : W0.heap.size + 2 < X2.heap.size := Nat.lt_of_lt_of_le hx1 hbA.size
      have hb18 : W0.heap.size + 2 < X1.heap.size := hx1
      generalize X1.heap.size = b18 at HB18 hb18 ⊢
      clear hB18 hbA HS2 HS3 HR1 hx1
      have HC22 := Lib.hid (rpay_u HT2.out HBX2.out HBy.out (by omega))
      go_wp2_with fail
      refine HC22.out.mono ?_
      rintro e X3 ⟨N1, cn, at2, b2, rfl, hRx, hR2, hE2⟩
      have HE2 := Lib.hid hE2
      have hG : ∀ k, W0.heap.size + 2 < k → k ∉ [W0.heap.size, W0.heap.size + 1, W0.heap.size + 2] := fun k hk => by simp; omega
      have hC2 := hR2.chg HBX2.out [W0.heap.size, W0.heap.size + 1, W0.heap.size + 2] (by simp)
      have HB183 := Lib.hid (HB18.out.chg hC2 (hG _ hb18))
      have HBX3 := Lib.hid hR2.2.1
      have HU1 := Lib.hid (is_other HT1.out hR2 (by omega))
      have HU2 := Lib.hid hR2.1
      have HU3 := Lib.hid (is_other (a := 0) HT3.out hR2 (by omega))
      have HRx := Lib.hid (Kd.R_lower hRx hx2)
      have hx3 : W0.heap.size + 2 < X3.heap.size := Nat.lt_of_lt_of_le hx2 hR2.2.2.1
      rw [show oP (rdP l) = ps from hps] at HRx ⊢
      clear hRx hR2 hE2 hC2 HB18 HT1 HT2 HT3 HC22 HBX2 hx2
      have HC23 := Lib.hid (rmsg_u HU3.out HBX3.out HBy.out (by omega))
      rw [hmd] at HC23
      go_wp2_with fail
      refine HC23.out.mono ?_
      rintro e X4 ⟨T1, ct, at3, b3, rfl, hRt, hR3, hE3⟩
      have HE3 := Lib.hid hE3
      have hC3 := hR3.chg HBX3.out [W0.heap.size, W0.heap.size + 1, W0.heap.size + 2] (by simp)
      have HB184 := Lib.hid (HB183.out.chg hC3 (hG _ hb18))
      have HBX4 := Lib.hid hR3.2.1
      have HV1 := Lib.hid (is_other HU1.out hR3 (by omega))
      have HV2 := Lib.hid (is_other HU2.out hR3 (by omega))
      have HV3 := Lib.hid hR3.1
      have HRt := Lib.hid (Kd.R_lower hRt hx3)
      have HRx4 := Lib.hid (R_over HRx.out hC3 (by simp; omega))
      have hx4 : W0.heap.size + 2 < X4.heap.size := Nat.lt_of_lt_of_le hx3 hR3.2.2.1
      clear hRt hR3 hE3 hC3 HB183 HU1 HU2 HU3 HC23 HBX3 hx3 HRx
      go_upto_region 15 with fail
      have hB20 := Blk.new X4 57 #[.int .i64 m.id, .string m.tag, .slice T1 m.pl.length ct]
      have hbA := (Below.refl X4.heap.size X4).alloc (Nat.le_refl _) (.cells #[.int .i64 m.id, .string m.tag, .slice T1 m.pl.length ct] 57)
      generalize hWq : X4.alloc (.cells #[.int .i64 m.id, .string m.tag, .slice T1 m.pl.length ct] 57) = X5 at hB20 hbA ⊢
      clear hWq
      have HB20 := Lib.hid hB20
      have HBX5 := Lib.hid (HBX4.out.trans (hbA.mono HBX4.out.size))
      have HV1' := Lib.hid (HV1.out.below hbA)
      have HV2' := Lib.hid (HV2.out.below hbA)
      have HV3' := Lib.hid (HV3.out.below hbA)
      have HRt5 := Lib.hid (Kd.R_below HRt.out hbA)
      have HRx5 := Lib.hid (Kd.R_below HRx4.out hbA)
      have HB185 := Lib.hid (HB184.out.below hbA HB184.out.lt)
      have hb20 : W0.heap.size + 2 < X4.heap.size := hx4
      have hb20i : wi.heap.size ≤ X4.heap.size := Nat.le_trans HBW.out.size (Nat.le_trans (by omega) (Nat.le_of_lt hx4))
      generalize X4.heap.size = b20 at HB20 hb20 hb20i ⊢
      clear hB20 hbA HV1 HV2 HV3 HRt HRx4 HB184 HBX4 hx4
      have HEA := Lib.hid (end_u HV1'.out HBX5.out HE1.out)
      go_wp2_with fail
      refine HEA.out.mono ?_
      rintro e X6 ⟨rfl, hR4⟩
      have HW2 := Lib.hid (is_other HV2'.out hR4 (by omega))
      have HW3 := Lib.hid (is_other HV3'.out hR4 (by omega))
      have HK6 := Lib.hid (hR4.chg HBX5.out [W0.heap.size, W0.heap.size + 1, W0.heap.size + 2] (by simp))
      have HBX6 := Lib.hid hR4.2.1
      have HEB := Lib.hid (end_u HW2.out HBX6.out HE2.out)
      clear hR4 HEA HV1' HV2' HV3' HBX5 HE1
      go_wp2_with fail
      refine HEB.out.mono ?_
      rintro e X7 ⟨rfl, hR5⟩
      have HZ3 := Lib.hid (is_other HW3.out hR5 (by omega))
      have HK7 := Lib.hid (HK6.out.trans (hR5.chg HBX6.out [W0.heap.size, W0.heap.size + 1, W0.heap.size + 2] (by simp)))
      have HBX7 := Lib.hid hR5.2.1
      have HEC := Lib.hid (end_u HZ3.out HBX7.out HE3.out)
      clear hR5 HEB HW2 HW3 HBX6 HE2 HK6
      go_wp2_with fail
      refine HEC.out.mono ?_
      rintro e X8 ⟨rfl, hR6⟩
      have HK8 := Lib.hid (HK7.out.trans (hR6.chg HBX7.out [W0.heap.size, W0.heap.size + 1, W0.heap.size + 2] (by simp)))
      have HBX8 := Lib.hid hR6.2.1
      have HB188 := Lib.hid (HB185.out.chg HK8.out (hG _ hb18))
      have HB208 := Lib.hid (HB20.out.chg HK8.out (hG _ hb20))
      have hiw := HBW.out.size
      have HRx8 := Lib.hid (Kd.R_lower (R_over HRx5.out HK8.out (by simp; omega)) (show wi.heap.size ≤ W0.heap.size + 2 + 1 by omega))
      have HRt8 := Lib.hid (Kd.R_lower (R_over HRt5.out HK8.out (by simp; omega)) (show wi.heap.size ≤ W0.heap.size + 2 + 1 by omega))
      have HRp8 := Lib.hid (Kd.R_below HRp0.out HBX8.out)
      have HRm8 := Lib.hid (Kd.R_below HRm0.out HBX8.out)
      have HLg8 : Hid (Lent X8 w.heap.size g cap l) := Lib.hid (Kd.R_below HLg.out HBX8.out)
      have HLh8 : Hid (Lent X8 wi.heap.size h cap2 l) := Lib.hid (Kd.R_below HLh.out HBX8.out)
      have HB68 := Lib.hid (HB60.out.below HBX8.out HB60.out.lt)
      have HB128 := Lib.hid (HB12.out.below HBX8.out HB12.out.lt)
      have HB8 := Lib.hid (HBW.out.trans (HBX8.out.mono HBW.out.size))
      clear hR6 HEC HZ3 HK7 HBX7 HE3 HK8 HB185 HB20 HRx5 HRt5 HRp0 HRm0 HLg HLh HB60 HB12 HBX8 HBW HCh hG
      have hF1 := fun W => sam_oV l W
      rw [hv] at hF1
      have HF1 := Lib.hid hF1
      have HF2 := Lib.hid (fun W hb => values_any P N1 cp cn ps W (Kd.C_below (Kd.R_reads' HRp8.out).2.2 hb) (Kd.C_below (Kd.R_reads' HRx8.out).2.2 hb) HPG.out.1 HPG.out.2)
      have HF3 := Lib.hid (fun W hb => message_any m.id m.tag M1 T1 cm ct m.pl W (Kd.C_below (Kd.R_reads' HRm8.out).2.2 hb) (Kd.C_below (Kd.R_reads' HRt8.out).2.2 hb) HMG.out.1 HMG.out.2)
      have HF4 := Lib.hid (fun W (hb : Below X8.heap.size X8 W) => kept_any W w.heap.size g cap cap2 (some ⟨h, 0, none⟩) l (Kd.R_below HLg8.out hb) hcap (Kd.C_below HLh8.out.C.1 hb) hl)
      clear hF1
      have x0 := HB68.out.cell 0
      have x1 := HB68.out.cell 1
      have x2 := HB68.out.cell 2
      have x3 := HB68.out.cell 3
      have x4 := HB68.out.cell 4
      have y0 := HB188.out.cell 0
      have y1 := HB188.out.cell 1
      have y2 := HB188.out.cell 2
      have y3 := HB188.out.cell 3
      have y4 := HB188.out.cell 4
      simp at x0 x1 x2 x3 x4 y0 y1 y2 y3 y4
      go_wp2_with fail
      refine (HF1.out X8).mono ?_
      rintro e Y1 ⟨rfl, hY1⟩
      clear x0 x1 x2 x3 x4 y0 y1 y2 y3 y4
      have HY1 := Lib.hid hY1
      clear hY1
      go_wp2_with fail
      refine (HF2.out Y1 HY1.out).mono ?_
      rintro e Y2 ⟨rfl, hY2⟩
      have HY2 := Lib.hid (HY1.out.trans (hY2.mono HY1.out.size))
      clear hY2 HY1
      have hz := HB128.out.below HY2.out HB128.out.lt
      have x0 := hz.cell 0
      have x1 := hz.cell 1
      have x2 := hz.cell 2
      have hz' := HB208.out.below HY2.out HB208.out.lt
      have y0 := hz'.cell 0
      have y1 := hz'.cell 1
      have y2 := hz'.cell 2
      simp at x0 x1 x2 y0 y1 y2
      clear hz hz'
      go_wp2_with fail
      refine (HF3.out Y2 HY2.out).mono ?_
      rintro e Y3 ⟨rfl, hY3⟩
      have HY3 := Lib.hid (HY2.out.trans (hY3.mono HY2.out.size))
      clear hY3 HY2 x0 x1 x2 y0 y1 y2
      go_wp2_with fail
      refine (HF4.out Y3 HY3.out).mono ?_
      rintro e Y4 ⟨rfl, hY4⟩
      have HY4 := Lib.hid (HY3.out.trans (hY4.mono HY3.out.size))
      clear hY4 HY3
      have HB9 := Lib.hid (HB8.out.trans (HY4.out.mono HB8.out.size))
      have HRp9 := Lib.hid (Kd.R_below HRp8.out HY4.out)
      have HRx9 := Lib.hid (Kd.R_below HRx8.out HY4.out)
      have HRm9 := Lib.hid (Kd.R_below HRm8.out HY4.out)
      have HRt9 := Lib.hid (Kd.R_below HRt8.out HY4.out)
      have HL9 : Hid (Lent Y4 w.heap.size g cap l) := Lib.hid (Kd.R_below HLg8.out HY4.out)
      have HB129 := Lib.hid (HB128.out.below HY4.out HB128.out.lt)
      have HB209 := Lib.hid (HB208.out.below HY4.out HB208.out.lt)
      clear HRp8 HRx8 HRm8 HRt8 HLg8 HLh8 HB8 HY4 HB128 HB208 HB188 HB68 HF1 HF2 HF3 HF4
      go_wp2_with fail
      go_loopw [27] (fun j W => ∃ (m2 : Nat) (l2 : List Int), m2 ≤ l.length ∧ j = .int .i64 m2 ∧ Hid (l2.length = l.length) ∧ Hid (By l2) ∧ Hid (Lent W w.heap.size g cap l2) ∧ Hid (Chg [g] Y4 W)) (fun j _ => l.length - (intOf j).toNat)
      case atStart => exact ⟨0, l, Nat.zero_le _, rfl, Lib.hid rfl, HBy, HL9, Lib.hid (Chg.refl _ _)⟩
      case round =>
        clear HL9
        obtain ⟨m2, l2, hm2, rfl, HLQ, HBQ, HLW, HCW⟩ := hrel
        obtain ⟨wj, hwj⟩ : ∃ wj : World, wj = wr := ⟨_, rfl⟩
        subst hwj
        by_cases hlt : m2 < l.length
        · have b2 : decide ((m2 : Int) < (l.length : Int)) = true := by simp; omega
          obtain ⟨ad, hag, x0⟩ := byte_at HLW.out.C.1 m2 (by rw [HLQ.out]; exact hlt)
          obtain rfl := Option.some.inj hag
          rw [add0] at x0
          have hyb := HBQ.out.at m2
          generalize hy : l2.getD m2 0 = y at x0 hyb
          have HCC : Hid (∀ j u, [(.int .u8 y : Value)][j]? = some u → wj.cell? ⟨g, (m2 : Int).toNat * (Kd.int .u8).sz + j, none⟩ = some u) := Lib.hid (by
            intro j u hu
            rcases j with _ | j
            · have he := Option.some.inj hu
              subst he
              have hoff : (m2 : Int).toNat * (Kd.int .u8).sz + 0 = m2 := by show (m2 : Int).toNat * 1 + 0 = m2; omega
              rw [hoff]
              exact x0
            · simp at hu)
          have HOF : Hid (m2 = (m2 : Int).toNat * (Kd.int .u8).sz + 0) := Lib.hid (by show m2 = (m2 : Int).toNat * 1 + 0; omega)
          obtain ⟨z, hz⟩ : ∃ z, IntKind.u8.wrap (y + 1) = z := ⟨_, rfl⟩
          have HZB : Hid (0 ≤ z ∧ z < 256) := Lib.hid (by rw [IntKind.wrap_u8] at hz; omega)
          have HWN := Lib.hid (w64n m2 (by omega))
          have hlq := HLQ.out
          have hin : (m2 : Int) < ((l2.length + 2 : Nat) : Int) := by omega
          clear hlq
          go_wp2_with (first | ((with_reducible refine gate_ (.store 5 (.tmp 149) (.tmp 148)) rfl ?_); refine Kd.R_store (Kd.int .u8) (w0 := wj) w.heap.size rfl rfl 5 (.tmp 149) (.tmp 148) rfl 5 (g := g) (o' := m2) (n := l2.length + 2) (cap := cap) (m2 : Int) 0 (l2 ++ [201, 202]) z (.int .u8 z) [.int .u8 z] [.int .u8 y] (fun _ => True) (fun _ => False) ?ha HOF.out ?hx rfl size5 ?hone HLW.out (by omega) hin rfl HCC.out (Nat.le_refl 1) rfl (fun _ h => h.elim) (Below.refl _ _) ?_; (case ha => rfl); (case hx => rfl); (case hone => simp [Value.oneCell']); intro w14 hR14 hb14 hg14))
          have HLW14 : Hid (Lent w14 w.heap.size g cap (l2.set m2 z)) := Lib.hid (by
            have h1 := hR14
            rw [Int.toNat_natCast, List.set_append_left _ _ (by rw [HLQ.out]; exact hlt)] at h1
            unfold Lent
            rw [List.length_set]
            exact h1)
          have HCW14 := Lib.hid (HCW.out.trans (chg_opt hg14))
          have HBQ14 : Hid (By (l2.set m2 z)) := Lib.hid (fun x hx => by
            rcases List.mem_or_eq_of_mem_set hx with h | h
            · exact HBQ.out x h
            · rw [h]; exact HZB.out)
          clear hR14 hb14 hg14 HLW HCW HCC x0
          go_wp2_with fail
          go_roundw
          case rel => exact ⟨m2 + 1, _, by omega, by first | rfl | (rw [HWN.out]; rfl), Lib.hid (by rw [List.length_set]; exact HLQ.out), HBQ14, HLW14, HCW14⟩
          case measure =>
            first | rw [HWN.out] | skip
            simp [intOf]
            omega
        · have b2 : decide ((m2 : Int) < (l.length : Int)) = false := by simp; omega
          have hgi : ∀ x ∈ [g], x < wi.heap.size := by simp; exact hgl
          have HRpZ := Lib.hid (R_over HRp9.out HCW.out hgi)
          have HRxZ := Lib.hid (R_over HRx9.out HCW.out hgi)
          have HRmZ := Lib.hid (R_over HRm9.out HCW.out hgi)
          have HRtZ := Lib.hid (R_over HRt9.out HCW.out hgi)
          have HB12Z := Lib.hid (HB129.out.chg HCW.out (by simp; omega))
          have HB20Z := Lib.hid (HB209.out.chg HCW.out (by simp; omega))
          have HBZ : Hid (Below w.heap.size w wj) := Lib.hid (by
            have h1 := HB.out.trans (HB9.out.mono HB.out.size)
            exact h1.trans (HCW.out.below h1.size (by simp; exact hg.1)))
          have hF2 := values_any P N1 cp cn ps wj (Kd.R_reads' HRpZ.out).2.2 (Kd.R_reads' HRxZ.out).2.2 HPG.out.1 HPG.out.2
          have HF2 := Lib.hid hF2
          have HF3 := Lib.hid (fun W hb => message_any m.id m.tag M1 T1 cm ct m.pl W (Kd.C_below (Kd.R_reads' HRmZ.out).2.2 hb) (Kd.C_below (Kd.R_reads' HRtZ.out).2.2 hb) HMG.out.1 HMG.out.2)
          clear hF2 HRp9 HRx9 HRm9 HRt9 HB129 HB209 hgi
          go_wp2_with fail
          refine HF2.out.mono ?_
          rintro e Z1 ⟨rfl, hZ1⟩
          have HZ1 := Lib.hid hZ1
          clear hZ1
          have hz := HB12Z.out.below HZ1.out HB12Z.out.lt
          have x0 := hz.cell 0
          have x1 := hz.cell 1
          have x2 := hz.cell 2
          have hz' := HB20Z.out.below HZ1.out HB20Z.out.lt
          have y0 := hz'.cell 0
          have y1 := hz'.cell 1
          have y2 := hz'.cell 2
          simp at x0 x1 x2 y0 y1 y2
          clear hz hz'
          go_wp2_with fail
          refine (HF3.out Z1 HZ1.out).mono ?_
          rintro e Z2 ⟨rfl, hZ2⟩
          have HZ2 := Lib.hid (HZ1.out.trans (hZ2.mono HZ1.out.size))
          have HWN := Lib.hid (w64n k (by omega))
          clear hZ2 HZ1 x0 x1 x2 y0 y1 y2
          go_wp2_with fail
          rw [HLL.out]
          go_roundw
          case rel => exact ⟨k + 1, l2, by first | rfl | (rw [HWN.out]; rfl), by omega, Lib.hid (HLQ.out.trans HLL.out), HBQ, Lib.hid (Kd.R_below HLW.out HZ2.out), Lib.hid (HBZ.out.trans (HZ2.out.mono HBZ.out.size)), by have := HB9.out.size; have := HCW.out.size; have := HZ2.out.size; omega⟩
          case measure =>
            first | rw [HWN.out] | skip
            simp [intOf]
            omega
    · have b1 : decide ((k : Int) < 2) = false := by simp; omega
      go_wp2_with fail
      go_ret
      exact ⟨rfl, HB.out⟩
end Go.Proofs.Ytlbfnnngemonoaa.Wir
