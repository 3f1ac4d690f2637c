/- tape.one: the kind Send. -/
import Derived.Test.YtlbfnnngemonoaaTapA
import Derived.Laws.EntriesVeiled
namespace Go.Proofs.Ytlbfnnngemonoaa.Wir
open Go.RowKit Go.Proofs.Ytlbfnnngemonoaa.PWireReads
open Go.Proofs.Ytlbfnnngemonoaa.Fat (Blk Chg Off chg_opt)
open Go.Proofs.YtlbfnnngemonoaaW.PrintWords Go.Proofs.YtlbfnnngemonoaaW.PrintLast Go.Proofs.YtlbfnnngemonoaaW.PrintMore
set_option linter.unusedVariables false
set_option linter.unusedSimpArgs false
attribute [local go_sem] run_store_float run_store_complex
attribute [local go_sem] run_makeFunc' events_makeFunc'

theorem rvec_of' {e : Nat} {w : World} {base : Nat} {v : Value} {vs : List V} (h : Kd.R kV e w base (fun _ => True) v vs) : ∃ A c, v = .slice A vs.length c := Kd.R_slice h
theorem rdW_le {l : List Int} {a n : Nat} {s : ByteArray} (h : rdW l a = some (s, n)) : n ≤ l.length ∧ a < n := by
  unfold rdW at h
  split at h
  · cases h
  split at h
  · cases h
  split at h
  · cases h
  · injection h with h
    injection h with h1 h2
    omega
set_option maxRecDepth 20000 in
set_option maxHeartbeats 4000000 in
theorem one_send_bad1 (A : Option Addr) (c : Nat) (l : List Int) (w : World) (hC : Kd.C (Kd.int .u8) w A l.length l) (hc : l.length ≤ c) (hB : By l) (h1 : 1 ≤ l.length) (hl : l.length ≤ 140737488355328) (hk : l.getD 0 0 = 2) (hr : rdL l 1 = none) :
    Calls Try.prog 68 #[.slice A l.length c] w fun e w' => e = .returned (.tuple #[zCall, .int .i64 0]) ∧ Below w.heap.size w w' := by
  obtain ⟨ad, hA, z0⟩ := byte_at hC 0 (by omega)
  have hyb := hB.at 0
  subst hA
  have HT := Lib.hid (two_new w #[.slice (some ad) l.length c] #[.int .i64 0, .string { data := #[] }, .int .i64 0, .slice none 0 0, .int .i64 0] 45 123)
  have HC := Lib.hid hC
  have b9 : decide ((0 : Int) < (l.length : Int)) = true := by simp; omega
  have b10 : decide (0 < l.length) = true := by simp; omega
  have z0 : w.cell? ad = some (.int .u8 (l.getD 0 0)) := by simpa [Addr.add] using z0
  rw [hk] at z0
  have z1 : ∀ W : World, Below w.heap.size w W → W.cell? ad = some (.int .u8 2) := fun W h => (World.cell?_of_block (h.block _ (World.block_lt_of_cell? w _ z0))).trans z0
  have HZ := Lib.hid z1
  clear hC hyb hk z0 z1
  go_enter Try.func68, Try.ntmps68
  go_wp2_with fail
  refine wp_scope_fwd 0 (by rfl) ?_
  go_upto_region 6 with fail
  obtain ⟨a0, a1, hb⟩ := HT.out
  generalize hWq : ((w.alloc (.cells #[.slice (some ad) l.length c] 45)).alloc (.cells #[.int .i64 0, .string { data := #[] }, .int .i64 0, .slice none 0 0, .int .i64 0] 123)) = W1 at a0 a1 hb ⊢
  clear hWq
  have x0 := a0.cell 0
  have z0 := HZ.out W1 hb
  have y0 := a1.cell 0
  have yf0 := a1.frozen 0
  simp at x0 y0
  have HA1 := Lib.hid a1
  have HA0 := Lib.hid a0
  have HB := Lib.hid hb
  clear a0 a1 hb HT
  go_upto_region 7 with fail
  have h2 := HA1.out.set_ 0 (.int .i64 2)
  have hb2 : Below w.heap.size w (W1.setCell ⟨w.heap.size + 1, 0, none⟩ (.int .i64 2)) := below_set HB.out (Nat.le_succ _)
  generalize hWq : W1.setCell ⟨w.heap.size + 1, 0, none⟩ (.int .i64 2) = W2 at h2 hb2 ⊢
  have hx2 : Blk W2 w.heap.size 45 #[.slice (some ad) l.length c] := by rw [← hWq]; exact HA0.out.far (by show w.heap.size ≠ w.heap.size + 1; omega) _
  clear hWq x0 z0 y0 yf0
  have y0 : W2.cell? ⟨w.heap.size + 1, 0, none⟩ = some (.int .i64 2) := by rw [h2.cell]; rfl
  have yf0 : W2.frozen? ⟨w.heap.size + 1, 0, none⟩ = false := h2.frozen 0
  have y1 : W2.cell? ⟨w.heap.size + 1, 1, none⟩ = some (.string { data := #[] }) := by rw [h2.cell]; rfl
  have yf1 : W2.frozen? ⟨w.heap.size + 1, 1, none⟩ = false := h2.frozen 1
  have y2 : W2.cell? ⟨w.heap.size + 1, 2, none⟩ = some (.int .i64 0) := by rw [h2.cell]; rfl
  have yf2 : W2.frozen? ⟨w.heap.size + 1, 2, none⟩ = false := h2.frozen 2
  have y3 : W2.cell? ⟨w.heap.size + 1, 3, none⟩ = some (.slice none 0 0) := by rw [h2.cell]; rfl
  have yf3 : W2.frozen? ⟨w.heap.size + 1, 3, none⟩ = false := h2.frozen 3
  have y4 : W2.cell? ⟨w.heap.size + 1, 4, none⟩ = some (.int .i64 0) := by rw [h2.cell]; rfl
  have yf4 : W2.frozen? ⟨w.heap.size + 1, 4, none⟩ = false := h2.frozen 4
  have HWD : Hid (Calls Try.prog 82 #[.int .i64 1, .pointer (some ⟨w.heap.size, 0, none⟩)] W2 fun e w' => e = .returned (resL (rdL l 1)) ∧ w' = W2) := Lib.hid (long82_any w.heap.size (some ad) c l 1 W2 hx2 (Kd.C_below HC.out hb2) hc hB hl (by omega))
  have H2 := Lib.hid h2
  have HB2 := Lib.hid hb2
  have HX2 := Lib.hid hx2
  clear h2 hb2 hx2 HA1 HA0 HB HZ b9 b10
  go_wp2_with fail
  refine HWD.out.mono ?_
  rintro e w3 ⟨he, rfl⟩
  clear HWD
  rw [hr] at he
  have he : e = .returned (.tuple #[.int .i64 0, .bool false]) := he
  subst he
  go_upto_region 13 with fail
  have h4 := H2.out.set_ 2 (.int .i64 0)
  have hb4 : Below w.heap.size w (w3.setCell ⟨w.heap.size + 1, 2, none⟩ (.int .i64 0)) := below_set HB2.out (Nat.le_succ _)
  have hx4 := HX2.out.far (p := ⟨w.heap.size + 1, 2, none⟩) (by show w.heap.size ≠ w.heap.size + 1; omega) (.int .i64 0)
  generalize hWq : w3.setCell ⟨w.heap.size + 1, 2, none⟩ (.int .i64 0) = W4 at h4 hb4 hx4 ⊢
  clear hWq
  clear y0 yf0 y1 yf1 y2 yf2 y3 yf3 y4 yf4
  have y0 : W4.cell? ⟨w.heap.size + 1, 0, none⟩ = some (.int .i64 2) := by rw [h4.cell]; rfl
  have yf0 : W4.frozen? ⟨w.heap.size + 1, 0, none⟩ = false := h4.frozen 0
  have y1 : W4.cell? ⟨w.heap.size + 1, 1, none⟩ = some (.string { data := #[] }) := by rw [h4.cell]; rfl
  have yf1 : W4.frozen? ⟨w.heap.size + 1, 1, none⟩ = false := h4.frozen 1
  have y2 : W4.cell? ⟨w.heap.size + 1, 2, none⟩ = some (.int .i64 0) := by rw [h4.cell]; rfl
  have yf2 : W4.frozen? ⟨w.heap.size + 1, 2, none⟩ = false := h4.frozen 2
  have y3 : W4.cell? ⟨w.heap.size + 1, 3, none⟩ = some (.slice none 0 0) := by rw [h4.cell]; rfl
  have yf3 : W4.frozen? ⟨w.heap.size + 1, 3, none⟩ = false := h4.frozen 3
  have y4 : W4.cell? ⟨w.heap.size + 1, 4, none⟩ = some (.int .i64 0) := by rw [h4.cell]; rfl
  have yf4 : W4.frozen? ⟨w.heap.size + 1, 4, none⟩ = false := h4.frozen 4
  go_wp2_with fail
  go_step3
  refine And.intro rfl ?_
  go_wp2_with fail
  simp only [Exit.jump]
  refine bodyPost_ret (results_ct rfl _ _ (w.heap.size + 1) 123 #[.int .i64 0, .string { data := #[] }, .int .i64 0, .slice none 0 0, .int .i64 0] (0, 0) _ rfl (show Blk _ (w.heap.size + 1) 123 #[.int .i64 0, .string { data := #[] }, .int .i64 0, .slice none 0 0, .int .i64 0] from (((((h4).set_ 0 _).set_ 1 _).set_ 2 _).set_ 3 _).set_ 4 _) Try.underlying123 rfl (by kernel_rfl)) rfl ?_
  exact ⟨rfl, below_set (below_set (below_set (below_set (below_set (hb4) (Nat.le_succ _)) (Nat.le_succ _)) (Nat.le_succ _)) (Nat.le_succ _)) (Nat.le_succ _)⟩
set_option maxRecDepth 20000 in
set_option maxHeartbeats 4000000 in
theorem one_send_bad2 (A : Option Addr) (c : Nat) (l : List Int) (w : World) (hC : Kd.C (Kd.int .u8) w A l.length l) (hc : l.length ≤ c) (hB : By l) (h1 : 1 ≤ l.length) (hl : l.length ≤ 140737488355328) (hk : l.getD 0 0 = 2) (x : Int) (hr : rdL l 1 = some x) (hr2 : rdW l 9 = none) :
    Calls Try.prog 68 #[.slice A l.length c] w fun e w' => e = .returned (.tuple #[zCall, .int .i64 0]) ∧ Below w.heap.size w w' := by
  obtain ⟨ad, hA, z0⟩ := byte_at hC 0 (by omega)
  have hyb := hB.at 0
  subst hA
  have HT := Lib.hid (two_new w #[.slice (some ad) l.length c] #[.int .i64 0, .string { data := #[] }, .int .i64 0, .slice none 0 0, .int .i64 0] 45 123)
  have HC := Lib.hid hC
  have b9 : decide ((0 : Int) < (l.length : Int)) = true := by simp; omega
  have b10 : decide (0 < l.length) = true := by simp; omega
  have z0 : w.cell? ad = some (.int .u8 (l.getD 0 0)) := by simpa [Addr.add] using z0
  rw [hk] at z0
  have z1 : ∀ W : World, Below w.heap.size w W → W.cell? ad = some (.int .u8 2) := fun W h => (World.cell?_of_block (h.block _ (World.block_lt_of_cell? w _ z0))).trans z0
  have HZ := Lib.hid z1
  clear hC hyb hk z0 z1
  go_enter Try.func68, Try.ntmps68
  go_wp2_with fail
  refine wp_scope_fwd 0 (by rfl) ?_
  go_upto_region 6 with fail
  obtain ⟨a0, a1, hb⟩ := HT.out
  generalize hWq : ((w.alloc (.cells #[.slice (some ad) l.length c] 45)).alloc (.cells #[.int .i64 0, .string { data := #[] }, .int .i64 0, .slice none 0 0, .int .i64 0] 123)) = W1 at a0 a1 hb ⊢
  clear hWq
  have x0 := a0.cell 0
  have z0 := HZ.out W1 hb
  have y0 := a1.cell 0
  have yf0 := a1.frozen 0
  simp at x0 y0
  have HA1 := Lib.hid a1
  have HA0 := Lib.hid a0
  have HB := Lib.hid hb
  clear a0 a1 hb HT
  go_upto_region 7 with fail
  have h2 := HA1.out.set_ 0 (.int .i64 2)
  have hb2 : Below w.heap.size w (W1.setCell ⟨w.heap.size + 1, 0, none⟩ (.int .i64 2)) := below_set HB.out (Nat.le_succ _)
  generalize hWq : W1.setCell ⟨w.heap.size + 1, 0, none⟩ (.int .i64 2) = W2 at h2 hb2 ⊢
  have hx2 : Blk W2 w.heap.size 45 #[.slice (some ad) l.length c] := by rw [← hWq]; exact HA0.out.far (by show w.heap.size ≠ w.heap.size + 1; omega) _
  clear hWq x0 z0 y0 yf0
  have y0 : W2.cell? ⟨w.heap.size + 1, 0, none⟩ = some (.int .i64 2) := by rw [h2.cell]; rfl
  have yf0 : W2.frozen? ⟨w.heap.size + 1, 0, none⟩ = false := h2.frozen 0
  have y1 : W2.cell? ⟨w.heap.size + 1, 1, none⟩ = some (.string { data := #[] }) := by rw [h2.cell]; rfl
  have yf1 : W2.frozen? ⟨w.heap.size + 1, 1, none⟩ = false := h2.frozen 1
  have y2 : W2.cell? ⟨w.heap.size + 1, 2, none⟩ = some (.int .i64 0) := by rw [h2.cell]; rfl
  have yf2 : W2.frozen? ⟨w.heap.size + 1, 2, none⟩ = false := h2.frozen 2
  have y3 : W2.cell? ⟨w.heap.size + 1, 3, none⟩ = some (.slice none 0 0) := by rw [h2.cell]; rfl
  have yf3 : W2.frozen? ⟨w.heap.size + 1, 3, none⟩ = false := h2.frozen 3
  have y4 : W2.cell? ⟨w.heap.size + 1, 4, none⟩ = some (.int .i64 0) := by rw [h2.cell]; rfl
  have yf4 : W2.frozen? ⟨w.heap.size + 1, 4, none⟩ = false := h2.frozen 4
  have HWD : Hid (Calls Try.prog 82 #[.int .i64 1, .pointer (some ⟨w.heap.size, 0, none⟩)] W2 fun e w' => e = .returned (resL (rdL l 1)) ∧ w' = W2) := Lib.hid (long82_any w.heap.size (some ad) c l 1 W2 hx2 (Kd.C_below HC.out hb2) hc hB hl (by omega))
  have H2 := Lib.hid h2
  have HB2 := Lib.hid hb2
  have HX2 := Lib.hid hx2
  clear h2 hb2 hx2 HA1 HA0 HB HZ b9 b10
  go_wp2_with fail
  refine HWD.out.mono ?_
  rintro e w3 ⟨he, rfl⟩
  clear HWD
  rw [hr] at he
  have he : e = .returned (.tuple #[.int .i64 x, .bool true]) := he
  subst he
  go_upto_region 13 with fail
  have h4 := H2.out.set_ 2 (.int .i64 x)
  have hb4 : Below w.heap.size w (w3.setCell ⟨w.heap.size + 1, 2, none⟩ (.int .i64 x)) := below_set HB2.out (Nat.le_succ _)
  have hx4 := HX2.out.far (p := ⟨w.heap.size + 1, 2, none⟩) (by show w.heap.size ≠ w.heap.size + 1; omega) (.int .i64 x)
  generalize hWq : w3.setCell ⟨w.heap.size + 1, 2, none⟩ (.int .i64 x) = W4 at h4 hb4 hx4 ⊢
  clear hWq
  clear y0 yf0 y1 yf1 y2 yf2 y3 yf3 y4 yf4
  have y0 : W4.cell? ⟨w.heap.size + 1, 0, none⟩ = some (.int .i64 2) := by rw [h4.cell]; rfl
  have yf0 : W4.frozen? ⟨w.heap.size + 1, 0, none⟩ = false := h4.frozen 0
  have y1 : W4.cell? ⟨w.heap.size + 1, 1, none⟩ = some (.string { data := #[] }) := by rw [h4.cell]; rfl
  have yf1 : W4.frozen? ⟨w.heap.size + 1, 1, none⟩ = false := h4.frozen 1
  have y2 : W4.cell? ⟨w.heap.size + 1, 2, none⟩ = some (.int .i64 x) := by rw [h4.cell]; rfl
  have yf2 : W4.frozen? ⟨w.heap.size + 1, 2, none⟩ = false := h4.frozen 2
  have y3 : W4.cell? ⟨w.heap.size + 1, 3, none⟩ = some (.slice none 0 0) := by rw [h4.cell]; rfl
  have yf3 : W4.frozen? ⟨w.heap.size + 1, 3, none⟩ = false := h4.frozen 3
  have y4 : W4.cell? ⟨w.heap.size + 1, 4, none⟩ = some (.int .i64 0) := by rw [h4.cell]; rfl
  have yf4 : W4.frozen? ⟨w.heap.size + 1, 4, none⟩ = false := h4.frozen 4
  have HWD : Hid (Calls Try.prog 81 #[.int .i64 9, .pointer (some ⟨w.heap.size, 0, none⟩)] W4 fun e w' => e = .returned (resW (rdW l 9)) ∧ Below W4.heap.size W4 w') := Lib.hid (word81_any w.heap.size (some ad) c l 9 W4 hx4 (Kd.C_below HC.out hb4) hc hB hl (by omega))
  have H4 := Lib.hid h4
  have HB4 := Lib.hid hb4
  have HX4 := Lib.hid hx4
  clear h4 hb4 hx4 H2 HB2 HX2
  go_wp2_with fail
  refine HWD.out.mono ?_
  rintro e w5 ⟨he, hb5⟩
  have h5 := H4.out.below hb5 H4.out.lt
  have H5 := Lib.hid h5
  have HX5 := Lib.hid (HX4.out.below hb5 HX4.out.lt)
  have HB5 := Lib.hid (HB4.out.trans (hb5.mono HB4.out.size))
  clear y0 yf0 y1 yf1 y2 yf2 y3 yf3 y4 yf4
  have y0 : w5.cell? ⟨w.heap.size + 1, 0, none⟩ = some (.int .i64 2) := by rw [h5.cell]; rfl
  have yf0 : w5.frozen? ⟨w.heap.size + 1, 0, none⟩ = false := h5.frozen 0
  have y1 : w5.cell? ⟨w.heap.size + 1, 1, none⟩ = some (.string { data := #[] }) := by rw [h5.cell]; rfl
  have yf1 : w5.frozen? ⟨w.heap.size + 1, 1, none⟩ = false := h5.frozen 1
  have y2 : w5.cell? ⟨w.heap.size + 1, 2, none⟩ = some (.int .i64 x) := by rw [h5.cell]; rfl
  have yf2 : w5.frozen? ⟨w.heap.size + 1, 2, none⟩ = false := h5.frozen 2
  have y3 : w5.cell? ⟨w.heap.size + 1, 3, none⟩ = some (.slice none 0 0) := by rw [h5.cell]; rfl
  have yf3 : w5.frozen? ⟨w.heap.size + 1, 3, none⟩ = false := h5.frozen 3
  have y4 : w5.cell? ⟨w.heap.size + 1, 4, none⟩ = some (.int .i64 0) := by rw [h5.cell]; rfl
  have yf4 : w5.frozen? ⟨w.heap.size + 1, 4, none⟩ = false := h5.frozen 4
  clear h5 hb5 H4 HB4 HX4 HWD
  rw [hr2] at he
  have he : e = .returned (.tuple #[.string { data := #[] }, .int .i64 0, .bool false]) := he
  subst he
  go_upto_region 15 with fail
  have h6 := H5.out.set_ 1 (.string { data := #[] })
  have hb6 : Below w.heap.size w (w5.setCell ⟨w.heap.size + 1, 1, none⟩ (.string { data := #[] })) := below_set HB5.out (Nat.le_succ _)
  have hx6 := HX5.out.far (p := ⟨w.heap.size + 1, 1, none⟩) (by show w.heap.size ≠ w.heap.size + 1; omega) (.string { data := #[] })
  generalize hWq : w5.setCell ⟨w.heap.size + 1, 1, none⟩ (.string { data := #[] }) = W6 at h6 hb6 hx6 ⊢
  clear hWq
  clear y0 yf0 y1 yf1 y2 yf2 y3 yf3 y4 yf4
  have y0 : W6.cell? ⟨w.heap.size + 1, 0, none⟩ = some (.int .i64 2) := by rw [h6.cell]; rfl
  have yf0 : W6.frozen? ⟨w.heap.size + 1, 0, none⟩ = false := h6.frozen 0
  have y1 : W6.cell? ⟨w.heap.size + 1, 1, none⟩ = some (.string { data := #[] }) := by rw [h6.cell]; rfl
  have yf1 : W6.frozen? ⟨w.heap.size + 1, 1, none⟩ = false := h6.frozen 1
  have y2 : W6.cell? ⟨w.heap.size + 1, 2, none⟩ = some (.int .i64 x) := by rw [h6.cell]; rfl
  have yf2 : W6.frozen? ⟨w.heap.size + 1, 2, none⟩ = false := h6.frozen 2
  have y3 : W6.cell? ⟨w.heap.size + 1, 3, none⟩ = some (.slice none 0 0) := by rw [h6.cell]; rfl
  have yf3 : W6.frozen? ⟨w.heap.size + 1, 3, none⟩ = false := h6.frozen 3
  have y4 : W6.cell? ⟨w.heap.size + 1, 4, none⟩ = some (.int .i64 0) := by rw [h6.cell]; rfl
  have yf4 : W6.frozen? ⟨w.heap.size + 1, 4, none⟩ = false := h6.frozen 4
  go_wp2_with fail
  go_step3
  refine And.intro rfl ?_
  go_wp2_with fail
  simp only [Exit.jump]
  refine bodyPost_ret (results_ct rfl _ _ (w.heap.size + 1) 123 #[.int .i64 0, .string { data := #[] }, .int .i64 0, .slice none 0 0, .int .i64 0] (0, 0) _ rfl (show Blk _ (w.heap.size + 1) 123 #[.int .i64 0, .string { data := #[] }, .int .i64 0, .slice none 0 0, .int .i64 0] from (((((h6).set_ 0 _).set_ 1 _).set_ 2 _).set_ 3 _).set_ 4 _) Try.underlying123 rfl (by kernel_rfl)) rfl ?_
  exact ⟨rfl, below_set (below_set (below_set (below_set (below_set (hb6) (Nat.le_succ _)) (Nat.le_succ _)) (Nat.le_succ _)) (Nat.le_succ _)) (Nat.le_succ _)⟩
theorem readP_none (A : Option Addr) (c : Nat) (l : List Int) (w : World) (hC : Kd.C (Kd.int .u8) w A l.length l) (hc : l.length ≤ c) (hB : By l) (hl : l.length ≤ 140737488355328) (hr : rdP l = none) :
    Calls Try.prog 19 #[.slice A l.length c] w fun e w' => e = .returned (.tuple #[.slice none 0 0, .int .i64 0, .int .i64 110]) ∧ Below w.heap.size w w' := by
  have h := readP_any A c l w hC hc hB hl
  rw [hr] at h
  exact h.mono fun e w' h => ⟨h.2, h.1⟩
theorem readP_some (A : Option Addr) (c : Nat) (l : List Int) (w : World) (hC : Kd.C (Kd.int .u8) w A l.length l) (hc : l.length ≤ c) (hB : By l) (hl : l.length ≤ 140737488355328) (vs : List V) (m : Nat) (hr : rdP l = some (vs, m)) :
    Calls Try.prog 19 #[.slice A l.length c] w fun e w' => ∃ Av cv, e = .returned (.tuple #[.slice Av vs.length cv, .int .i64 m, .int .i64 0]) ∧ Kd.R kV 50 w' w.heap.size (fun _ => True) (.slice Av vs.length cv) vs ∧ Below w.heap.size w w' := by
  have h := readP_any A c l w hC hc hB hl
  rw [hr] at h
  refine h.mono fun e w' h => ?_
  obtain ⟨hb, v, he, hR⟩ := h
  obtain ⟨Av, cv, rfl⟩ := rvec_of' hR
  exact ⟨Av, cv, he, hR, hb⟩
end Go.Proofs.Ytlbfnnngemonoaa.Wir
namespace Go.Proofs.Ytlbfnnngemonoaa.Wir
open Go.RowKit Go.Proofs.Ytlbfnnngemonoaa.PWireReads
open Go.Proofs.Ytlbfnnngemonoaa.Fat (Blk Chg Off chg_opt)
open Go.Proofs.YtlbfnnngemonoaaW.PrintWords Go.Proofs.YtlbfnnngemonoaaW.PrintLast Go.Proofs.YtlbfnnngemonoaaW.PrintMore
set_option linter.unusedVariables false
set_option linter.unusedSimpArgs false
attribute [local go_sem] run_store_float run_store_complex
attribute [local go_sem] run_makeFunc' events_makeFunc'

set_option maxRecDepth 20000 in
set_option maxHeartbeats 4000000 in
theorem one_send_bad3 (A : Option Addr) (c : Nat) (l : List Int) (w : World) (hC : Kd.C (Kd.int .u8) w A l.length l) (hc : l.length ≤ c) (hB : By l) (h1 : 1 ≤ l.length) (hl : l.length ≤ 140737488355328) (hk : l.getD 0 0 = 2) (x : Int) (hr : rdL l 1 = some x) (s : ByteArray) (n : Nat) (hr2 : rdW l 9 = some (s, n)) (hr3 : rdP (l.drop n) = none) :
    Calls Try.prog 68 #[.slice A l.length c] w fun e w' => e = .returned (.tuple #[zCall, .int .i64 0]) ∧ Below w.heap.size w w' := by
  obtain ⟨ad, hA, z0⟩ := byte_at hC 0 (by omega)
  have hyb := hB.at 0
  subst hA
  have HT := Lib.hid (two_new w #[.slice (some ad) l.length c] #[.int .i64 0, .string { data := #[] }, .int .i64 0, .slice none 0 0, .int .i64 0] 45 123)
  have HC := Lib.hid hC
  have b9 : decide ((0 : Int) < (l.length : Int)) = true := by simp; omega
  have b10 : decide (0 < l.length) = true := by simp; omega
  have z0 : w.cell? ad = some (.int .u8 (l.getD 0 0)) := by simpa [Addr.add] using z0
  rw [hk] at z0
  have z1 : ∀ W : World, Below w.heap.size w W → W.cell? ad = some (.int .u8 2) := fun W h => (World.cell?_of_block (h.block _ (World.block_lt_of_cell? w _ z0))).trans z0
  have HZ := Lib.hid z1
  clear hC hyb hk z0 z1
  go_enter Try.func68, Try.ntmps68
  go_wp2_with fail
  refine wp_scope_fwd 0 (by rfl) ?_
  go_upto_region 6 with fail
  obtain ⟨a0, a1, hb⟩ := HT.out
  generalize hWq : ((w.alloc (.cells #[.slice (some ad) l.length c] 45)).alloc (.cells #[.int .i64 0, .string { data := #[] }, .int .i64 0, .slice none 0 0, .int .i64 0] 123)) = W1 at a0 a1 hb ⊢
  clear hWq
  have x0 := a0.cell 0
  have z0 := HZ.out W1 hb
  have y0 := a1.cell 0
  have yf0 := a1.frozen 0
  simp at x0 y0
  have HA1 := Lib.hid a1
  have HA0 := Lib.hid a0
  have HB := Lib.hid hb
  clear a0 a1 hb HT
  go_upto_region 7 with fail
  have h2 := HA1.out.set_ 0 (.int .i64 2)
  have hb2 : Below w.heap.size w (W1.setCell ⟨w.heap.size + 1, 0, none⟩ (.int .i64 2)) := below_set HB.out (Nat.le_succ _)
  generalize hWq : W1.setCell ⟨w.heap.size + 1, 0, none⟩ (.int .i64 2) = W2 at h2 hb2 ⊢
  have hx2 : Blk W2 w.heap.size 45 #[.slice (some ad) l.length c] := by rw [← hWq]; exact HA0.out.far (by show w.heap.size ≠ w.heap.size + 1; omega) _
  clear hWq x0 z0 y0 yf0
  have y0 : W2.cell? ⟨w.heap.size + 1, 0, none⟩ = some (.int .i64 2) := by rw [h2.cell]; rfl
  have yf0 : W2.frozen? ⟨w.heap.size + 1, 0, none⟩ = false := h2.frozen 0
  have y1 : W2.cell? ⟨w.heap.size + 1, 1, none⟩ = some (.string { data := #[] }) := by rw [h2.cell]; rfl
  have yf1 : W2.frozen? ⟨w.heap.size + 1, 1, none⟩ = false := h2.frozen 1
  have y2 : W2.cell? ⟨w.heap.size + 1, 2, none⟩ = some (.int .i64 0) := by rw [h2.cell]; rfl
  have yf2 : W2.frozen? ⟨w.heap.size + 1, 2, none⟩ = false := h2.frozen 2
  have y3 : W2.cell? ⟨w.heap.size + 1, 3, none⟩ = some (.slice none 0 0) := by rw [h2.cell]; rfl
  have yf3 : W2.frozen? ⟨w.heap.size + 1, 3, none⟩ = false := h2.frozen 3
  have y4 : W2.cell? ⟨w.heap.size + 1, 4, none⟩ = some (.int .i64 0) := by rw [h2.cell]; rfl
  have yf4 : W2.frozen? ⟨w.heap.size + 1, 4, none⟩ = false := h2.frozen 4
  have HWD : Hid (Calls Try.prog 82 #[.int .i64 1, .pointer (some ⟨w.heap.size, 0, none⟩)] W2 fun e w' => e = .returned (resL (rdL l 1)) ∧ w' = W2) := Lib.hid (long82_any w.heap.size (some ad) c l 1 W2 hx2 (Kd.C_below HC.out hb2) hc hB hl (by omega))
  have H2 := Lib.hid h2
  have HB2 := Lib.hid hb2
  have HX2 := Lib.hid hx2
  clear h2 hb2 hx2 HA1 HA0 HB HZ b9 b10
  go_wp2_with fail
  refine HWD.out.mono ?_
  rintro e w3 ⟨he, rfl⟩
  clear HWD
  rw [hr] at he
  have he : e = .returned (.tuple #[.int .i64 x, .bool true]) := he
  subst he
  go_upto_region 13 with fail
  have h4 := H2.out.set_ 2 (.int .i64 x)
  have hb4 : Below w.heap.size w (w3.setCell ⟨w.heap.size + 1, 2, none⟩ (.int .i64 x)) := below_set HB2.out (Nat.le_succ _)
  have hx4 := HX2.out.far (p := ⟨w.heap.size + 1, 2, none⟩) (by show w.heap.size ≠ w.heap.size + 1; omega) (.int .i64 x)
  generalize hWq : w3.setCell ⟨w.heap.size + 1, 2, none⟩ (.int .i64 x) = W4 at h4 hb4 hx4 ⊢
  clear hWq
  clear y0 yf0 y1 yf1 y2 yf2 y3 yf3 y4 yf4
  have y0 : W4.cell? ⟨w.heap.size + 1, 0, none⟩ = some (.int .i64 2) := by rw [h4.cell]; rfl
  have yf0 : W4.frozen? ⟨w.heap.size + 1, 0, none⟩ = false := h4.frozen 0
  have y1 : W4.cell? ⟨w.heap.size + 1, 1, none⟩ = some (.string { data := #[] }) := by rw [h4.cell]; rfl
  have yf1 : W4.frozen? ⟨w.heap.size + 1, 1, none⟩ = false := h4.frozen 1
  have y2 : W4.cell? ⟨w.heap.size + 1, 2, none⟩ = some (.int .i64 x) := by rw [h4.cell]; rfl
  have yf2 : W4.frozen? ⟨w.heap.size + 1, 2, none⟩ = false := h4.frozen 2
  have y3 : W4.cell? ⟨w.heap.size + 1, 3, none⟩ = some (.slice none 0 0) := by rw [h4.cell]; rfl
  have yf3 : W4.frozen? ⟨w.heap.size + 1, 3, none⟩ = false := h4.frozen 3
  have y4 : W4.cell? ⟨w.heap.size + 1, 4, none⟩ = some (.int .i64 0) := by rw [h4.cell]; rfl
  have yf4 : W4.frozen? ⟨w.heap.size + 1, 4, none⟩ = false := h4.frozen 4
  have HWD : Hid (Calls Try.prog 81 #[.int .i64 9, .pointer (some ⟨w.heap.size, 0, none⟩)] W4 fun e w' => e = .returned (resW (rdW l 9)) ∧ Below W4.heap.size W4 w') := Lib.hid (word81_any w.heap.size (some ad) c l 9 W4 hx4 (Kd.C_below HC.out hb4) hc hB hl (by omega))
  have H4 := Lib.hid h4
  have HB4 := Lib.hid hb4
  have HX4 := Lib.hid hx4
  clear h4 hb4 hx4 H2 HB2 HX2
  go_wp2_with fail
  refine HWD.out.mono ?_
  rintro e w5 ⟨he, hb5⟩
  have h5 := H4.out.below hb5 H4.out.lt
  have H5 := Lib.hid h5
  have HX5 := Lib.hid (HX4.out.below hb5 HX4.out.lt)
  have HB5 := Lib.hid (HB4.out.trans (hb5.mono HB4.out.size))
  clear y0 yf0 y1 yf1 y2 yf2 y3 yf3 y4 yf4
  have y0 : w5.cell? ⟨w.heap.size + 1, 0, none⟩ = some (.int .i64 2) := by rw [h5.cell]; rfl
  have yf0 : w5.frozen? ⟨w.heap.size + 1, 0, none⟩ = false := h5.frozen 0
  have y1 : w5.cell? ⟨w.heap.size + 1, 1, none⟩ = some (.string { data := #[] }) := by rw [h5.cell]; rfl
  have yf1 : w5.frozen? ⟨w.heap.size + 1, 1, none⟩ = false := h5.frozen 1
  have y2 : w5.cell? ⟨w.heap.size + 1, 2, none⟩ = some (.int .i64 x) := by rw [h5.cell]; rfl
  have yf2 : w5.frozen? ⟨w.heap.size + 1, 2, none⟩ = false := h5.frozen 2
  have y3 : w5.cell? ⟨w.heap.size + 1, 3, none⟩ = some (.slice none 0 0) := by rw [h5.cell]; rfl
  have yf3 : w5.frozen? ⟨w.heap.size + 1, 3, none⟩ = false := h5.frozen 3
  have y4 : w5.cell? ⟨w.heap.size + 1, 4, none⟩ = some (.int .i64 0) := by rw [h5.cell]; rfl
  have yf4 : w5.frozen? ⟨w.heap.size + 1, 4, none⟩ = false := h5.frozen 4
  clear h5 hb5 H4 HB4 HX4 HWD
  rw [hr2] at he
  have he : e = .returned (.tuple #[.string s, .int .i64 n, .bool true]) := he
  subst he
  go_upto_region 15 with fail
  have h6 := H5.out.set_ 1 (.string s)
  have hb6 : Below w.heap.size w (w5.setCell ⟨w.heap.size + 1, 1, none⟩ (.string s)) := below_set HB5.out (Nat.le_succ _)
  have hx6 := HX5.out.far (p := ⟨w.heap.size + 1, 1, none⟩) (by show w.heap.size ≠ w.heap.size + 1; omega) (.string s)
  generalize hWq : w5.setCell ⟨w.heap.size + 1, 1, none⟩ (.string s) = W6 at h6 hb6 hx6 ⊢
  clear hWq
  clear y0 yf0 y1 yf1 y2 yf2 y3 yf3 y4 yf4
  have y0 : W6.cell? ⟨w.heap.size + 1, 0, none⟩ = some (.int .i64 2) := by rw [h6.cell]; rfl
  have yf0 : W6.frozen? ⟨w.heap.size + 1, 0, none⟩ = false := h6.frozen 0
  have y1 : W6.cell? ⟨w.heap.size + 1, 1, none⟩ = some (.string s) := by rw [h6.cell]; rfl
  have yf1 : W6.frozen? ⟨w.heap.size + 1, 1, none⟩ = false := h6.frozen 1
  have y2 : W6.cell? ⟨w.heap.size + 1, 2, none⟩ = some (.int .i64 x) := by rw [h6.cell]; rfl
  have yf2 : W6.frozen? ⟨w.heap.size + 1, 2, none⟩ = false := h6.frozen 2
  have y3 : W6.cell? ⟨w.heap.size + 1, 3, none⟩ = some (.slice none 0 0) := by rw [h6.cell]; rfl
  have yf3 : W6.frozen? ⟨w.heap.size + 1, 3, none⟩ = false := h6.frozen 3
  have y4 : W6.cell? ⟨w.heap.size + 1, 4, none⟩ = some (.int .i64 0) := by rw [h6.cell]; rfl
  have yf4 : W6.frozen? ⟨w.heap.size + 1, 4, none⟩ = false := h6.frozen 4
  obtain ⟨hn, hn1⟩ := rdW_le hr2
  have x6 := hx6.cell 0
  simp at x6
  obtain ⟨A1, c1, hcut, hc1, hC1⟩ := cutBy (some ad) c l W6 (Kd.C_below HC.out hb6) hc n hn
  have hl2 : (l.drop n).length ≤ 140737488355328 := by rw [List.length_drop]; omega
  have hLL : (l.drop n).length + n = l.length := by rw [List.length_drop]; omega
  have hB2 := hB.drop n
  generalize l.drop n = l2 at hcut hc1 hC1 hl2 hB2 hr3 hLL
  have HRP := Lib.hid (readP_none A1 c1 l2 W6 hC1 hc1 hB2 hl2 hr3)
  have H6 := Lib.hid h6
  have HB6 := Lib.hid hb6
  have HX6 := Lib.hid hx6
  have HLL := Lib.hid hLL
  have HHR := Lib.hid hr3
  clear h6 hb6 hx6 H5 HB5 HX5 hC1 hr hr2 hr3 hB hB2 hl2 hLL
  go_wp2_with fail
  refine HRP.out.mono ?_
  rintro _ w7 ⟨rfl, hb7⟩
  have h7 := H6.out.below hb7 H6.out.lt
  have hb7' := HB6.out.trans (hb7.mono HB6.out.size)
  have HX7 := Lib.hid (HX6.out.below hb7 HX6.out.lt)
  clear x6
  clear y0 yf0 y1 yf1 y2 yf2 y3 yf3 y4 yf4
  have y0 : w7.cell? ⟨w.heap.size + 1, 0, none⟩ = some (.int .i64 2) := by rw [h7.cell]; rfl
  have yf0 : w7.frozen? ⟨w.heap.size + 1, 0, none⟩ = false := h7.frozen 0
  have y1 : w7.cell? ⟨w.heap.size + 1, 1, none⟩ = some (.string s) := by rw [h7.cell]; rfl
  have yf1 : w7.frozen? ⟨w.heap.size + 1, 1, none⟩ = false := h7.frozen 1
  have y2 : w7.cell? ⟨w.heap.size + 1, 2, none⟩ = some (.int .i64 x) := by rw [h7.cell]; rfl
  have yf2 : w7.frozen? ⟨w.heap.size + 1, 2, none⟩ = false := h7.frozen 2
  have y3 : w7.cell? ⟨w.heap.size + 1, 3, none⟩ = some (.slice none 0 0) := by rw [h7.cell]; rfl
  have yf3 : w7.frozen? ⟨w.heap.size + 1, 3, none⟩ = false := h7.frozen 3
  have y4 : w7.cell? ⟨w.heap.size + 1, 4, none⟩ = some (.int .i64 0) := by rw [h7.cell]; rfl
  have yf4 : w7.frozen? ⟨w.heap.size + 1, 4, none⟩ = false := h7.frozen 4
  have hlt6 := H6.out.lt
  have H7 := Lib.hid h7
  have HB7 := Lib.hid hb7'
  clear HRP H6 HX6 h7 hb7'
  go_upto_region 17 with fail
  have h8 := H7.out.set_ 3 (.slice none 0 0)
  have hb8 : Below w.heap.size w (w7.setCell ⟨w.heap.size + 1, 3, none⟩ (.slice none 0 0)) := below_set HB7.out (Nat.le_succ _)
  have hx8 := HX7.out.far (p := ⟨w.heap.size + 1, 3, none⟩) (by show w.heap.size ≠ w.heap.size + 1; omega) (.slice none 0 0)
  generalize hWq : w7.setCell ⟨w.heap.size + 1, 3, none⟩ (.slice none 0 0) = W8 at h8 hb8 hx8 ⊢
  clear hWq
  clear y0 yf0 y1 yf1 y2 yf2 y3 yf3 y4 yf4
  have y0 : W8.cell? ⟨w.heap.size + 1, 0, none⟩ = some (.int .i64 2) := by rw [h8.cell]; rfl
  have yf0 : W8.frozen? ⟨w.heap.size + 1, 0, none⟩ = false := h8.frozen 0
  have y1 : W8.cell? ⟨w.heap.size + 1, 1, none⟩ = some (.string s) := by rw [h8.cell]; rfl
  have yf1 : W8.frozen? ⟨w.heap.size + 1, 1, none⟩ = false := h8.frozen 1
  have y2 : W8.cell? ⟨w.heap.size + 1, 2, none⟩ = some (.int .i64 x) := by rw [h8.cell]; rfl
  have yf2 : W8.frozen? ⟨w.heap.size + 1, 2, none⟩ = false := h8.frozen 2
  have y3 : W8.cell? ⟨w.heap.size + 1, 3, none⟩ = some (.slice none 0 0) := by rw [h8.cell]; rfl
  have yf3 : W8.frozen? ⟨w.heap.size + 1, 3, none⟩ = false := h8.frozen 3
  have y4 : W8.cell? ⟨w.heap.size + 1, 4, none⟩ = some (.int .i64 0) := by rw [h8.cell]; rfl
  have yf4 : W8.frozen? ⟨w.heap.size + 1, 4, none⟩ = false := h8.frozen 4
  go_wp2_with fail
  go_step3
  refine And.intro rfl ?_
  go_wp2_with fail
  simp only [Exit.jump]
  refine bodyPost_ret (results_ct rfl _ _ (w.heap.size + 1) 123 #[.int .i64 0, .string { data := #[] }, .int .i64 0, .slice none 0 0, .int .i64 0] (0, 0) _ rfl (show Blk _ (w.heap.size + 1) 123 #[.int .i64 0, .string { data := #[] }, .int .i64 0, .slice none 0 0, .int .i64 0] from (((((h8).set_ 0 _).set_ 1 _).set_ 2 _).set_ 3 _).set_ 4 _) Try.underlying123 rfl (by kernel_rfl)) rfl ?_
  exact ⟨rfl, below_set (below_set (below_set (below_set (below_set (hb8) (Nat.le_succ _)) (Nat.le_succ _)) (Nat.le_succ _)) (Nat.le_succ _)) (Nat.le_succ _)⟩
set_option maxRecDepth 20000 in
set_option maxHeartbeats 4000000 in
theorem one_send (A : Option Addr) (c : Nat) (l : List Int) (w : World) (hC : Kd.C (Kd.int .u8) w A l.length l) (hc : l.length ≤ c) (hB : By l) (h1 : 1 ≤ l.length) (hl : l.length ≤ 140737488355328) (hk : l.getD 0 0 = 2) (x : Int) (hr : rdL l 1 = some x) (s : ByteArray) (n : Nat) (hr2 : rdW l 9 = some (s, n)) (vs : List V) (m : Nat) (hr3 : rdP (l.drop n) = some (vs, m)) :
    Calls Try.prog 68 #[.slice A l.length c] w fun e w' => ∃ Av cv, e = .returned (.tuple #[.agg #[.int .i64 2, .string s, .int .i64 x, .slice Av vs.length cv, .int .i64 0], .int .i64 ((n : Int) + (m : Int))]) ∧ Kd.R kV 50 w' w.heap.size (fun _ => True) (.slice Av vs.length cv) vs ∧ Below w.heap.size w w' := by
  obtain ⟨ad, hA, z0⟩ := byte_at hC 0 (by omega)
  have hyb := hB.at 0
  subst hA
  have HT := Lib.hid (two_new w #[.slice (some ad) l.length c] #[.int .i64 0, .string { data := #[] }, .int .i64 0, .slice none 0 0, .int .i64 0] 45 123)
  have HC := Lib.hid hC
  have b9 : decide ((0 : Int) < (l.length : Int)) = true := by simp; omega
  have b10 : decide (0 < l.length) = true := by simp; omega
  have z0 : w.cell? ad = some (.int .u8 (l.getD 0 0)) := by simpa [Addr.add] using z0
  rw [hk] at z0
  have z1 : ∀ W : World, Below w.heap.size w W → W.cell? ad = some (.int .u8 2) := fun W h => (World.cell?_of_block (h.block _ (World.block_lt_of_cell? w _ z0))).trans z0
  have HZ := Lib.hid z1
  clear hC hyb hk z0 z1
  go_enter Try.func68, Try.ntmps68
  go_wp2_with fail
  refine wp_scope_fwd 0 (by rfl) ?_
  go_upto_region 6 with fail
  obtain ⟨a0, a1, hb⟩ := HT.out
  generalize hWq : ((w.alloc (.cells #[.slice (some ad) l.length c] 45)).alloc (.cells #[.int .i64 0, .string { data := #[] }, .int .i64 0, .slice none 0 0, .int .i64 0] 123)) = W1 at a0 a1 hb ⊢
  clear hWq
  have x0 := a0.cell 0
  have z0 := HZ.out W1 hb
  have y0 := a1.cell 0
  have yf0 := a1.frozen 0
  simp at x0 y0
  have HA1 := Lib.hid a1
  have HA0 := Lib.hid a0
  have HB := Lib.hid hb
  clear a0 a1 hb HT
  go_upto_region 7 with fail
  have h2 := HA1.out.set_ 0 (.int .i64 2)
  have hb2 : Below w.heap.size w (W1.setCell ⟨w.heap.size + 1, 0, none⟩ (.int .i64 2)) := below_set HB.out (Nat.le_succ _)
  generalize hWq : W1.setCell ⟨w.heap.size + 1, 0, none⟩ (.int .i64 2) = W2 at h2 hb2 ⊢
  have hx2 : Blk W2 w.heap.size 45 #[.slice (some ad) l.length c] := by rw [← hWq]; exact HA0.out.far (by show w.heap.size ≠ w.heap.size + 1; omega) _
  clear hWq x0 z0 y0 yf0
  have y0 : W2.cell? ⟨w.heap.size + 1, 0, none⟩ = some (.int .i64 2) := by rw [h2.cell]; rfl
  have yf0 : W2.frozen? ⟨w.heap.size + 1, 0, none⟩ = false := h2.frozen 0
  have y1 : W2.cell? ⟨w.heap.size + 1, 1, none⟩ = some (.string { data := #[] }) := by rw [h2.cell]; rfl
  have yf1 : W2.frozen? ⟨w.heap.size + 1, 1, none⟩ = false := h2.frozen 1
  have y2 : W2.cell? ⟨w.heap.size + 1, 2, none⟩ = some (.int .i64 0) := by rw [h2.cell]; rfl
  have yf2 : W2.frozen? ⟨w.heap.size + 1, 2, none⟩ = false := h2.frozen 2
  have y3 : W2.cell? ⟨w.heap.size + 1, 3, none⟩ = some (.slice none 0 0) := by rw [h2.cell]; rfl
  have yf3 : W2.frozen? ⟨w.heap.size + 1, 3, none⟩ = false := h2.frozen 3
  have y4 : W2.cell? ⟨w.heap.size + 1, 4, none⟩ = some (.int .i64 0) := by rw [h2.cell]; rfl
  have yf4 : W2.frozen? ⟨w.heap.size + 1, 4, none⟩ = false := h2.frozen 4
  have HWD : Hid (Calls Try.prog 82 #[.int .i64 1, .pointer (some ⟨w.heap.size, 0, none⟩)] W2 fun e w' => e = .returned (resL (rdL l 1)) ∧ w' = W2) := Lib.hid (long82_any w.heap.size (some ad) c l 1 W2 hx2 (Kd.C_below HC.out hb2) hc hB hl (by omega))
  have H2 := Lib.hid h2
  have HB2 := Lib.hid hb2
  have HX2 := Lib.hid hx2
  clear h2 hb2 hx2 HA1 HA0 HB HZ b9 b10
  go_wp2_with fail
  refine HWD.out.mono ?_
  rintro e w3 ⟨he, rfl⟩
  clear HWD
  rw [hr] at he
  have he : e = .returned (.tuple #[.int .i64 x, .bool true]) := he
  subst he
  go_upto_region 13 with fail
  have h4 := H2.out.set_ 2 (.int .i64 x)
  have hb4 : Below w.heap.size w (w3.setCell ⟨w.heap.size + 1, 2, none⟩ (.int .i64 x)) := below_set HB2.out (Nat.le_succ _)
  have hx4 := HX2.out.far (p := ⟨w.heap.size + 1, 2, none⟩) (by show w.heap.size ≠ w.heap.size + 1; omega) (.int .i64 x)
  generalize hWq : w3.setCell ⟨w.heap.size + 1, 2, none⟩ (.int .i64 x) = W4 at h4 hb4 hx4 ⊢
  clear hWq
  clear y0 yf0 y1 yf1 y2 yf2 y3 yf3 y4 yf4
  have y0 : W4.cell? ⟨w.heap.size + 1, 0, none⟩ = some (.int .i64 2) := by rw [h4.cell]; rfl
  have yf0 : W4.frozen? ⟨w.heap.size + 1, 0, none⟩ = false := h4.frozen 0
  have y1 : W4.cell? ⟨w.heap.size + 1, 1, none⟩ = some (.string { data := #[] }) := by rw [h4.cell]; rfl
  have yf1 : W4.frozen? ⟨w.heap.size + 1, 1, none⟩ = false := h4.frozen 1
  have y2 : W4.cell? ⟨w.heap.size + 1, 2, none⟩ = some (.int .i64 x) := by rw [h4.cell]; rfl
  have yf2 : W4.frozen? ⟨w.heap.size + 1, 2, none⟩ = false := h4.frozen 2
  have y3 : W4.cell? ⟨w.heap.size + 1, 3, none⟩ = some (.slice none 0 0) := by rw [h4.cell]; rfl
  have yf3 : W4.frozen? ⟨w.heap.size + 1, 3, none⟩ = false := h4.frozen 3
  have y4 : W4.cell? ⟨w.heap.size + 1, 4, none⟩ = some (.int .i64 0) := by rw [h4.cell]; rfl
  have yf4 : W4.frozen? ⟨w.heap.size + 1, 4, none⟩ = false := h4.frozen 4
  have HWD : Hid (Calls Try.prog 81 #[.int .i64 9, .pointer (some ⟨w.heap.size, 0, none⟩)] W4 fun e w' => e = .returned (resW (rdW l 9)) ∧ Below W4.heap.size W4 w') := Lib.hid (word81_any w.heap.size (some ad) c l 9 W4 hx4 (Kd.C_below HC.out hb4) hc hB hl (by omega))
  have H4 := Lib.hid h4
  have HB4 := Lib.hid hb4
  have HX4 := Lib.hid hx4
  clear h4 hb4 hx4 H2 HB2 HX2
  go_wp2_with fail
  refine HWD.out.mono ?_
  rintro e w5 ⟨he, hb5⟩
  have h5 := H4.out.below hb5 H4.out.lt
  have H5 := Lib.hid h5
  have HX5 := Lib.hid (HX4.out.below hb5 HX4.out.lt)
  have HB5 := Lib.hid (HB4.out.trans (hb5.mono HB4.out.size))
  clear y0 yf0 y1 yf1 y2 yf2 y3 yf3 y4 yf4
  have y0 : w5.cell? ⟨w.heap.size + 1, 0, none⟩ = some (.int .i64 2) := by rw [h5.cell]; rfl
  have yf0 : w5.frozen? ⟨w.heap.size + 1, 0, none⟩ = false := h5.frozen 0
  have y1 : w5.cell? ⟨w.heap.size + 1, 1, none⟩ = some (.string { data := #[] }) := by rw [h5.cell]; rfl
  have yf1 : w5.frozen? ⟨w.heap.size + 1, 1, none⟩ = false := h5.frozen 1
  have y2 : w5.cell? ⟨w.heap.size + 1, 2, none⟩ = some (.int .i64 x) := by rw [h5.cell]; rfl
  have yf2 : w5.frozen? ⟨w.heap.size + 1, 2, none⟩ = false := h5.frozen 2
  have y3 : w5.cell? ⟨w.heap.size + 1, 3, none⟩ = some (.slice none 0 0) := by rw [h5.cell]; rfl
  have yf3 : w5.frozen? ⟨w.heap.size + 1, 3, none⟩ = false := h5.frozen 3
  have y4 : w5.cell? ⟨w.heap.size + 1, 4, none⟩ = some (.int .i64 0) := by rw [h5.cell]; rfl
  have yf4 : w5.frozen? ⟨w.heap.size + 1, 4, none⟩ = false := h5.frozen 4
  clear h5 hb5 H4 HB4 HX4 HWD
  rw [hr2] at he
  have he : e = .returned (.tuple #[.string s, .int .i64 n, .bool true]) := he
  subst he
  go_upto_region 15 with fail
  have h6 := H5.out.set_ 1 (.string s)
  have hb6 : Below w.heap.size w (w5.setCell ⟨w.heap.size + 1, 1, none⟩ (.string s)) := below_set HB5.out (Nat.le_succ _)
  have hx6 := HX5.out.far (p := ⟨w.heap.size + 1, 1, none⟩) (by show w.heap.size ≠ w.heap.size + 1; omega) (.string s)
  generalize hWq : w5.setCell ⟨w.heap.size + 1, 1, none⟩ (.string s) = W6 at h6 hb6 hx6 ⊢
  clear hWq
  clear y0 yf0 y1 yf1 y2 yf2 y3 yf3 y4 yf4
  have y0 : W6.cell? ⟨w.heap.size + 1, 0, none⟩ = some (.int .i64 2) := by rw [h6.cell]; rfl
  have yf0 : W6.frozen? ⟨w.heap.size + 1, 0, none⟩ = false := h6.frozen 0
  have y1 : W6.cell? ⟨w.heap.size + 1, 1, none⟩ = some (.string s) := by rw [h6.cell]; rfl
  have yf1 : W6.frozen? ⟨w.heap.size + 1, 1, none⟩ = false := h6.frozen 1
  have y2 : W6.cell? ⟨w.heap.size + 1, 2, none⟩ = some (.int .i64 x) := by rw [h6.cell]; rfl
  have yf2 : W6.frozen? ⟨w.heap.size + 1, 2, none⟩ = false := h6.frozen 2
  have y3 : W6.cell? ⟨w.heap.size + 1, 3, none⟩ = some (.slice none 0 0) := by rw [h6.cell]; rfl
  have yf3 : W6.frozen? ⟨w.heap.size + 1, 3, none⟩ = false := h6.frozen 3
  have y4 : W6.cell? ⟨w.heap.size + 1, 4, none⟩ = some (.int .i64 0) := by rw [h6.cell]; rfl
  have yf4 : W6.frozen? ⟨w.heap.size + 1, 4, none⟩ = false := h6.frozen 4
  obtain ⟨hn, hn1⟩ := rdW_le hr2
  have x6 := hx6.cell 0
  simp at x6
  obtain ⟨A1, c1, hcut, hc1, hC1⟩ := cutBy (some ad) c l W6 (Kd.C_below HC.out hb6) hc n hn
  have hl2 : (l.drop n).length ≤ 140737488355328 := by rw [List.length_drop]; omega
  have hLL : (l.drop n).length + n = l.length := by rw [List.length_drop]; omega
  have hB2 := hB.drop n
  generalize l.drop n = l2 at hcut hc1 hC1 hl2 hB2 hr3 hLL
  have HRP := Lib.hid (readP_some A1 c1 l2 W6 hC1 hc1 hB2 hl2 vs m hr3)
  have H6 := Lib.hid h6
  have HB6 := Lib.hid hb6
  have HX6 := Lib.hid hx6
  have HLL := Lib.hid hLL
  have HHR := Lib.hid hr3
  clear h6 hb6 hx6 H5 HB5 HX5 hC1 hr hr2 hr3 hB hB2 hl2 hLL
  go_wp2_with fail
  refine HRP.out.mono ?_
  rintro _ w7 ⟨Av, cv, rfl, hRv, hb7⟩
  have h7 := H6.out.below hb7 H6.out.lt
  have hb7' := HB6.out.trans (hb7.mono HB6.out.size)
  have HX7 := Lib.hid (HX6.out.below hb7 HX6.out.lt)
  clear x6
  clear y0 yf0 y1 yf1 y2 yf2 y3 yf3 y4 yf4
  have y0 : w7.cell? ⟨w.heap.size + 1, 0, none⟩ = some (.int .i64 2) := by rw [h7.cell]; rfl
  have yf0 : w7.frozen? ⟨w.heap.size + 1, 0, none⟩ = false := h7.frozen 0
  have y1 : w7.cell? ⟨w.heap.size + 1, 1, none⟩ = some (.string s) := by rw [h7.cell]; rfl
  have yf1 : w7.frozen? ⟨w.heap.size + 1, 1, none⟩ = false := h7.frozen 1
  have y2 : w7.cell? ⟨w.heap.size + 1, 2, none⟩ = some (.int .i64 x) := by rw [h7.cell]; rfl
  have yf2 : w7.frozen? ⟨w.heap.size + 1, 2, none⟩ = false := h7.frozen 2
  have y3 : w7.cell? ⟨w.heap.size + 1, 3, none⟩ = some (.slice none 0 0) := by rw [h7.cell]; rfl
  have yf3 : w7.frozen? ⟨w.heap.size + 1, 3, none⟩ = false := h7.frozen 3
  have y4 : w7.cell? ⟨w.heap.size + 1, 4, none⟩ = some (.int .i64 0) := by rw [h7.cell]; rfl
  have yf4 : w7.frozen? ⟨w.heap.size + 1, 4, none⟩ = false := h7.frozen 4
  have hlt6 := H6.out.lt
  have H7 := Lib.hid h7
  have HB7 := Lib.hid hb7'
  clear HRP H6 HX6 h7 hb7'
  obtain ⟨_, _, _, hm⟩ := rdP_good _ _ _ HHR.out
  have hLL := HLL.out
  have wn : IntKind.i64.wrap ((n : Int) + (m : Int)) = (n : Int) + (m : Int) := by rw [IntKind.wrap_i64]; omega
  have HRv := Lib.hid hRv
  have hs6 := HB6.out.size
  have HR8 := Lib.hid (R_over hRv ((Chg.refl [w.heap.size + 1] w7).setCell (p := ⟨w.heap.size + 1, 3, none⟩) (.inl (by simp)) (.slice Av vs.length cv)) (by simp; exact hlt6))
  clear hRv HRv hm hn hn1 hLL
  go_upto_region 17 with fail
  have h8 := H7.out.set_ 3 (.slice Av vs.length cv)
  have hb8 : Below w.heap.size w (w7.setCell ⟨w.heap.size + 1, 3, none⟩ (.slice Av vs.length cv)) := below_set HB7.out (Nat.le_succ _)
  generalize hWq : w7.setCell ⟨w.heap.size + 1, 3, none⟩ (.slice Av vs.length cv) = W8 at h8 hb8 HR8 ⊢
  clear hWq
  clear y0 yf0 y1 yf1 y2 yf2 y3 yf3 y4 yf4
  have y0 : W8.cell? ⟨w.heap.size + 1, 0, none⟩ = some (.int .i64 2) := by rw [h8.cell]; rfl
  have yf0 : W8.frozen? ⟨w.heap.size + 1, 0, none⟩ = false := h8.frozen 0
  have y1 : W8.cell? ⟨w.heap.size + 1, 1, none⟩ = some (.string s) := by rw [h8.cell]; rfl
  have yf1 : W8.frozen? ⟨w.heap.size + 1, 1, none⟩ = false := h8.frozen 1
  have y2 : W8.cell? ⟨w.heap.size + 1, 2, none⟩ = some (.int .i64 x) := by rw [h8.cell]; rfl
  have yf2 : W8.frozen? ⟨w.heap.size + 1, 2, none⟩ = false := h8.frozen 2
  have y3 : W8.cell? ⟨w.heap.size + 1, 3, none⟩ = some (.slice Av vs.length cv) := by rw [h8.cell]; rfl
  have yf3 : W8.frozen? ⟨w.heap.size + 1, 3, none⟩ = false := h8.frozen 3
  have y4 : W8.cell? ⟨w.heap.size + 1, 4, none⟩ = some (.int .i64 0) := by rw [h8.cell]; rfl
  have yf4 : W8.frozen? ⟨w.heap.size + 1, 4, none⟩ = false := h8.frozen 4
  go_wp2_with fail
  try simp only [Exit.jump, Exit.inBlock, Exit.then]
  refine bodyPost_ret (results_ct rfl _ _ (w.heap.size + 1) 123 #[.int .i64 2, .string s, .int .i64 x, .slice Av vs.length cv, .int .i64 0] (0, 0) _ rfl (show Blk _ (w.heap.size + 1) 123 #[.int .i64 2, .string s, .int .i64 x, .slice Av vs.length cv, .int .i64 0] from (((((h8).set_ 0 _).set_ 1 _).set_ 2 _).set_ 3 _).set_ 4 _) Try.underlying123 rfl (by kernel_rfl)) rfl ?_
  exact ⟨Av, cv, rfl, Kd.R_lower (R_over HR8.out (((((((Chg.refl [w.heap.size + 1] W8)).setCell (.inl (by simp)) _).setCell (.inl (by simp)) _).setCell (.inl (by simp)) _).setCell (.inl (by simp)) _).setCell (.inl (by simp)) _) (by simp; exact hlt6)) hs6, below_set (below_set (below_set (below_set (below_set (hb8) (Nat.le_succ _)) (Nat.le_succ _)) (Nat.le_succ _)) (Nat.le_succ _)) (Nat.le_succ _)⟩
end Go.Proofs.Ytlbfnnngemonoaa.Wir
