/- chordmaillaw11's values and message over like rows. -/
import Derived.Test.YtlbfnnngemonoaaWirKept
namespace Go.Proofs.Ytlbfnnngemonoaa.Wir
open Go.RowKit Go.Proofs.Ytlbfnnngemonoaa.PWireReads
open Go.Proofs.Ytlbfnnngemonoaa.Fat (Blk Chg Off)
open Go.Proofs.YtlbfnnngemonoaaW.PrintWords Go.Proofs.YtlbfnnngemonoaaW.PrintLast Go.Proofs.YtlbfnnngemonoaaW.PrintMore
set_option linter.unusedVariables false
set_option linter.unusedSimpArgs false
attribute [local go_sem] run_store_float run_store_complex

set_option maxRecDepth 20000 in
set_option maxHeartbeats 1000000 in
theorem values_any (A B : Option Addr) (c c' : Nat) (vs : List V) (w : World) (hC : Kd.C kV w A vs.length vs) (hD : Kd.C kV w B vs.length vs) (hG : ∀ v ∈ vs, Good v) (h6 : vs.length ≤ 4096) :
    Calls Try.prog 26 #[.slice A vs.length c, .slice B vs.length c'] w fun e w' => e = .returned (.bool true) ∧ Below w.heap.size w w' := by
  have HC := Lib.hid hC
  have HD := Lib.hid hD
  have HG := Lib.hid hG
  clear hC hD hG
  go_enter Try.func26, Try.ntmps26
  go_wp2_with fail
  go_loopw [5, 6] (fun i ok wr => ∃ k : Nat, k ≤ vs.length ∧ i = .int .i64 k ∧ Below w.heap.size w wr) (fun i _ _ => vs.length - (intOf i).toNat)
  case atStart => exact ⟨0, by omega, rfl, Below.refl _ _⟩
  case round =>
    obtain ⟨k, hk, rfl, hb⟩ := hrel
    by_cases hlt : k < vs.length
    · have b0 : decide ((k : Int) < (vs.length : Int)) = true := by simp; omega
      obtain ⟨ad, hA, x0, x1, x2, x3, x4⟩ := at_V (Kd.C_below HC.out hb) k hlt
      obtain ⟨bd, hB, y0, y1, y2, y3, y4⟩ := at_V (Kd.C_below HD.out hb) k hlt
      subst hA
      subst hB
      have hGk := HG.out vs[k] (List.getElem_mem hlt)
      generalize vs[k] = v at x0 x1 x2 x3 x4 y0 y1 y2 y3 y4 hGk
      have HSZ := Lib.hid (fun W => sam_self v hGk W)
      have HWN := Lib.hid (w64n k (by omega))
      clear hGk
      go_upto_region 6 with fail
      go_still_tail 8, (by kernel_rfl)
      change wpList _ _ _ _ _ wr.drew
      go_wp2_with fail
      refine (HSZ.out _).mono ?_
      rintro e w1 ⟨rfl, hb1⟩
      have hb2 := (below_drew hb).trans (hb1.mono (below_drew hb).size)
      clear hb1 x0 x1 x2 x3 x4 y0 y1 y2 y3 y4
      go_wp2_with fail
      go_roundw
      case rel => exact ⟨k + 1, by omega, by first | rfl | (rw [HWN.out]; rfl), hb2⟩
      case measure =>
        first | rw [HWN.out] | skip
        simp [intOf]
        omega
    · obtain rfl : k = vs.length := by omega
      go_wp2_with fail
      go_ret
      exact ⟨rfl, hb⟩
theorem two_three (w : World) (a0 a1 a2 b0 b1 b2 : Value) : ∀ w', Below ((w.alloc (.cells #[a0, a1, a2] 57)).alloc (.cells #[b0, b1, b2] 57)).heap.size ((w.alloc (.cells #[a0, a1, a2] 57)).alloc (.cells #[b0, b1, b2] 57)) w' →
    w'.cell? ⟨w.heap.size, 0, none⟩ = some a0 ∧ w'.cell? ⟨w.heap.size, 1, none⟩ = some a1 ∧ w'.cell? ⟨w.heap.size, 2, none⟩ = some a2 ∧ w'.cell? ⟨w.heap.size + 1, 0, none⟩ = some b0 ∧ w'.cell? ⟨w.heap.size + 1, 1, none⟩ = some b1 ∧ w'.cell? ⟨w.heap.size + 1, 2, none⟩ = some b2 := by
  intro w' hb
  obtain ⟨h0, h1, _⟩ := two_new w #[a0, a1, a2] #[b0, b1, b2] 57 57
  have g0 := h0.below hb h0.lt
  have g1 := h1.below hb h1.lt
  exact ⟨g0.cell 0, g0.cell 1, g0.cell 2, g1.cell 0, g1.cell 1, g1.cell 2⟩
set_option maxRecDepth 20000 in
set_option maxHeartbeats 1000000 in
theorem message_any (id : Int) (tag : ByteArray) (A B : Option Addr) (c c' : Nat) (vs : List V) (w : World) (hC : Kd.C kV w A vs.length vs) (hD : Kd.C kV w B vs.length vs) (hG : ∀ v ∈ vs, Good v) (h6 : vs.length ≤ 4096) :
    Calls Try.prog 27 #[.agg #[.int .i64 id, .string tag, .slice A vs.length c], .agg #[.int .i64 id, .string tag, .slice B vs.length c']] w fun e w' => e = .returned (.bool true) ∧ Below w.heap.size w w' := by
  have HB0 := Lib.hid (two_new w #[.int .i64 id, .string tag, .slice A vs.length c] #[.int .i64 id, .string tag, .slice B vs.length c'] 57 57).2.2
  have HSS := Lib.hid (two_three w (.int .i64 id) (.string tag) (.slice A vs.length c) (.int .i64 id) (.string tag) (.slice B vs.length c'))
  have HV := Lib.hid (fun W hb => values_any A B c c' vs W (Kd.C_below hC hb) (Kd.C_below hD hb) hG h6)
  clear hC hD hG h6
  go_enter Try.func27, Try.ntmps27
  go_upto_region 1 with fail
  generalize hWg : ((w.alloc (.cells #[.int .i64 id, .string tag, .slice A vs.length c] 57)).alloc (.cells #[.int .i64 id, .string tag, .slice B vs.length c'] 57)) = W1 at HSS HB0 ⊢
  clear hWg
  obtain ⟨x0, x1, x2, y0, y1, y2⟩ := HSS.out _ (Below.refl _ _)
  go_wp2_with fail
  refine (HV.out _ (by exact HB0.out)).mono ?_
  rintro e w7 ⟨rfl, hb7⟩
  go_wp2_with fail
  go_ret
  exact ⟨rfl, HB0.out.trans (hb7.mono HB0.out.size)⟩
end Go.Proofs.Ytlbfnnngemonoaa.Wir
