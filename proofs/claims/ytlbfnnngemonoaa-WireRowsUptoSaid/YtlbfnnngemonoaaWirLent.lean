/- chordmaillaw11's lent, kept, values, message. -/
import Derived.Test.YtlbfnnngemonoaaWirMsg
namespace Go.Proofs.Ytlbfnnngemonoaa.Wir
open Go.RowKit Go.Proofs.Ytlbfnnngemonoaa.PWireReads
open Go.Proofs.Ytlbfnnngemonoaa.Fat (Blk Chg Off)
open Go.Proofs.YtlbfnnngemonoaaW.PrintWords Go.Proofs.YtlbfnnngemonoaaW.PrintLast Go.Proofs.YtlbfnnngemonoaaW.PrintMore
set_option linter.unusedVariables false
set_option linter.unusedSimpArgs false
attribute [local go_sem] run_store_float run_store_complex

theorem C_marks (w : World) : Kd.C (Kd.int .u8) (w.alloc (.cells #[.int .u8 201, .int .u8 202] 5)) (some ⟨w.heap.size, 0, none⟩) 2 [201, 202] := by
  refine ⟨rfl, by simp [maxLen], fun _ => ⟨_, rfl, fun j p hj => ?_⟩⟩
  have hB := Blk.new w 5 #[.int .u8 201, .int .u8 202]
  rcases j with _ | _ | j
  · obtain rfl : p = 201 := by simpa using hj.symm
    refine ⟨[.int .u8 201], rfl, rfl, fun i u hu => ?_⟩
    rcases i with _ | i
    · have := Option.some.inj hu
      subst this
      exact hB.cell 0
    · simp at hu
  · obtain rfl : p = 202 := by simpa using hj.symm
    refine ⟨[.int .u8 202], rfl, rfl, fun i u hu => ?_⟩
    rcases i with _ | i
    · have := Option.some.inj hu
      subst this
      exact hB.cell 1
    · simp at hu
  · simp at hj
/-- Bytes in memory of their own, two marks behind them. -/
def Lent (w : World) (base : Nat) (g cap : Nat) (l : List Int) : Prop := Kd.R (Kd.int .u8) 5 w base (fun _ => True) (.slice (some ⟨g, 0, none⟩) (l.length + 2) cap) (l ++ [201, 202])
set_option maxRecDepth 20000 in
set_option maxHeartbeats 1000000 in
theorem lent_any (A : Option Addr) (c : Nat) (l : List Int) (w : World) (hC : Kd.C (Kd.int .u8) w A l.length l) (hl : l.length + 2 ≤ 140737488355328) :
    Calls Try.prog 17 #[.slice A l.length c] w fun e w' => ∃ g cap, e = .returned (.slice (some ⟨g, 0, none⟩) l.length cap) ∧ Lent w' w.heap.size g cap l ∧ l.length + 2 ≤ cap ∧ Below w.heap.size w w' := by
  have HC := Lib.hid hC
  clear hC
  go_enter Try.func17, Try.ntmps17
  go_wp2_with (first | ((with_reducible refine gate_builtin (b := .append) (xs := #[.tmp 4, .tmp 5]) rfl ?_); at_builtin; refine Kd.R_append_rows (Kd.int .u8) (w0 := w) w.heap.size rfl (.tmp 4) (.tmp 5) 45 5 (.int .u8 0) 1 rfl Try.underlying45 info5 rfl (by decide) (by omega) (.slice none 0 0) ([] : List Int) l A l.length c (fun _ => True) (fun _ => False) rfl rfl (Kd.R_nil _ _ _ _ _) HC.out (fun x cs hc => hc) (fun _ hk => hk.elim) (fun _ _ => trivial) (Below.refl _ _) (Nat.le_refl _) (by simp; omega) ?_; intro v1 w1 hR1 hb1 hg1 hat1; have HR1 := Lib.hid (Kd.R_alloc hR1 (.cells #[.int .u8 201, .int .u8 202] 5)); have HB1 := Lib.hid (below_alloc hb1 (.cells #[.int .u8 201, .int .u8 202] 5)); clear hR1 hb1 hg1 hat1) | ((with_reducible refine gate_builtin (b := .append) (xs := #[.tmp 6, .tmp 7]) rfl ?_); at_builtin; refine Kd.R_append_rows (Kd.int .u8) (w0 := w) w.heap.size rfl (.tmp 6) (.tmp 7) 45 5 (.int .u8 0) 1 rfl Try.underlying45 info5 rfl (by decide) (by omega) v1 ([] ++ l : List Int) [201, 202] (some ⟨w1.heap.size, 0, none⟩) 2 2 (fun _ => True) (fun _ => False) rfl rfl HR1.out (C_marks w1) (fun x cs hc => hc) (fun _ hk => hk.elim) (fun _ _ => trivial) HB1.out HB1.out.size (by simp; omega) ?_; intro v2 w2 hR2 hb2 hg2 hat2; obtain ⟨g2, cap2, hv2, hgb2, hgl2, _⟩ := Kd.R_form hR2 (by simp); subst hv2; have HR2 := Lib.hid hR2; have HB2 := Lib.hid hb2; have hcap : l.length + 2 ≤ cap2 := (by have := (Kd.R_reads' hR2).2.1; simpa using this); have hcut := cutTo (some ⟨g2, 0, none⟩) (l.length + 2) cap2 l.length (by omega) (by omega) hcap; clear hR2 hb2 hg2 hat2) | fail)

  go_ret
  refine ⟨g2, cap2, rfl, ?_, hcap, HB2.out⟩
  have := HR2.out
  simpa [Lent] using this
end Go.Proofs.Ytlbfnnngemonoaa.Wir
