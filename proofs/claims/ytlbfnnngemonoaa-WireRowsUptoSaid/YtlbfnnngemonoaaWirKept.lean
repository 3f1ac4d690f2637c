/- chordmaillaw11's kept. -/
import Derived.Test.YtlbfnnngemonoaaWirLent
namespace Go.Proofs.Ytlbfnnngemonoaa.Wir
open Go.RowKit Go.Proofs.Ytlbfnnngemonoaa.PWireReads
open Go.Proofs.Ytlbfnnngemonoaa.Fat (Blk Chg Off)
open Go.Proofs.YtlbfnnngemonoaaW.PrintWords Go.Proofs.YtlbfnnngemonoaaW.PrintLast Go.Proofs.YtlbfnnngemonoaaW.PrintMore
set_option linter.unusedVariables false
set_option linter.unusedSimpArgs false
attribute [local go_sem] run_store_float run_store_complex

theorem cutUp (g n c m : Nat) (hm : m ≤ c) : ∀ W : World, (Instr.slice 45 (.slice (some ⟨g, 0, none⟩) n c) none (some (.int .i64 m)) none).run Try.prog W = .ok (.slice (some ⟨g, 0, none⟩) m c) W := by
  intro W
  obtain ⟨i, hi, hs⟩ := inf5
  have hel : Try.prog.elem 45 = 5 := by simp [Program.elem, Try.underlying45]
  have hu : Try.prog.underlying 45 = some (.slice (Try.prog.elem 45)) := by rw [hel]; exact Try.underlying45
  have ha : ((some ⟨g, 0, none⟩ : Option Addr).map fun x => x.add 0) = (some ⟨g, 0, none⟩ : Option Addr) := by simp [Addr.add]
  rw [run_slice_h W 45 (some ⟨g, 0, none⟩) n c hu .i64 (m : Int) (by omega) (by omega), hel]
  simp [sizeOf, typeInfo, hi, sliced, Result.andThen, ha, Addr.add]
theorem Lent.C {w : World} {base g cap : Nat} {l : List Int} (h : Lent w base g cap l) : Kd.C (Kd.int .u8) w (some ⟨g, 0, none⟩) l.length l ∧ Kd.C (Kd.int .u8) w (some ⟨g, 0, none⟩) (l.length + 2) (l ++ [201, 202]) := by
  have h1 := (Kd.R_reads' h).2.2
  have h2 := Kd.C_take h1 (m := l.length) (by simp)
  rw [List.take_left'  rfl] at h2
  refine ⟨h2, ?_⟩
  simpa using h1
set_option maxRecDepth 20000 in
set_option maxHeartbeats 1000000 in
theorem kept_any (w : World) (base g cap c : Nat) (B : Option Addr) (l : List Int) (hL : Lent w base g cap l) (hcap : l.length + 2 ≤ cap) (hC : Kd.C (Kd.int .u8) w B l.length l) (hl : l.length + 2 ≤ 140737488355328) :
    Calls Try.prog 28 #[.slice (some ⟨g, 0, none⟩) l.length cap, .slice B l.length c] w fun e w' => e = .returned (.bool true) ∧ Below w.heap.size w w' := by
  obtain ⟨hc1, hc2⟩ := hL.C
  have hcut := cutUp g l.length cap (l.length + 2) hcap
  have w2 : IntKind.i64.wrap ((l.length : Int) + 2) = (l.length : Int) + 2 := by rw [IntKind.wrap_i64]; omega
  have w1 : IntKind.i64.wrap ((l.length : Int) + 1) = (l.length : Int) + 1 := by rw [IntKind.wrap_i64]; omega
  have s1 := Kd.C_string (P := Try.prog) (src := 45) (dst := 9) (c := cap) Try.underlying45 Try.underlying5 Try.underlying9 hc1
  have s2 := Kd.C_string (P := Try.prog) (src := 45) (dst := 9) (c := c) Try.underlying45 Try.underlying5 Try.underlying9 hC
  obtain ⟨ad, e1, y1⟩ := Kd.at_int hc2 (l.length : Int) (by omega) (by omega)
  cases e1
  obtain ⟨ad, e1, y2⟩ := Kd.at_int hc2 ((l.length : Int) + 1) (by omega) (by omega)
  cases e1
  have r1 : rd (l ++ [201, 202]) (l.length : Int) = 201 := by simp [rd]
  have r2 : rd (l ++ [201, 202]) ((l.length : Int) + 1) = 202 := by simp [rd, show ((l.length : Int) + 1).toNat = l.length + 1 by omega]
  rw [r1] at y1
  rw [r2] at y2
  (try simp only [Go.IntWalk.toNatUp] at y1 y2)
  have e2 : ((l.length + 2 : Nat) : Int) = (l.length : Int) + 2 := by omega
  rw [e2] at hcut
  have d0 : decide ((l.length : Int) < ((l.length + 2 : Nat) : Int)) = true := by simp; omega
  have d1 : decide ((l.length : Int) + 1 < ((l.length + 2 : Nat) : Int)) = true := by simp
  generalize strOfNums l = s at s1 s2
  clear r1 r2 hc1 hc2 hL hC e2
  generalize (⟨g, 0, none⟩ : Addr) = ad at *
  replace y2 : w.cell? { block := ad.block, off := ad.off + (l.length + 1) } = some (.int .u8 202) := by
    have := y2
    simpa [Addr.add] using this
  go_enter Try.func28, Try.ntmps28
  go_wp2_with fail
  go_ret
  exact ⟨rfl, Below.refl _ _⟩
end Go.Proofs.Ytlbfnnngemonoaa.Wir
