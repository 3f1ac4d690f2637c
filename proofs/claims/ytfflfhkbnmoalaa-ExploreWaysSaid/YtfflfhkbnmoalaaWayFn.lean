/- explore.Way's closures, and slices.ContainsFunc over them: what they answer. -/
import Derived.Test.YtfflfhkbnmoalaaPolUnlike
import Derived.Test.YtfflfhkbnmoalaaWayRef
import Derived.BigRegion
import Derived.Deep.RegionHeld3
import Derived.Deep.DeepCutAuto
import Derived.Deep.CutBlock
namespace Go.Proofs.Ytfflfhkbnmoalaa.Way
open Go.RowKit Go.Proofs.Ytfflfhkbnmoalaa.Pol Go.Proofs.Ytfflfhkbnmoalaa.PExploreWays
open Go.Proofs.YtfflfhkbnmoalaaW.PrintWords

theorem in_any (br : Nat) (a i : Int) (w : World) (hc : w.cell? ⟨br, 0, none⟩ = some (.int .i64 a)) :
    Calls Try.prog 28 #[.int .i64 i, .pointer (some ⟨br, 0, none⟩)] w fun e w' => e = .returned (.bool (decide (0 ≤ i ∧ i < a))) ∧ Below w.heap.size w w' := by
  have hu := Try.underlying53
  by_cases h0 : 0 ≤ i
  · have b0 : decide (i ≥ 0) = true := by simp; omega
    have e : decide (0 ≤ i ∧ i < a) = decide (i < a) := by simp [h0]
    rw [e]
    clear h0 e
    go_enter Try.func28, Try.ntmps28
    go_wp2_with fail
    go_ret
    exact ⟨rfl, by first | exact Below.refl _ _ | exact (Below.refl _ _).drew⟩
  · have b0 : decide (i ≥ 0) = false := by simp; omega
    have e : decide (0 ≤ i ∧ i < a) = false := by simp; omega
    rw [e]
    clear h0 e
    go_enter Try.func28, Try.ntmps28
    go_wp2_with fail
    go_ret
    exact ⟨rfl, by first | exact Below.refl _ _ | exact (Below.refl _ _).drew⟩

def good (a : Int) (x : S56) : Bool := decide (0 ≤ x.f0 ∧ x.f0 < a) && decide (0 ≤ x.f3 ∧ x.f3 < a)

set_option maxRecDepth 20000 in
set_option maxHeartbeats 1000000 in
theorem step_any (bw br : Nat) (a : Int) (x : S56) (w : World) (hw : w.cell? ⟨bw, 0, none⟩ = some (.func (.func 28) #[] #[.pointer (some ⟨br, 0, none⟩)])) (hc : w.cell? ⟨br, 0, none⟩ = some (.int .i64 a)) :
    Calls Try.prog 30 #[.agg #[.int .i64 x.f0, .int .i64 x.f1, .int .i64 x.f2, .int .i64 x.f3], .pointer (some ⟨bw, 0, none⟩)] w fun e w' => e = .returned (.bool (!good a x)) ∧ Below w.heap.size w w' := by
  have hu := Try.underlying56
  have hbw : bw < w.heap.size := World.block_lt_of_cell? w _ hw
  have hbr : br < w.heap.size := World.block_lt_of_cell? w _ hc
  have hne : bw ≠ w.heap.size := by omega
  unfold good
  generalize hp0 : decide (0 ≤ x.f0 ∧ x.f0 < a) = p0
  generalize hp3 : decide (0 ≤ x.f3 ∧ x.f3 < a) = p3
  have HP0 := Lib.hid hp0
  have HP3 := Lib.hid hp3
  clear hp0 hp3
  go_enter Try.func30, Try.ntmps30
  go_wp2_with fail
  have hb0 : Below w.heap.size w (w.alloc (.cells #[.int .i64 x.f0, .int .i64 x.f1, .int .i64 x.f2, .int .i64 x.f3] 56)) := (Below.refl _ _).alloc (Nat.le_refl _) _
  have hc0 := hb0.cell (p := ⟨br, 0, none⟩) hbr |>.trans hc
  have hw0 := hb0.cell (p := ⟨bw, 0, none⟩) hbw |>.trans hw
  have hB0 := Blk.new w 56 #[.int .i64 x.f0, .int .i64 x.f1, .int .i64 x.f2, .int .i64 x.f3]
  generalize w.alloc (.cells #[.int .i64 x.f0, .int .i64 x.f1, .int .i64 x.f2, .int .i64 x.f3] 56) = w0 at hc0 hw0 hB0 hb0 ⊢
  refine (in_any br a _ _ hc0).mono ?_
  rintro e w1 ⟨rfl, hb1⟩
  rw [HP0.out]
  have hc1 := (hb1.cell (p := ⟨br, 0, none⟩) (World.block_lt_of_cell? w0 _ hc0)).trans hc0
  have hw1 := (hb1.cell (p := ⟨bw, 0, none⟩) (World.block_lt_of_cell? w0 _ hw0)).trans hw0
  have hB1 := hB0.below hb1 hB0.lt
  have hx3 := hB1.cell 3
  simp at hx3
  have hbb : Below w.heap.size w w1 := hb0.trans (hb1.mono hb0.size)
  clear hc0 hw0 hB0 hb0 hb1 hw hc hB1
  cases p0
  · go_wp2_with fail
    go_ret
    exact ⟨rfl, by first | exact hbb | exact hbb.drew⟩
  · go_wp2_with fail
    refine (in_any br a _ _ hc1).mono ?_
    rintro e w2 ⟨rfl, hb2⟩
    rw [HP3.out]
    go_wp2_with fail
    go_ret
    have hb3 := hbb.trans (hb2.mono hbb.size)
    exact ⟨by simp, by first | exact hb3 | exact hb3.drew⟩

/-- A row of steps: the cells of one. -/
theorem row_at {w : World} {g : Nat} {l : List S56} (h : Kd.C k56 w (some ⟨g, 0, none⟩) l.length l) (i : Nat) (hi : i < l.length) :
    w.cell? ⟨g, i * 4, none⟩ = some (.int .i64 l[i].f0) ∧ w.cell? ⟨g, i * 4 + 1, none⟩ = some (.int .i64 l[i].f1) ∧ w.cell? ⟨g, i * 4 + 2, none⟩ = some (.int .i64 l[i].f2) ∧ w.cell? ⟨g, i * 4 + 3, none⟩ = some (.int .i64 l[i].f3) := by
  obtain ⟨ad, e, h0, h1, h2, h3⟩ := at_T56 h i (by omega) (by omega)
  obtain rfl : (⟨g, 0, none⟩ : Addr) = ad := by injection e
  have er : rd_T56 l i = l[i] := by simp [rd_T56, hi]
  simp only [er, Int.toNat_natCast, Go.Proofs.Ytfflfhkbnmoalaa.Pol.Fair.add0] at h0 h1 h2 h3
  exact ⟨h0, h1, h2, h3⟩

set_option maxRecDepth 20000 in
set_option maxHeartbeats 1000000 in
theorem index_any (g bw br : Nat) (a : Int) (c : Nat) (l : List S56) (w : World) (hl : l.length ≤ 65536) (hC : Kd.C k56 w (some ⟨g, 0, none⟩) l.length l)
    (hw : w.cell? ⟨bw, 0, none⟩ = some (.func (.func 28) #[] #[.pointer (some ⟨br, 0, none⟩)])) (hc : w.cell? ⟨br, 0, none⟩ = some (.int .i64 a)) :
    Calls Try.prog 35 #[.slice (some ⟨g, 0, none⟩) l.length c, .func (.func 30) #[] #[.pointer (some ⟨bw, 0, none⟩)]] w fun e w' => (∃ r : Int, e = .returned (.int .i64 r) ∧ (decide (r ≥ 0) = !l.all (good a))) ∧ Below w.heap.size w w' := by
  have hu := Try.underlying56
  have HC := Lib.hid hC
  have hbw : bw < w.heap.size := World.block_lt_of_cell? w _ hw
  have hbr : br < w.heap.size := World.block_lt_of_cell? w _ hc
  clear hC
  go_enter Try.func35, Try.ntmps35
  go_wp2_with fail
  go_loopw [5, 8] (fun _ i wr => ∃ k : Nat, k ≤ l.length ∧ i = .int .i64 k ∧ Hid (∀ j (h : j < l.length), j < k → good a l[j] = true) ∧ Below w.heap.size w wr) (fun _ i _ => l.length - (intOf i).toNat)
  case atStart => exact ⟨0, Nat.zero_le _, rfl, Lib.hid (fun j h h2 => by omega), Below.refl _ _⟩
  case round =>
    obtain ⟨k, hk, rfl, HG, hb⟩ := hrel
    by_cases hlt : k < l.length
    · obtain ⟨c0, c1, c2, c3⟩ := row_at (Kd.C_below HC.out hb) k hlt
      have hw1 := (hb.cell (p := ⟨bw, 0, none⟩) hbw).trans hw
      have hc1 := (hb.cell (p := ⟨br, 0, none⟩) hbr).trans hc
      have b0 : decide ((k : Int) < (l.length : Int)) = true := by simp; omega
      have hX := Lib.hid (rfl : l[k] = l[k])
      have HS := Lib.hid (step_any bw br a l[k] wr hw1 hc1)
      generalize hx : l[k] = x at c0 c1 c2 c3 HS
      have HX := Lib.hid hx
      clear hx hX hw1 hc1
      go_wp2_with fail
      refine HS.out.mono ?_
      rintro e w1 ⟨rfl, hb1⟩
      cases hg : good a x
      · have HGx := Lib.hid hg
        clear hg
        go_wp2_with fail
        go_ret
        refine ⟨⟨_, rfl, ?_⟩, hb.trans (hb1.mono hb.size)⟩
        have e1 : l.all (good a) = false := by
          rw [List.all_eq_false]
          exact ⟨x, by rw [← HX.out]; exact List.getElem_mem hlt, by rw [HGx.out]; simp⟩
        rw [e1]
        simp
      · have HGx := Lib.hid hg
        clear hg
        go_wp2_with fail
        go_roundw
        case rel => exact ⟨k + 1, by omega, by go_num, Lib.hid (fun j h h2 => by
          by_cases e : j = k
          · subst e
            rw [HX.out, HGx.out]
          · exact HG.out j h (by omega)), hb.trans (hb1.mono hb.size)⟩
        case measure => simp [intOf]; omega
    · have b0 : decide ((k : Int) < (l.length : Int)) = false := by simp; omega
      go_wp2_with fail
      go_ret
      refine ⟨⟨_, rfl, ?_⟩, hb⟩
      have e1 : l.all (good a) = true := by
        rw [List.all_eq_true]
        intro x hx
        obtain ⟨j, hj, rfl⟩ := List.getElem_of_mem hx
        exact HG.out j hj (by omega)
      rw [e1]
      simp

set_option maxRecDepth 20000 in
theorem contains_any (g bw br : Nat) (a : Int) (c : Nat) (l : List S56) (w : World) (hl : l.length ≤ 65536) (hC : Kd.C k56 w (some ⟨g, 0, none⟩) l.length l)
    (hw : w.cell? ⟨bw, 0, none⟩ = some (.func (.func 28) #[] #[.pointer (some ⟨br, 0, none⟩)])) (hc : w.cell? ⟨br, 0, none⟩ = some (.int .i64 a)) :
    Calls Try.prog 29 #[.slice (some ⟨g, 0, none⟩) l.length c, .func (.func 30) #[] #[.pointer (some ⟨bw, 0, none⟩)]] w fun e w' => e = .returned (.bool (!l.all (good a))) ∧ Below w.heap.size w w' := by
  have HI := Lib.hid (index_any g bw br a c l w hl hC hw hc)
  clear hC hw hc
  go_enter Try.func29, Try.ntmps29
  go_wp2_with fail
  refine HI.out.mono ?_
  rintro e w1 ⟨⟨r, rfl, hr⟩, hb1⟩
  have HR := Lib.hid hr
  clear hr
  go_wp2_with fail
  go_ret
  exact ⟨by rw [← HR.out]; rfl, hb1⟩
end Go.Proofs.Ytfflfhkbnmoalaa.Way
