/- decl.Parse of no bytes; tape.New of the program of nothing. -/
import Derived.Test.YtmgnkhpaaghmkaaGreatDoorShnScan
import Derived.Defers
import Derived.Recover
namespace Go.Proofs.YtmgnkhpaaghmkaaGreatDoor.Shn
open Go.RowKit Go.Proofs.YtmgnkhpaaghmkaaGreatDoorW.PrintWords
set_option linter.unusedVariables false
set_option linter.unusedSimpArgs false

def place1 : Value := .agg #[.int .i64 1, .int .i64 0, .int .i64 0, .int .i64 0, .int .i64 0, .int .i64 0, .int .i64 0]
def prog0 : Value := .agg #[.slice none 0 0, .slice none 0 0]
set_option maxRecDepth 20000 in
set_option maxHeartbeats 1000000 in
theorem check_none (w : World) : Calls Tryz.prog 86 #[prog0] w fun e w' => e = .returned (.tuple #[place1, .int .i64 90]) ∧ Below w.heap.size w w' := by
  unfold prog0
  go_enter Tryz.func86, Tryz.ntmps86
  go_wp2
  go_returns
  exact ⟨rfl, by go_grown⟩
set_option maxRecDepth 20000 in
set_option maxHeartbeats 1000000 in
theorem sysnew_none (w : World) : Calls Tryz.prog 39 #[prog0] w fun e w' => e = .returned (.tuple #[.pointer none, .int .i64 90]) ∧ Below w.heap.size w w' := by
  have HC := Lib.hid check_none
  have HA := Lib.hid ((Below.refl w.heap.size w).alloc (Nat.le_refl _) (.cells #[.slice none 0 0, .slice none 0 0] 33))
  unfold prog0 at HC ⊢
  try unfold place1 at HC
  go_enter Tryz.func39, Tryz.ntmps39
  go_wp2_with fail
  refine (HC.out _).mono ?_
  rintro e w1 ⟨rfl, hb⟩
  have HB := Lib.hid (HA.out.trans (hb.mono HA.out.size))
  clear hb HC
  go_wp2_with fail
  go_returns
  have h1 := HB.out
  have h2 := h1.size
  exact ⟨rfl, by go_grown⟩
set_option maxRecDepth 20000 in
set_option maxHeartbeats 1000000 in
theorem tapenew_none (w : World) : Calls Tryz.prog 15 #[prog0] w fun e w' => e = .returned (.tuple #[.pointer none, .int .i64 90]) ∧ Below w.heap.size w w' := by
  have HC := Lib.hid sysnew_none
  have HA := Lib.hid ((Below.refl w.heap.size w).alloc (Nat.le_refl _) (.cells #[.slice none 0 0, .slice none 0 0] 33))
  unfold prog0 at HC ⊢
  try unfold place1 at HC
  go_enter Tryz.func15, Tryz.ntmps15
  go_wp2_with fail
  refine (HC.out _).mono ?_
  rintro e w1 ⟨rfl, hb⟩
  have HB := Lib.hid (HA.out.trans (hb.mono HA.out.size))
  clear hb HC
  go_wp2_with fail
  go_returns
  exact ⟨rfl, HB.out⟩
set_option maxRecDepth 20000 in
set_option maxHeartbeats 4000000 in
/-- The deferred closure finds no panic. -/
theorem catch_idle (a b c : Value) (w : World) : CallsD Tryz.prog 71 #[a, b, c] .returning w fun e u' w' => e = .returned (.tuple #[]) ∧ u' = .returning ∧ w' = w := by
  refine callsD_of_wpS Tryz.func71 rfl fun c₀ cs hu => ?_
  apply wpS_seq
  apply wpS_region
  simp [wpOpsS, go_sem, recoverD, hu, Tryz.ntmps71, Exit.thenS]
  refine wpS_of_wp ?_
  go_wp2_with fail
  cases c₀
  simp_all [bodyPostS, results, Tryz.results71]
set_option maxRecDepth 20000 in
set_option maxHeartbeats 1000000 in
theorem program_none (r : Nat) (n : Int) (w : World) (hr : Blk w r 143 #[.slice none 0 0, .int .i64 0, .int .i64 n]) : Calls Tryz.prog 35 #[.pointer (some ⟨r, 0, none⟩)] w fun e w' => e = .returned prog0 ∧ Below w.heap.size w w' := by
  have x0 := hr.cell 0
  have x1 := hr.cell 1
  simp at x0 x1
  unfold prog0
  go_enter Tryz.func35, Tryz.ntmps35
  go_wp2_with fail
  go_loopw [4] (fun _ wr => Blk wr r 143 #[.slice none 0 0, .int .i64 0, .int .i64 n] ∧ Blk wr w.heap.size 33 #[.slice none 0 0, .slice none 0 0] ∧ Below w.heap.size w wr) (fun _ _ => 0)
  case atStart => exact ⟨hr.alloc _, Blk.new w _ _, (Below.refl _ _).alloc (Nat.le_refl _) _⟩
  case round =>
    clear x0 x1 hr
    obtain ⟨hr, hp, hb⟩ := hrel
    have x0 := hr.cell 0
    have x1 := hr.cell 1
    have p0 := hp.cell 0
    have p1 := hp.cell 1
    have f0 := hp.frozen 0
    have f1 := hp.frozen 1
    simp at x0 x1 p0 p1
    have HP := Lib.hid hp
    have HB := Lib.hid hb
    clear hr hp hb
    go_upto_region 1 with fail
    go_quiet (fail)
    go_wp2_with fail
    have h2 : Blk (((wr.drewN nq).setCell ⟨w.heap.size, 0, none⟩ (.slice none 0 0)).setCell ⟨w.heap.size, 1, none⟩ (.slice none 0 0)) w.heap.size 33 #[.slice none 0 0, .slice none 0 0] := (HP.out.drewN nq |>.set_ 0 (.slice none 0 0)).set_ 1 (.slice none 0 0)
    have hb : Below w.heap.size w (((wr.drewN nq).setCell ⟨w.heap.size, 0, none⟩ (.slice none 0 0)).setCell ⟨w.heap.size, 1, none⟩ (.slice none 0 0)) := ((pw_below_drewN HB.out nq).setCell (Nat.le_refl _) _).setCell (Nat.le_refl _) _
    generalize ((wr.drewN nq).setCell ⟨w.heap.size, 0, none⟩ (.slice none 0 0)).setCell ⟨w.heap.size, 1, none⟩ (.slice none 0 0) = w5 at h2 hb ⊢
    clear x0 x1 p0 p1 f0 f1 HP HB
    have p0 := h2.cell 0
    have p1 := h2.cell 1
    simp at p0 p1
    refine bodyPost_ret (v := .agg #[.slice none 0 0, .slice none 0 0]) ?_ rfl ⟨rfl, hb⟩
    simp [results, Tryz.results35, go_sem, p0, p1]
set_option maxRecDepth 20000 in
set_option maxHeartbeats 1000000 in
theorem read_none (w : World) : Calls Tryz.prog 34 #[.slice none 0 0, .func (.func 35) #[] #[]] w fun e w' => e = .returned (.tuple #[prog0, .int .i64 0, .int .i64 0]) ∧ Below w.heap.size w w' := by
  have hmf : ∀ (fn : Fn) (first cap : Array Value) (w : World), (Instr.makeFunc fn first cap).run Tryz.prog w = .ok (.func fn first cap) w := fun _ _ _ _ => rfl
  obtain ⟨W1, hW1⟩ : ∃ W1, W1 = ((w.alloc (.cells #[.slice none 0 0, .slice none 0 0] 33)).alloc (.cells #[.int .i64 0] 3)).alloc (.cells #[.int .i64 0] 24) := ⟨_, rfl⟩
  have B0 : Blk W1 w.heap.size 33 #[.slice none 0 0, .slice none 0 0] := by rw [hW1]; exact ((Blk.new w _ _).alloc _).alloc _
  have B1 : Blk W1 (w.heap.size + 1) 3 #[.int .i64 0] := by rw [hW1]; exact (by simpa using Blk.new (w.alloc (.cells #[.slice none 0 0, .slice none 0 0] 33)) 3 #[.int .i64 0] : Blk _ (w.heap.size + 1) 3 #[.int .i64 0]).alloc _
  have B2 : Blk W1 (w.heap.size + 1 + 1) 24 #[.int .i64 0] := by rw [hW1]; simpa using Blk.new ((w.alloc (.cells #[.slice none 0 0, .slice none 0 0] 33)).alloc (.cells #[.int .i64 0] 3)) 24 #[.int .i64 0]
  have hb1 : Below w.heap.size w W1 := by rw [hW1]; go_grown
  have HW := Lib.hid hW1
  clear hW1
  go_enter_defers Tryz.func34, Tryz.ntmps34
  go_wp2_with fail
  rw [← HW.out]
  clear HW
  refine (scan_none _).mono ?_
  rintro e w2 ⟨rfl, hb⟩
  have C0 := B0.below hb B0.lt
  have C1 := B1.below hb B1.lt
  have C2 := B2.below hb B2.lt
  have hb2 := hb1.trans (hb.mono hb1.size)
  have s2 := C2.lt
  have HC0 := Lib.hid C0
  have HC1 := Lib.hid C1
  have HC2 := Lib.hid C2
  have HB2 := Lib.hid hb2
  have z1 := C1.cell 0
  have z2 := C2.cell 0
  have f1 := C1.frozen 0
  have f2 := C2.frozen 0
  simp at z1 z2
  clear C0 C1 C2 B0 B1 B2 hb hb1 hb2
  go_wp2_with fail
  clear z1 z2 f1 f2
  obtain ⟨W4, hW4⟩ : ∃ W4, W4 = ((w2.setCell ⟨w.heap.size + 1, 0, none⟩ (.int .i64 0)).setCell ⟨w.heap.size + 1 + 1, 0, none⟩ (.int .i64 0)).alloc (.cells #[.slice none 0 0, .int .i64 0, .int .i64 0] 143) := ⟨_, rfl⟩
  have D0 : Blk W4 w.heap.size 33 #[.slice none 0 0, .slice none 0 0] := by rw [hW4]; exact ((HC0.out.far (by simp) _).far (by simp; omega) _).alloc _
  have D1 : Blk W4 (w.heap.size + 1) 3 #[.int .i64 0] := by rw [hW4]; exact ((HC1.out.set_ 0 (.int .i64 0)).far (by simp) _).alloc _
  have D2 : Blk W4 (w.heap.size + 1 + 1) 24 #[.int .i64 0] := by rw [hW4]; exact ((HC2.out.far (by simp) _).set_ 0 (.int .i64 0)).alloc _
  have D3 : Blk W4 w2.heap.size 143 #[.slice none 0 0, .int .i64 0, .int .i64 0] := by rw [hW4]; simpa using Blk.new ((w2.setCell ⟨w.heap.size + 1, 0, none⟩ (.int .i64 0)).setCell ⟨w.heap.size + 1 + 1, 0, none⟩ (.int .i64 0)) 143 #[.slice none 0 0, .int .i64 0, .int .i64 0]
  have hb4 : Below w.heap.size w W4 := by
    rw [hW4]
    exact ((HB2.out.setCell (by simp) _).setCell (by simp; omega) _).alloc (by simpa using HB2.out.size) _
  rw [← hW4]
  clear hW4 HC0 HC1 HC2 HB2
  refine (program_none _ _ _ D3).mono ?_
  rintro e w5 ⟨rfl, hb⟩
  have E0 := D0.below hb D0.lt
  have E1 := D1.below hb D1.lt
  have E2 := D2.below hb D2.lt
  have E3 := D3.below hb D3.lt
  have HB5 := Lib.hid (hb4.trans (hb.mono hb4.size))
  have HE0 := Lib.hid E0
  have HE1 := Lib.hid E1
  have HE2 := Lib.hid E2
  have HE3 := Lib.hid E3
  have z1 := E1.cell 0
  have z2 := E2.cell 0
  have f1 := E1.frozen 0
  have f2 := E2.frozen 0
  have y0 := E0.cell 0
  have y1 := E0.cell 1
  have g0 := E0.frozen 0
  have g1 := E0.frozen 1
  have r0 := E3.cell 0
  have r1 := E3.cell 1
  simp at z1 z2 y0 y1 r0 r1
  clear D0 D1 D2 D3 E0 E1 E2 E3 hb hb4
  unfold prog0
  go_wp2_with fail
  clear z1 z2 f1 f2 y0 y1 g0 g1 r0 r1
  obtain ⟨W6, hW6⟩ : ∃ W6, W6 = (w5.setCell ⟨w.heap.size, 0, none⟩ (.slice none 0 0)).setCell ⟨w.heap.size, 1, none⟩ (.slice none 0 0) := ⟨_, rfl⟩
  have E0 : Blk W6 w.heap.size 33 #[.slice none 0 0, .slice none 0 0] := by rw [hW6]; exact (HE0.out.set_ 0 (.slice none 0 0)).set_ 1 (.slice none 0 0)
  have E1 : Blk W6 (w.heap.size + 1) 3 #[.int .i64 0] := by rw [hW6]; exact (HE1.out.far (by simp) _).far (by simp) _
  have E2 : Blk W6 (w.heap.size + 1 + 1) 24 #[.int .i64 0] := by rw [hW6]; exact (HE2.out.far (by simp; omega) _).far (by simp; omega) _
  have E3 : Blk W6 w2.heap.size 143 #[.slice none 0 0, .int .i64 0, .int .i64 0] := by rw [hW6]; exact (HE3.out.far (by simp; omega) _).far (by simp; omega) _
  have hb6 : Below w.heap.size w W6 := by rw [hW6]; exact (HB5.out.setCell (Nat.le_refl _) _).setCell (Nat.le_refl _) _
  rw [← hW6]
  clear hW6 HE0 HE1 HE2 HE3 HB5
  have z1 := E1.cell 0
  have z2 := E2.cell 0
  have f1 := E1.frozen 0
  have f2 := E2.frozen 0
  have y0 := E0.cell 0
  have y1 := E0.cell 1
  have g0 := E0.frozen 0
  have g1 := E0.frozen 1
  have r0 := E3.cell 0
  have r1 := E3.cell 1
  simp at z1 z2 y0 y1 r0 r1
  have HE0 := Lib.hid E0
  have HE1 := Lib.hid E1
  have HE2 := Lib.hid E2
  have HB6 := Lib.hid hb6
  clear E0 E1 E2 E3 hb6
  go_quiet (fail)
  go_wp2_with fail
  clear z1 z2 f1 f2 y0 y1 g0 g1 r0 r1
  obtain ⟨W7, hW7⟩ : ∃ W7, W7 = ((((W6.drewN nq).setCell ⟨w.heap.size, 0, none⟩ (.slice none 0 0)).setCell ⟨w.heap.size, 1, none⟩ (.slice none 0 0)).setCell ⟨w.heap.size + 1, 0, none⟩ (.int .i64 0)).setCell ⟨w.heap.size + 1 + 1, 0, none⟩ (.int .i64 0) := ⟨_, rfl⟩
  have E0 : Blk W7 w.heap.size 33 #[.slice none 0 0, .slice none 0 0] := by rw [hW7]; exact ((((HE0.out.drewN nq).set_ 0 (.slice none 0 0)).set_ 1 (.slice none 0 0)).far (by simp) _).far (by simp; omega) _
  have E1 : Blk W7 (w.heap.size + 1) 3 #[.int .i64 0] := by rw [hW7]; exact ((((HE1.out.drewN nq).far (by simp) _).far (by simp) _).set_ 0 (.int .i64 0)).far (by simp) _
  have E2 : Blk W7 (w.heap.size + 1 + 1) 24 #[.int .i64 0] := by rw [hW7]; exact ((((HE2.out.drewN nq).far (by simp; omega) _).far (by simp; omega) _).far (by simp) _).set_ 0 (.int .i64 0)
  have hb7 : Below w.heap.size w W7 := by rw [hW7]; exact ((((pw_below_drewN HB6.out nq).setCell (Nat.le_refl _) _).setCell (Nat.le_refl _) _).setCell (by simp) _).setCell (by simp; omega) _
  rw [← hW7]
  clear hW7 HE0 HE1 HE2 HB6
  have z1 := E1.cell 0
  have z2 := E2.cell 0
  have y0 := E0.cell 0
  have y1 := E0.cell 1
  simp at z1 z2 y0 y1
  clear E0 E1 E2
  refine leaves_cons (f := 71) (args := #[.pointer (some ⟨w.heap.size, 0, none⟩), .pointer (some ⟨w.heap.size + 1, 0, none⟩), .pointer (some ⟨w.heap.size + 1 + 1, 0, none⟩)]) (by simp) (by simp [go_sem]) ?_
  refine (catch_idle _ _ _ _).mono ?_
  rintro e u' w'' ⟨rfl, rfl, rfl⟩
  refine ⟨.tuple #[.agg #[.slice none 0 0, .slice none 0 0], .int .i64 0, .int .i64 0], ?_, rfl, hb7⟩
  simp [results, Tryz.results34, go_sem, z1, z2, y0, y1]
theorem parse_none (w : World) : Calls Tryz.prog 13 #[.slice none 0 0] w fun e w' => e = .returned (.tuple #[prog0, .int .i64 0, .int .i64 0]) ∧ Below w.heap.size w w' := by
  have HR := Lib.hid read_none
  have HN := Lib.hid (Blk.new w 33 #[.slice none 0 0, .slice none 0 0])
  have HA := Lib.hid ((Below.refl w.heap.size w).alloc (Nat.le_refl _) (.cells #[.slice none 0 0, .slice none 0 0] 33))
  unfold prog0 at HR ⊢
  go_enter Tryz.func13, Tryz.ntmps13
  go_wp2_with fail
  refine (HR.out _).mono ?_
  rintro e w1 ⟨rfl, hb⟩
  have E0 := HN.out.below hb HN.out.lt
  have HE0 := Lib.hid E0
  have HB := Lib.hid (HA.out.trans (hb.mono HA.out.size))
  have y0 := E0.cell 0
  have y1 := E0.cell 1
  have g0 := E0.frozen 0
  have g1 := E0.frozen 1
  simp at y0 y1
  clear hb HR HN HA E0
  go_wp2_with fail
  have E1 := (HE0.out.set_ 0 (.slice none 0 0)).set_ 1 (.slice none 0 0)
  have hb1 := (HB.out.setCell (p := ⟨w.heap.size, 0, none⟩) (Nat.le_refl _) (.slice none 0 0)).setCell (p := ⟨w.heap.size, 1, none⟩) (Nat.le_refl _) (.slice none 0 0)
  generalize (w1.setCell ⟨w.heap.size, 0, none⟩ (.slice none 0 0)).setCell ⟨w.heap.size, 1, none⟩ (.slice none 0 0) = w2 at E1 hb1 ⊢
  clear y0 y1 g0 g1 HE0 HB
  have y0 := E1.cell 0
  have y1 := E1.cell 1
  simp at y0 y1
  refine bodyPost_ret (v := .tuple #[.agg #[.slice none 0 0, .slice none 0 0], .int .i64 0, .int .i64 0]) ?_ rfl ⟨rfl, hb1⟩
  simp [results, Tryz.results13, go_sem, y0, y1]
end Go.Proofs.YtmgnkhpaaghmkaaGreatDoor.Shn
