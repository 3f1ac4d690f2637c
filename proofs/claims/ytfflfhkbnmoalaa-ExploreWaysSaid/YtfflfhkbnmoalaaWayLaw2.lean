/- chordmaillaw27.ExploreWays: the walk of the law: it answers true. -/
import Derived.Test.YtfflfhkbnmoalaaWayGs
namespace Go.Proofs.Ytfflfhkbnmoalaa.Way
open Go.RowKit Go.Proofs.Ytfflfhkbnmoalaa.Pol Go.Proofs.Ytfflfhkbnmoalaa.PExploreWays
open Go.Proofs.YtfflfhkbnmoalaaW.PrintWords Go.Proofs.YtfflfhkbnmoalaaW.PrintLast Go.Proofs.YtfflfhkbnmoalaaW.PrintMore
set_option linter.unusedSimpArgs false
set_option linter.unusedVariables false

theorem gr_of_chg {g : Nat} {w w' : World} (h : Chg [g] w w') : w.grownBy w' (some g) := ⟨h.os, h.tape, h.output, h.size, fun k hk hn => h.block k hk (by
  simp only [List.mem_singleton]
  intro e
  exact hn (by rw [e]))⟩
theorem leaf3 {w W : World} {b5 : Nat} {a : Int} {q2 q3 : List Int} {A32 A36 : Option Addr} {k32 k36 : Nat} {bx : Array Value} (hX : Blk W w.heap.size 50 bx) (hb : Below w.heap.size w W) (hl : w.heap.size < b5)
    (h5 : Blk W b5 53 #[.int .i64 0, .slice none 0 0, .slice none 0 0, .slice none 0 0])
    (R32 : Hid (Kd.R (Kd.int .i64) 3 W w.heap.size (fun _ => True) (.slice A32 q2.length k32) q2)) (R36 : Hid (Kd.R (Kd.int .i64) 3 W w.heap.size (fun _ => True) (.slice A36 q3.length k36) q3)) (W' : World)
    (e : W' = (((W.setCell ⟨b5, 0, none⟩ (.int .i64 a)).setCell ⟨b5, 1, none⟩ (.slice none 0 0)).setCell ⟨b5, 2, none⟩ (.slice A32 q2.length k32)).setCell ⟨b5, 3, none⟩ (.slice A36 q3.length k36)) :
    Blk W' b5 53 #[.int .i64 a, .slice none 0 0, .slice A32 q2.length k32, .slice A36 q3.length k36] ∧ Hid (Kd.R (Kd.int .i64) 3 W' w.heap.size (fun _ => True) (.slice A32 q2.length k32) q2) ∧
      Hid (Kd.R (Kd.int .i64) 3 W' w.heap.size (fun _ => True) (.slice A36 q3.length k36) q3) ∧ Below w.heap.size w W' ∧ Blk W' w.heap.size 50 bx := by
  have hc : Chg [b5] W W' := by
    rw [e]
    exact ((((Chg.refl _ _).setCell (.inl (by simp)) _).setCell (.inl (by simp)) _).setCell (.inl (by simp)) _).setCell (.inl (by simp)) _
  refine ⟨?_, Lib.hid (Kd.R_grown2 R32.out rfl (gr_of_chg hc) (fun k e => by rw [← e]; exact Kd.R_ne R32.out h5 (by decide))), Lib.hid (Kd.R_grown2 R36.out rfl (gr_of_chg hc) (fun k e => by rw [← e]; exact Kd.R_ne R36.out h5 (by decide))), hb.trans (hc.below hb.size (by simp; omega)), hX.chg hc (by simp; omega)⟩
  rw [e]
  have := (((h5.set_ 0 (.int .i64 a)).set_ 1 (.slice none 0 0)).set_ 2 (.slice A32 q2.length k32)).set_ 3 (.slice A36 q3.length k36)
  simpa using this
def T3 : Bool × List (List Nat × List Nat) := (true, [([], []), ([0], [0]), ([], []), ([], []), ([3], [3]), ([2, 4], [2, 4]), ([], []), ([], []), ([7], [7]), ([6, 8, 5], [6, 8]), ([1, 5, 9], [1, 5, 9]), ([], []), ([11, 10, 9, 0, 1, 2, 3, 4, 5, 6, 7, 8, 9, 10, 11], [10, 11])])
def B3 : List Nat := [0, 1, 0, 0, 8, 28, 0, 0, 128, 508, 1023, 0, 4095]
theorem tab3 : rtab .any (opsOf Try.f6 3) = T3 := by kernel_rfl
theorem bits3 : waitsOk T3.2 B3 = true := by kernel_rfl

def T19 : Bool × List (List Nat × List Nat) := (true, [([], []), ([0], [0]), ([], []), ([2], [2]), ([1, 3], [1, 3]), ([4, 4], [4]), ([5], [5]), ([6, 5], [5, 6]), ([5], [5]), ([8, 5], [5, 8]), ([9, 5], [5, 9]), ([10, 5], [5, 10]), ([7, 11, 5], [5, 7, 11]), ([5], [5]), ([13, 5], [5, 13]), ([14, 5], [5, 14]), ([12, 15, 5], [5, 12, 15]), ([16, 5], [5, 16]), ([17, 5], [5, 17]), ([18, 5], [5, 18]), ([5, 19], [5, 19]), ([20, 5], [20]), ([21], [21]), ([22, 21], [21, 22]), ([21], [21]), ([24, 21], [21, 24]), ([23, 25, 21, 21], [21, 23, 25]), ([21, 26], [21, 26]), ([27, 26], [27]), ([28], [28]), ([29, 28], [28, 29]), ([28], [28]), ([31, 28], [28, 31]), ([30, 32, 28, 28], [28, 30, 32]), ([28, 33], [28, 33]), ([34, 33], [34]), ([35], [35]), ([36, 35], [35, 36]), ([35], [35]), ([38, 35], [35, 38]), ([37, 39, 35], [35, 37, 39]), ([35, 40], [35, 40]), ([41, 35, 0, 1, 2, 3, 4, 5, 6, 7, 8, 9, 10, 11, 12, 13, 14, 15, 16, 17, 18, 19, 20, 21, 22, 23, 24, 25, 26, 27, 28, 29, 30, 31, 32, 33, 34, 35, 36, 37, 38, 39, 40, 41], [41])])
def B19 : List Nat := [0, 1, 0, 4, 15, 31, 63, 127, 63, 319, 831, 1855, 4095, 63, 8255, 24639, 65535, 131071, 262143, 524287, 1048575, 2097151, 4194303, 8388607, 4194303, 20971519, 67108863, 134217727, 268435455, 536870911, 1073741823, 536870911, 2684354559, 8589934591, 17179869183, 34359738367, 68719476735, 137438953471, 68719476735, 343597383679, 1099511627775, 2199023255551, 4398046511103]
theorem tab19 : rtab .any (opsOf Try.f6 19) = T19 := by kernel_rfl
theorem bits19 : waitsOk T19.2 B19 = true := by kernel_rfl

set_option maxRecDepth 20000 in
set_option maxHeartbeats 4000000 in
theorem ways_go (a s : Int) (m : List S55) (q2 q3 : List Int) (A1 A2 A3 : Option Addr) (c1 c2 c3 : Nat) (w : World) (hp : ¬ ((60 < a ∧ a ≤ 4096) ∨ 200 < m.length))
    (hC : Kd.C k55 w A1 m.length m) (hcc : m.length ≤ c1) (hq2 : Kd.C (Kd.int .i64) w A2 q2.length q2) (hl2 : q2.length ≤ c2) (hq3 : Kd.C (Kd.int .i64) w A3 q3.length q3) (hl3 : q3.length ≤ c3) (hl2b : q2.length * 8 ≤ 140737488355328) (hl3b : q3.length * 8 ≤ 140737488355328) :
    Calls Try.prog 6 #[.agg #[.int .i64 a, .slice A1 m.length c1, .slice A2 q2.length c2, .slice A3 q3.length c3], .int .i64 s] w fun e w' => e = .returned (.bool true) ∧ Below w.heap.size w w' := by
  have hu := Try.underlying50
  have HC := Lib.hid hC
  have HQ2 := Lib.hid hq2
  have HQ3 := Lib.hid hq3
  clear hC hq2 hq3
  have b3 : decide ((m.length : Int) > 200) = false := by simp; omega
  have b12 : (decide (a > 60) && decide (a ≤ 4096)) = false := by
    by_cases h1 : 60 < a
    · have h2 : ¬ a ≤ 4096 := by omega
      simp [h2]
    · simp [h1]
  clear hp
  go_enter Try.func6, Try.ntmps6
  go_upto_region 1 with fail
  have hX := Blk.new w 50 #[.int .i64 a, .slice A1 m.length c1, .slice A2 q2.length c2, .slice A3 q3.length c3]
  have hb : Below w.heap.size w (w.alloc (.cells #[.int .i64 a, .slice A1 m.length c1, .slice A2 q2.length c2, .slice A3 q3.length c3] 50)) := (Below.refl _ _).alloc (Nat.le_refl _) _
  generalize w.alloc (.cells #[.int .i64 a, .slice A1 m.length c1, .slice A2 q2.length c2, .slice A3 q3.length c3] 50) = w0 at hX hb ⊢
  have hx0 := hX.cell 0
  have hx1 := hX.cell 1
  simp at hx0 hx1
  go_cut [26] (fun v wr => v = .bool false ∧ wr = w0)
  case first =>
    cases h1 : decide (a > 60)
    · go_wp2_with fail
      go_meet
      case rel => exact ⟨rfl, rfl⟩
    · rw [h1, Bool.true_and] at b12
      go_wp2_with fail
      go_meet
      case rel => exact ⟨rfl, rfl⟩
  case rest =>
    obtain ⟨rfl, hwc⟩ := hcut
    subst hwc
    go_wp2_with fail
    go_cut [5] (fun v5 wr => ∃ b5 A32 k32 A36 k36, v5 = .pointer (some ⟨b5, 0, none⟩) ∧ w.heap.size < b5 ∧ Blk wr b5 53 #[.int .i64 a, .slice none 0 0, .slice A32 q2.length k32, .slice A36 q3.length k36] ∧
      Hid (Kd.R (Kd.int .i64) 3 wr w.heap.size (fun _ => True) (.slice A32 q2.length k32) q2) ∧ Hid (Kd.R (Kd.int .i64) 3 wr w.heap.size (fun _ => True) (.slice A36 q3.length k36) q3) ∧ Below w.heap.size w wr ∧
      Blk wr w.heap.size 50 #[.int .i64 a, .slice A1 m.length c1, .slice A2 q2.length c2, .slice A3 q3.length c3])
    case first =>
      refine start_ (n := 13) (S := fun w' => Blk w' w.heap.size 50 #[.int .i64 a, .slice A1 m.length c1, .slice A2 q2.length c2, .slice A3 q3.length c3] ∧ Below w.heap.size w w') (ds := [12]) #[false, false, false, false, false, false, false, false, false, false, false, false, false] (by kernel_rfl) rfl rfl ⟨hX.drew, hb.drew⟩ (fun hHeld => ?_)
      refine with_tabW tab3 bits3 (fun HT_ HW_ => ?_)
      generalize wc.drew = w1 at hHeld ⊢
      clear hX hb hx0 hx1
      refine pure_ (i := 0) (N := some 27) (v := ?_) (a' := ?_) #[true, false, false, false, false, false, false, false, false, false, false, false, false] rfl rfl (any_of HT_.out (by kernel_rfl)) (fun _ _ _ h => h) (Or.inl ⟨by rfl, ?_⟩) ?_ ?_
      rotate_left
      · intro w'
        go_simp
        with_reducible rfl
      rotate_left
      · simp only [Act.put, List.setIfInBounds_toArray, List.set_cons_zero, List.set_cons_succ, i64_w, i32_w]
        rfl
      refine pure_ (i := 3) (N := some 30) (v := ?_) (a' := ?_) #[true, false, false, true, false, false, false, false, false, false, false, false, false] rfl rfl (any_of HT_.out (by kernel_rfl)) (fun _ _ _ h => h) (Or.inl ⟨by rfl, ?_⟩) ?_ ?_
      rotate_left
      · intro w'
        go_simp
        with_reducible rfl
      rotate_left
      · simp only [Act.put, List.setIfInBounds_toArray, List.set_cons_zero, List.set_cons_succ, i64_w, i32_w]
        rfl
      refine pure_ (i := 7) (N := some 34) (v := ?_) (a' := ?_) #[true, false, false, true, false, false, false, true, false, false, false, false, false] rfl rfl (any_of HT_.out (by kernel_rfl)) (fun _ _ _ h => h) (Or.inl ⟨by rfl, ?_⟩) ?_ ?_
      rotate_left
      · intro w'
        go_simp
        with_reducible rfl
      rotate_left
      · simp only [Act.put, List.setIfInBounds_toArray, List.set_cons_zero, List.set_cons_succ, i64_w, i32_w]
        rfl
      refine take_ (i := 1) (N := some 28) (v := ?_) (a' := ?_) #[true, true, false, true, false, false, false, true, false, false, false, false, false] rfl rfl (take_ofW HT_.out HW_.out (by kernel_rfl)) (fun _ _ _ h => h) (Or.inl ⟨by rfl, ?_⟩) hHeld ?_ ?_
      rotate_left
      · rintro w' ⟨s0, s1⟩
        have t0 := s0.cell 0
        have t2 := s0.cell 2
        have t3 := s0.cell 3
        simp at t0 t2 t3
        go_simp
        with_reducible rfl
      rotate_left
      · simp only [Act.put, List.setIfInBounds_toArray, List.set_cons_zero, List.set_cons_succ, i64_w, i32_w]
        rfl
      refine take_ (i := 4) (N := some 31) (v := ?_) (a' := ?_) #[true, true, false, true, true, false, false, true, false, false, false, false, false] rfl rfl (take_ofW HT_.out HW_.out (by kernel_rfl)) (fun _ _ _ h => h) (Or.inl ⟨by rfl, ?_⟩) hHeld ?_ ?_
      rotate_left
      · rintro w' ⟨s0, s1⟩
        have t0 := s0.cell 0
        have t2 := s0.cell 2
        have t3 := s0.cell 3
        simp at t0 t2 t3
        go_simp
        with_reducible rfl
      rotate_left
      · simp only [Act.put, List.setIfInBounds_toArray, List.set_cons_zero, List.set_cons_succ, i64_w, i32_w]
        rfl
      refine take_ (i := 8) (N := some 35) (v := ?_) (a' := ?_) #[true, true, false, true, true, false, false, true, true, false, false, false, false] rfl rfl (take_ofW HT_.out HW_.out (by kernel_rfl)) (fun _ _ _ h => h) (Or.inl ⟨by rfl, ?_⟩) hHeld ?_ ?_
      rotate_left
      · rintro w' ⟨s0, s1⟩
        have t0 := s0.cell 0
        have t2 := s0.cell 2
        have t3 := s0.cell 3
        simp at t0 t2 t3
        go_simp
        with_reducible rfl
      rotate_left
      · simp only [Act.put, List.setIfInBounds_toArray, List.set_cons_zero, List.set_cons_succ, i64_w, i32_w]
        rfl
      refine three_ (i := 2) (j := 6) (k := 11) (Ni := some 29) (Nj := some 33) (Nk := some 5) #[true, true, true, true, true, false, false, true, true, false, false, false, false] #[true, true, false, true, true, false, true, true, true, false, false, false, false] #[true, true, false, true, true, false, false, true, true, false, false, true, false] rfl rfl rfl rfl rfl rfl (three_of HT_.out (by kernel_rfl)) (by decide) (by decide) (by decide) (fun K hK => ?_) (fun K hK => ?_) (fun K hK => ?_)
      · skip
        refine value_ (w1 := ?_) (v := ?_) (by rfl) rfl ?_ ?_
        rotate_left 2
        · go_simp
          constructor
          · rfl
          · rfl
        have hsz := hHeld.1.lt
        refine hK.out _ _ ⟨hHeld.1.alloc _, hHeld.2.alloc hHeld.2.size _⟩ (fun hHeld => ?_)
        clear hK K
        refine norm_ (a' := ?_) ?_ ?_
        rotate_left
        · show Act.put _ (some 29) _ = _
          simp only [Act.put, List.setIfInBounds_toArray, List.set_cons_zero, List.set_cons_succ, i64_w, i32_w]
          rfl
        have h29 := Blk.new w1 3 #[]
        have l_h29 : w.heap.size < w1.heap.size := hsz
        clear hsz
        generalize hgg : w1.heap.size = g29 at h29 l_h29 ⊢
        clear hgg
        generalize w1.alloc (.cells #[] 3) = w2 at hHeld h29 ⊢
        refine three_ (i := 5) (j := 6) (k := 11) (Ni := some 32) (Nj := some 33) (Nk := some 5) #[true, true, true, true, true, true, false, true, true, false, false, false, false] #[true, true, true, true, true, false, true, true, true, false, false, false, false] #[true, true, true, true, true, false, false, true, true, false, false, true, false] rfl rfl rfl rfl rfl rfl (three_of HT_.out (by kernel_rfl)) (by decide) (by decide) (by decide) (fun K hK => ?_) (fun K hK => ?_) (fun K hK => ?_)
        · skip
          refine step_app w (by rfl) (.tmp 29) (.tmp 31) rfl g29 A2 q2 c2 rfl rfl h29 (Nat.le_of_lt l_h29) (Kd.C_below HQ2.out hHeld.2) hl2b hHeld.2 ?_
          intro A32 k32 w3 r32 hb2 hgr hown
          have hCg : Chg [g29] w2 w3 := (Chg.refl _ _).grown hgr (by simp)
          have hX2 := hHeld.1.chg hCg (by simp; omega)
          have R32 := Lib.hid r32
          refine hK.out _ _ ⟨hX2, hb2⟩ (fun hHeld => ?_)
          clear hK K r32 hb2 hgr hown hCg hX2 h29
          refine norm_ (a' := ?_) ?_ ?_
          rotate_left
          · show Act.put _ (some 32) _ = _
            simp only [Act.put, List.setIfInBounds_toArray, List.set_cons_zero, List.set_cons_succ, i64_w, i32_w]
            rfl
          refine two_ (i := 6) (j := 11) (Ni := some 33) (Nj := some 5) #[true, true, true, true, true, true, true, true, true, false, false, false, false] #[true, true, true, true, true, true, false, true, true, false, false, true, false] rfl rfl rfl rfl (two_of HT_.out (by kernel_rfl)) (by decide) (by decide) (fun K hK => ?_) (fun K hK => ?_)
          · skip
            refine value_ (w1 := ?_) (v := ?_) (by rfl) rfl ?_ ?_
            rotate_left 2
            · go_simp
              constructor
              · rfl
              · rfl
            have hsz := hHeld.1.lt
            refine hK.out _ _ ⟨hHeld.1.alloc _, hHeld.2.alloc hHeld.2.size _⟩ (fun hHeld => ?_)
            clear hK K
            refine norm_ (a' := ?_) ?_ ?_
            rotate_left
            · show Act.put _ (some 33) _ = _
              simp only [Act.put, List.setIfInBounds_toArray, List.set_cons_zero, List.set_cons_succ, i64_w, i32_w]
              rfl
            have h33 := Blk.new w3 3 #[]
            have o_R32_h33 : ∀ b, (Value.slice A32 q2.length k32).ownBlock = some b → b ≠ w3.heap.size := fun b hb => by have := Kd.R_lt R32.out b hb; omega
            replace R32 := Lib.hid (Kd.R_alloc R32.out (.cells #[] 3))
            have l_h33 : w.heap.size < w3.heap.size := hsz
            clear hsz
            generalize hgg : w3.heap.size = g33 at h33 o_R32_h33 l_h33 ⊢
            clear hgg
            generalize w3.alloc (.cells #[] 3) = w4 at hHeld h33 R32 ⊢
            refine two_ (i := 9) (j := 11) (Ni := some 36) (Nj := some 5) #[true, true, true, true, true, true, true, true, true, true, false, false, false] #[true, true, true, true, true, true, true, true, true, false, false, true, false] rfl rfl rfl rfl (two_of HT_.out (by kernel_rfl)) (by decide) (by decide) (fun K hK => ?_) (fun K hK => ?_)
            · skip
              refine step_app w (by rfl) (.tmp 33) (.tmp 35) rfl g33 A3 q3 c3 rfl rfl h33 (Nat.le_of_lt l_h33) (Kd.C_below HQ3.out hHeld.2) hl3b hHeld.2 ?_
              intro A36 k36 w5 r36 hb2 hgr hown
              have hCg : Chg [g33] w4 w5 := (Chg.refl _ _).grown hgr (by simp)
              have hX2 := hHeld.1.chg hCg (by simp; omega)
              have R36 := Lib.hid r36
              replace R32 := Lib.hid (Kd.R_grown2 R32.out rfl hgr (fun k_ e_ e2_ => o_R32_h33 k_ e2_.symm (Option.some.inj e_).symm))
              refine hK.out _ _ ⟨hX2, hb2⟩ (fun hHeld => ?_)
              clear hK K r36 hb2 hgr hown hCg hX2 h33
              refine norm_ (a' := ?_) ?_ ?_
              rotate_left
              · show Act.put _ (some 36) _ = _
                simp only [Act.put, List.setIfInBounds_toArray, List.set_cons_zero, List.set_cons_succ, i64_w, i32_w]
                rfl
              refine pure_ (i := 10) (N := some 37) (v := ?_) (a' := ?_) #[true, true, true, true, true, true, true, true, true, true, true, false, false] rfl rfl (any_of HT_.out (by kernel_rfl)) (fun _ _ _ h => h) (Or.inl ⟨by rfl, ?_⟩) ?_ ?_
              rotate_left
              · intro w'
                go_simp
                with_reducible rfl
              rotate_left
              · simp only [Act.put, List.setIfInBounds_toArray, List.set_cons_zero, List.set_cons_succ, i64_w, i32_w]
                rfl
              refine one_ (i := 11) (N := some 5) #[true, true, true, true, true, true, true, true, true, true, true, true, false] rfl rfl (one_of HT_.out (by kernel_rfl)) (by decide) (fun K hK => ?_)
              refine value_ (w1 := ?_) (v := ?_) (by rfl) rfl ?_ ?_
              rotate_left 2
              · go_simp
                constructor
                · rfl
                · rfl
              have hsz := hHeld.1.lt
              refine hK.out _ _ ⟨hHeld.1.alloc _, hHeld.2.alloc hHeld.2.size _⟩ (fun hHeld => ?_)
              clear hK K
              refine norm_ (a' := ?_) ?_ ?_
              rotate_left
              · show Act.put _ (some 5) _ = _
                simp only [Act.put, List.setIfInBounds_toArray, List.set_cons_zero, List.set_cons_succ, i64_w, i32_w]
                rfl
              have h5 := Blk.new w5 53 #[.int .i64 0, .slice none 0 0, .slice none 0 0, .slice none 0 0]
              have o_R32_h5 : ∀ b, (Value.slice A32 q2.length k32).ownBlock = some b → b ≠ w5.heap.size := fun b hb => by have := Kd.R_lt R32.out b hb; omega
              replace R32 := Lib.hid (Kd.R_alloc R32.out (.cells #[.int .i64 0, .slice none 0 0, .slice none 0 0, .slice none 0 0] 53))
              have o_R36_h5 : ∀ b, (Value.slice A36 q3.length k36).ownBlock = some b → b ≠ w5.heap.size := fun b hb => by have := Kd.R_lt R36.out b hb; omega
              replace R36 := Lib.hid (Kd.R_alloc R36.out (.cells #[.int .i64 0, .slice none 0 0, .slice none 0 0, .slice none 0 0] 53))
              have l_h5 : w.heap.size < w5.heap.size := hsz
              clear hsz
              generalize hgg : w5.heap.size = b5 at h5 o_R32_h5 o_R36_h5 l_h5 ⊢
              clear hgg
              generalize w5.alloc (.cells #[.int .i64 0, .slice none 0 0, .slice none 0 0, .slice none 0 0] 53) = w6 at hHeld h5 R32 R36 ⊢
              have z0 := h5.cell 0
              have z1 := h5.cell 1
              have z2 := h5.cell 2
              have z3 := h5.cell 3
              simp at z0 z1 z2 z3
              have f0 := h5.frozen 0
              have f1 := h5.frozen 1
              have f2 := h5.frozen 2
              have f3 := h5.frozen 3
              refine last_ (i := 12) (N := none) #[true, true, true, true, true, true, true, true, true, true, true, true, true] rfl rfl (one_of HT_.out (by kernel_rfl)) (by decide) (fun K hK => ?_)
              refine skip_ (w1 := ?_) (by rfl) rfl ?_ ?_
              rotate_left
              · go_simp
                rfl
              refine hK.out _ _ ?_
              clear hK K
              refine done_ (done_of HT_.out (by kernel_rfl)) ?_
              try go_wp2
              go_meet
              case rel => exact ⟨b5, A32, k32, A36, k36, rfl, l_h5, leaf3 hHeld.1 hHeld.2 l_h5 h5 R32 R36 _ rfl⟩
            · skip
              refine value_ (w1 := ?_) (v := ?_) (by rfl) rfl ?_ ?_
              rotate_left 2
              · go_simp
                constructor
                · rfl
                · rfl
              have hsz := hHeld.1.lt
              refine hK.out _ _ ⟨hHeld.1.alloc _, hHeld.2.alloc hHeld.2.size _⟩ (fun hHeld => ?_)
              clear hK K
              refine norm_ (a' := ?_) ?_ ?_
              rotate_left
              · show Act.put _ (some 5) _ = _
                simp only [Act.put, List.setIfInBounds_toArray, List.set_cons_zero, List.set_cons_succ, i64_w, i32_w]
                rfl
              have h5 := Blk.new w4 53 #[.int .i64 0, .slice none 0 0, .slice none 0 0, .slice none 0 0]
              have e_h33 : g33 ≠ w4.heap.size := by have := h33.lt; omega
              replace h33 := h33.alloc (.cells #[.int .i64 0, .slice none 0 0, .slice none 0 0, .slice none 0 0] 53)
              have o_R32_h5 : ∀ b, (Value.slice A32 q2.length k32).ownBlock = some b → b ≠ w4.heap.size := fun b hb => by have := Kd.R_lt R32.out b hb; omega
              replace R32 := Lib.hid (Kd.R_alloc R32.out (.cells #[.int .i64 0, .slice none 0 0, .slice none 0 0, .slice none 0 0] 53))
              have l_h5 : w.heap.size < w4.heap.size := hsz
              clear hsz
              generalize hgg : w4.heap.size = b5 at h5 e_h33 o_R32_h5 l_h5 ⊢
              clear hgg
              generalize w4.alloc (.cells #[.int .i64 0, .slice none 0 0, .slice none 0 0, .slice none 0 0] 53) = w5 at hHeld h5 h33 R32 ⊢
              have n_h33_h5 := e_h33
              have n_h5_h33 := e_h33.symm
              clear e_h33
              refine one_ (i := 9) (N := some 36) #[true, true, true, true, true, true, true, true, true, true, false, true, false] rfl rfl (one_of HT_.out (by kernel_rfl)) (by decide) (fun K hK => ?_)
              refine step_app w (by rfl) (.tmp 33) (.tmp 35) rfl g33 A3 q3 c3 rfl rfl h33 (Nat.le_of_lt l_h33) (Kd.C_below HQ3.out hHeld.2) hl3b hHeld.2 ?_
              intro A36 k36 w6 r36 hb2 hgr hown
              have hCg : Chg [g33] w5 w6 := (Chg.refl _ _).grown hgr (by simp)
              have hX2 := hHeld.1.chg hCg (by simp; omega)
              have R36 := Lib.hid r36
              have t_h5 := h5.lt
              replace h5 := h5.chg hCg (by simpa using n_h5_h33)
              clear t_h5
              replace R32 := Lib.hid (Kd.R_grown2 R32.out rfl hgr (fun k_ e_ e2_ => o_R32_h33 k_ e2_.symm (Option.some.inj e_).symm))
              refine hK.out _ _ ⟨hX2, hb2⟩ (fun hHeld => ?_)
              clear hK K r36 hb2 hgr hown hCg hX2 h33
              refine norm_ (a' := ?_) ?_ ?_
              rotate_left
              · show Act.put _ (some 36) _ = _
                simp only [Act.put, List.setIfInBounds_toArray, List.set_cons_zero, List.set_cons_succ, i64_w, i32_w]
                rfl
              refine pure_ (i := 10) (N := some 37) (v := ?_) (a' := ?_) #[true, true, true, true, true, true, true, true, true, true, true, true, false] rfl rfl (any_of HT_.out (by kernel_rfl)) (fun _ _ _ h => h) (Or.inl ⟨by rfl, ?_⟩) ?_ ?_
              rotate_left
              · intro w'
                go_simp
                with_reducible rfl
              rotate_left
              · simp only [Act.put, List.setIfInBounds_toArray, List.set_cons_zero, List.set_cons_succ, i64_w, i32_w]
                rfl
              have z0 := h5.cell 0
              have z1 := h5.cell 1
              have z2 := h5.cell 2
              have z3 := h5.cell 3
              simp at z0 z1 z2 z3
              have f0 := h5.frozen 0
              have f1 := h5.frozen 1
              have f2 := h5.frozen 2
              have f3 := h5.frozen 3
              refine last_ (i := 12) (N := none) #[true, true, true, true, true, true, true, true, true, true, true, true, true] rfl rfl (one_of HT_.out (by kernel_rfl)) (by decide) (fun K hK => ?_)
              refine skip_ (w1 := ?_) (by rfl) rfl ?_ ?_
              rotate_left
              · go_simp
                rfl
              refine hK.out _ _ ?_
              clear hK K
              refine done_ (done_of HT_.out (by kernel_rfl)) ?_
              try go_wp2
              go_meet
              case rel => exact ⟨b5, A32, k32, A36, k36, rfl, l_h5, leaf3 hHeld.1 hHeld.2 l_h5 h5 R32 R36 _ rfl⟩
          · skip
            refine value_ (w1 := ?_) (v := ?_) (by rfl) rfl ?_ ?_
            rotate_left 2
            · go_simp
              constructor
              · rfl
              · rfl
            have hsz := hHeld.1.lt
            refine hK.out _ _ ⟨hHeld.1.alloc _, hHeld.2.alloc hHeld.2.size _⟩ (fun hHeld => ?_)
            clear hK K
            refine norm_ (a' := ?_) ?_ ?_
            rotate_left
            · show Act.put _ (some 5) _ = _
              simp only [Act.put, List.setIfInBounds_toArray, List.set_cons_zero, List.set_cons_succ, i64_w, i32_w]
              rfl
            have h5 := Blk.new w3 53 #[.int .i64 0, .slice none 0 0, .slice none 0 0, .slice none 0 0]
            have o_R32_h5 : ∀ b, (Value.slice A32 q2.length k32).ownBlock = some b → b ≠ w3.heap.size := fun b hb => by have := Kd.R_lt R32.out b hb; omega
            replace R32 := Lib.hid (Kd.R_alloc R32.out (.cells #[.int .i64 0, .slice none 0 0, .slice none 0 0, .slice none 0 0] 53))
            have l_h5 : w.heap.size < w3.heap.size := hsz
            clear hsz
            generalize hgg : w3.heap.size = b5 at h5 o_R32_h5 l_h5 ⊢
            clear hgg
            generalize w3.alloc (.cells #[.int .i64 0, .slice none 0 0, .slice none 0 0, .slice none 0 0] 53) = w4 at hHeld h5 R32 ⊢
            refine one_ (i := 6) (N := some 33) #[true, true, true, true, true, true, true, true, true, false, false, true, false] rfl rfl (one_of HT_.out (by kernel_rfl)) (by decide) (fun K hK => ?_)
            refine value_ (w1 := ?_) (v := ?_) (by rfl) rfl ?_ ?_
            rotate_left 2
            · go_simp
              constructor
              · rfl
              · rfl
            have hsz := hHeld.1.lt
            refine hK.out _ _ ⟨hHeld.1.alloc _, hHeld.2.alloc hHeld.2.size _⟩ (fun hHeld => ?_)
            clear hK K
            refine norm_ (a' := ?_) ?_ ?_
            rotate_left
            · show Act.put _ (some 33) _ = _
              simp only [Act.put, List.setIfInBounds_toArray, List.set_cons_zero, List.set_cons_succ, i64_w, i32_w]
              rfl
            have h33 := Blk.new w4 3 #[]
            have e_h5 : b5 ≠ w4.heap.size := by have := h5.lt; omega
            replace h5 := h5.alloc (.cells #[] 3)
            have o_R32_h33 : ∀ b, (Value.slice A32 q2.length k32).ownBlock = some b → b ≠ w4.heap.size := fun b hb => by have := Kd.R_lt R32.out b hb; omega
            replace R32 := Lib.hid (Kd.R_alloc R32.out (.cells #[] 3))
            have l_h33 : w.heap.size < w4.heap.size := hsz
            clear hsz
            generalize hgg : w4.heap.size = g33 at h33 e_h5 o_R32_h33 l_h33 ⊢
            clear hgg
            generalize w4.alloc (.cells #[] 3) = w5 at hHeld h33 h5 R32 ⊢
            have n_h5_h33 := e_h5
            have n_h33_h5 := e_h5.symm
            clear e_h5
            refine one_ (i := 9) (N := some 36) #[true, true, true, true, true, true, true, true, true, true, false, true, false] rfl rfl (one_of HT_.out (by kernel_rfl)) (by decide) (fun K hK => ?_)
            refine step_app w (by rfl) (.tmp 33) (.tmp 35) rfl g33 A3 q3 c3 rfl rfl h33 (Nat.le_of_lt l_h33) (Kd.C_below HQ3.out hHeld.2) hl3b hHeld.2 ?_
            intro A36 k36 w6 r36 hb2 hgr hown
            have hCg : Chg [g33] w5 w6 := (Chg.refl _ _).grown hgr (by simp)
            have hX2 := hHeld.1.chg hCg (by simp; omega)
            have R36 := Lib.hid r36
            have t_h5 := h5.lt
            replace h5 := h5.chg hCg (by simpa using n_h5_h33)
            clear t_h5
            replace R32 := Lib.hid (Kd.R_grown2 R32.out rfl hgr (fun k_ e_ e2_ => o_R32_h33 k_ e2_.symm (Option.some.inj e_).symm))
            refine hK.out _ _ ⟨hX2, hb2⟩ (fun hHeld => ?_)
            clear hK K r36 hb2 hgr hown hCg hX2 h33
            refine norm_ (a' := ?_) ?_ ?_
            rotate_left
            · show Act.put _ (some 36) _ = _
              simp only [Act.put, List.setIfInBounds_toArray, List.set_cons_zero, List.set_cons_succ, i64_w, i32_w]
              rfl
            refine pure_ (i := 10) (N := some 37) (v := ?_) (a' := ?_) #[true, true, true, true, true, true, true, true, true, true, true, true, false] rfl rfl (any_of HT_.out (by kernel_rfl)) (fun _ _ _ h => h) (Or.inl ⟨by rfl, ?_⟩) ?_ ?_
            rotate_left
            · intro w'
              go_simp
              with_reducible rfl
            rotate_left
            · simp only [Act.put, List.setIfInBounds_toArray, List.set_cons_zero, List.set_cons_succ, i64_w, i32_w]
              rfl
            have z0 := h5.cell 0
            have z1 := h5.cell 1
            have z2 := h5.cell 2
            have z3 := h5.cell 3
            simp at z0 z1 z2 z3
            have f0 := h5.frozen 0
            have f1 := h5.frozen 1
            have f2 := h5.frozen 2
            have f3 := h5.frozen 3
            refine last_ (i := 12) (N := none) #[true, true, true, true, true, true, true, true, true, true, true, true, true] rfl rfl (one_of HT_.out (by kernel_rfl)) (by decide) (fun K hK => ?_)
            refine skip_ (w1 := ?_) (by rfl) rfl ?_ ?_
            rotate_left
            · go_simp
              rfl
            refine hK.out _ _ ?_
            clear hK K
            refine done_ (done_of HT_.out (by kernel_rfl)) ?_
            try go_wp2
            go_meet
            case rel => exact ⟨b5, A32, k32, A36, k36, rfl, l_h5, leaf3 hHeld.1 hHeld.2 l_h5 h5 R32 R36 _ rfl⟩
        · skip
          refine value_ (w1 := ?_) (v := ?_) (by rfl) rfl ?_ ?_
          rotate_left 2
          · go_simp
            constructor
            · rfl
            · rfl
          have hsz := hHeld.1.lt
          refine hK.out _ _ ⟨hHeld.1.alloc _, hHeld.2.alloc hHeld.2.size _⟩ (fun hHeld => ?_)
          clear hK K
          refine norm_ (a' := ?_) ?_ ?_
          rotate_left
          · show Act.put _ (some 33) _ = _
            simp only [Act.put, List.setIfInBounds_toArray, List.set_cons_zero, List.set_cons_succ, i64_w, i32_w]
            rfl
          have h33 := Blk.new w2 3 #[]
          have e_h29 : g29 ≠ w2.heap.size := by have := h29.lt; omega
          replace h29 := h29.alloc (.cells #[] 3)
          have l_h33 : w.heap.size < w2.heap.size := hsz
          clear hsz
          generalize hgg : w2.heap.size = g33 at h33 e_h29 l_h33 ⊢
          clear hgg
          generalize w2.alloc (.cells #[] 3) = w3 at hHeld h33 h29 ⊢
          have n_h29_h33 := e_h29
          have n_h33_h29 := e_h29.symm
          clear e_h29
          refine two_ (i := 5) (j := 11) (Ni := some 32) (Nj := some 5) #[true, true, true, true, true, true, true, true, true, false, false, false, false] #[true, true, true, true, true, false, true, true, true, false, false, true, false] rfl rfl rfl rfl (two_of HT_.out (by kernel_rfl)) (by decide) (by decide) (fun K hK => ?_) (fun K hK => ?_)
          · skip
            refine step_app w (by rfl) (.tmp 29) (.tmp 31) rfl g29 A2 q2 c2 rfl rfl h29 (Nat.le_of_lt l_h29) (Kd.C_below HQ2.out hHeld.2) hl2b hHeld.2 ?_
            intro A32 k32 w4 r32 hb2 hgr hown
            have hCg : Chg [g29] w3 w4 := (Chg.refl _ _).grown hgr (by simp)
            have hX2 := hHeld.1.chg hCg (by simp; omega)
            have R32 := Lib.hid r32
            have t_h33 := h33.lt
            replace h33 := h33.chg hCg (by simpa using n_h33_h29)
            have o_R32_h33 : ∀ b, (Value.slice A32 q2.length k32).ownBlock = some b → b ≠ g33 := fun b hb => by
              rcases hown b hb with e | e
              · rw [e]; exact n_h29_h33
              · omega
            clear t_h33
            refine hK.out _ _ ⟨hX2, hb2⟩ (fun hHeld => ?_)
            clear hK K r32 hb2 hgr hown hCg hX2 h29
            refine norm_ (a' := ?_) ?_ ?_
            rotate_left
            · show Act.put _ (some 32) _ = _
              simp only [Act.put, List.setIfInBounds_toArray, List.set_cons_zero, List.set_cons_succ, i64_w, i32_w]
              rfl
            refine two_ (i := 9) (j := 11) (Ni := some 36) (Nj := some 5) #[true, true, true, true, true, true, true, true, true, true, false, false, false] #[true, true, true, true, true, true, true, true, true, false, false, true, false] rfl rfl rfl rfl (two_of HT_.out (by kernel_rfl)) (by decide) (by decide) (fun K hK => ?_) (fun K hK => ?_)
            · skip
              refine step_app w (by rfl) (.tmp 33) (.tmp 35) rfl g33 A3 q3 c3 rfl rfl h33 (Nat.le_of_lt l_h33) (Kd.C_below HQ3.out hHeld.2) hl3b hHeld.2 ?_
              intro A36 k36 w5 r36 hb2 hgr hown
              have hCg : Chg [g33] w4 w5 := (Chg.refl _ _).grown hgr (by simp)
              have hX2 := hHeld.1.chg hCg (by simp; omega)
              have R36 := Lib.hid r36
              replace R32 := Lib.hid (Kd.R_grown2 R32.out rfl hgr (fun k_ e_ e2_ => o_R32_h33 k_ e2_.symm (Option.some.inj e_).symm))
              refine hK.out _ _ ⟨hX2, hb2⟩ (fun hHeld => ?_)
              clear hK K r36 hb2 hgr hown hCg hX2 h33
              refine norm_ (a' := ?_) ?_ ?_
              rotate_left
              · show Act.put _ (some 36) _ = _
                simp only [Act.put, List.setIfInBounds_toArray, List.set_cons_zero, List.set_cons_succ, i64_w, i32_w]
                rfl
              refine pure_ (i := 10) (N := some 37) (v := ?_) (a' := ?_) #[true, true, true, true, true, true, true, true, true, true, true, false, false] rfl rfl (any_of HT_.out (by kernel_rfl)) (fun _ _ _ h => h) (Or.inl ⟨by rfl, ?_⟩) ?_ ?_
              rotate_left
              · intro w'
                go_simp
                with_reducible rfl
              rotate_left
              · simp only [Act.put, List.setIfInBounds_toArray, List.set_cons_zero, List.set_cons_succ, i64_w, i32_w]
                rfl
              refine one_ (i := 11) (N := some 5) #[true, true, true, true, true, true, true, true, true, true, true, true, false] rfl rfl (one_of HT_.out (by kernel_rfl)) (by decide) (fun K hK => ?_)
              refine value_ (w1 := ?_) (v := ?_) (by rfl) rfl ?_ ?_
              rotate_left 2
              · go_simp
                constructor
                · rfl
                · rfl
              have hsz := hHeld.1.lt
              refine hK.out _ _ ⟨hHeld.1.alloc _, hHeld.2.alloc hHeld.2.size _⟩ (fun hHeld => ?_)
              clear hK K
              refine norm_ (a' := ?_) ?_ ?_
              rotate_left
              · show Act.put _ (some 5) _ = _
                simp only [Act.put, List.setIfInBounds_toArray, List.set_cons_zero, List.set_cons_succ, i64_w, i32_w]
                rfl
              have h5 := Blk.new w5 53 #[.int .i64 0, .slice none 0 0, .slice none 0 0, .slice none 0 0]
              have o_R32_h5 : ∀ b, (Value.slice A32 q2.length k32).ownBlock = some b → b ≠ w5.heap.size := fun b hb => by have := Kd.R_lt R32.out b hb; omega
              replace R32 := Lib.hid (Kd.R_alloc R32.out (.cells #[.int .i64 0, .slice none 0 0, .slice none 0 0, .slice none 0 0] 53))
              have o_R36_h5 : ∀ b, (Value.slice A36 q3.length k36).ownBlock = some b → b ≠ w5.heap.size := fun b hb => by have := Kd.R_lt R36.out b hb; omega
              replace R36 := Lib.hid (Kd.R_alloc R36.out (.cells #[.int .i64 0, .slice none 0 0, .slice none 0 0, .slice none 0 0] 53))
              have l_h5 : w.heap.size < w5.heap.size := hsz
              clear hsz
              generalize hgg : w5.heap.size = b5 at h5 o_R32_h5 o_R36_h5 l_h5 ⊢
              clear hgg
              generalize w5.alloc (.cells #[.int .i64 0, .slice none 0 0, .slice none 0 0, .slice none 0 0] 53) = w6 at hHeld h5 R32 R36 ⊢
              have z0 := h5.cell 0
              have z1 := h5.cell 1
              have z2 := h5.cell 2
              have z3 := h5.cell 3
              simp at z0 z1 z2 z3
              have f0 := h5.frozen 0
              have f1 := h5.frozen 1
              have f2 := h5.frozen 2
              have f3 := h5.frozen 3
              refine last_ (i := 12) (N := none) #[true, true, true, true, true, true, true, true, true, true, true, true, true] rfl rfl (one_of HT_.out (by kernel_rfl)) (by decide) (fun K hK => ?_)
              refine skip_ (w1 := ?_) (by rfl) rfl ?_ ?_
              rotate_left
              · go_simp
                rfl
              refine hK.out _ _ ?_
              clear hK K
              refine done_ (done_of HT_.out (by kernel_rfl)) ?_
              try go_wp2
              go_meet
              case rel => exact ⟨b5, A32, k32, A36, k36, rfl, l_h5, leaf3 hHeld.1 hHeld.2 l_h5 h5 R32 R36 _ rfl⟩
            · skip
              refine value_ (w1 := ?_) (v := ?_) (by rfl) rfl ?_ ?_
              rotate_left 2
              · go_simp
                constructor
                · rfl
                · rfl
              have hsz := hHeld.1.lt
              refine hK.out _ _ ⟨hHeld.1.alloc _, hHeld.2.alloc hHeld.2.size _⟩ (fun hHeld => ?_)
              clear hK K
              refine norm_ (a' := ?_) ?_ ?_
              rotate_left
              · show Act.put _ (some 5) _ = _
                simp only [Act.put, List.setIfInBounds_toArray, List.set_cons_zero, List.set_cons_succ, i64_w, i32_w]
                rfl
              have h5 := Blk.new w4 53 #[.int .i64 0, .slice none 0 0, .slice none 0 0, .slice none 0 0]
              have e_h33 : g33 ≠ w4.heap.size := by have := h33.lt; omega
              replace h33 := h33.alloc (.cells #[.int .i64 0, .slice none 0 0, .slice none 0 0, .slice none 0 0] 53)
              have o_R32_h5 : ∀ b, (Value.slice A32 q2.length k32).ownBlock = some b → b ≠ w4.heap.size := fun b hb => by have := Kd.R_lt R32.out b hb; omega
              replace R32 := Lib.hid (Kd.R_alloc R32.out (.cells #[.int .i64 0, .slice none 0 0, .slice none 0 0, .slice none 0 0] 53))
              have l_h5 : w.heap.size < w4.heap.size := hsz
              clear hsz
              generalize hgg : w4.heap.size = b5 at h5 e_h33 o_R32_h5 l_h5 ⊢
              clear hgg
              generalize w4.alloc (.cells #[.int .i64 0, .slice none 0 0, .slice none 0 0, .slice none 0 0] 53) = w5 at hHeld h5 h33 R32 ⊢
              have n_h33_h5 := e_h33
              have n_h5_h33 := e_h33.symm
              clear e_h33
              refine one_ (i := 9) (N := some 36) #[true, true, true, true, true, true, true, true, true, true, false, true, false] rfl rfl (one_of HT_.out (by kernel_rfl)) (by decide) (fun K hK => ?_)
              refine step_app w (by rfl) (.tmp 33) (.tmp 35) rfl g33 A3 q3 c3 rfl rfl h33 (Nat.le_of_lt l_h33) (Kd.C_below HQ3.out hHeld.2) hl3b hHeld.2 ?_
              intro A36 k36 w6 r36 hb2 hgr hown
              have hCg : Chg [g33] w5 w6 := (Chg.refl _ _).grown hgr (by simp)
              have hX2 := hHeld.1.chg hCg (by simp; omega)
              have R36 := Lib.hid r36
              have t_h5 := h5.lt
              replace h5 := h5.chg hCg (by simpa using n_h5_h33)
              clear t_h5
              replace R32 := Lib.hid (Kd.R_grown2 R32.out rfl hgr (fun k_ e_ e2_ => o_R32_h33 k_ e2_.symm (Option.some.inj e_).symm))
              refine hK.out _ _ ⟨hX2, hb2⟩ (fun hHeld => ?_)
              clear hK K r36 hb2 hgr hown hCg hX2 h33
              refine norm_ (a' := ?_) ?_ ?_
              rotate_left
              · show Act.put _ (some 36) _ = _
                simp only [Act.put, List.setIfInBounds_toArray, List.set_cons_zero, List.set_cons_succ, i64_w, i32_w]
                rfl
              refine pure_ (i := 10) (N := some 37) (v := ?_) (a' := ?_) #[true, true, true, true, true, true, true, true, true, true, true, true, false] rfl rfl (any_of HT_.out (by kernel_rfl)) (fun _ _ _ h => h) (Or.inl ⟨by rfl, ?_⟩) ?_ ?_
              rotate_left
              · intro w'
                go_simp
                with_reducible rfl
              rotate_left
              · simp only [Act.put, List.setIfInBounds_toArray, List.set_cons_zero, List.set_cons_succ, i64_w, i32_w]
                rfl
              have z0 := h5.cell 0
              have z1 := h5.cell 1
              have z2 := h5.cell 2
              have z3 := h5.cell 3
              simp at z0 z1 z2 z3
              have f0 := h5.frozen 0
              have f1 := h5.frozen 1
              have f2 := h5.frozen 2
              have f3 := h5.frozen 3
              refine last_ (i := 12) (N := none) #[true, true, true, true, true, true, true, true, true, true, true, true, true] rfl rfl (one_of HT_.out (by kernel_rfl)) (by decide) (fun K hK => ?_)
              refine skip_ (w1 := ?_) (by rfl) rfl ?_ ?_
              rotate_left
              · go_simp
                rfl
              refine hK.out _ _ ?_
              clear hK K
              refine done_ (done_of HT_.out (by kernel_rfl)) ?_
              try go_wp2
              go_meet
              case rel => exact ⟨b5, A32, k32, A36, k36, rfl, l_h5, leaf3 hHeld.1 hHeld.2 l_h5 h5 R32 R36 _ rfl⟩
          · skip
            refine value_ (w1 := ?_) (v := ?_) (by rfl) rfl ?_ ?_
            rotate_left 2
            · go_simp
              constructor
              · rfl
              · rfl
            have hsz := hHeld.1.lt
            refine hK.out _ _ ⟨hHeld.1.alloc _, hHeld.2.alloc hHeld.2.size _⟩ (fun hHeld => ?_)
            clear hK K
            refine norm_ (a' := ?_) ?_ ?_
            rotate_left
            · show Act.put _ (some 5) _ = _
              simp only [Act.put, List.setIfInBounds_toArray, List.set_cons_zero, List.set_cons_succ, i64_w, i32_w]
              rfl
            have h5 := Blk.new w3 53 #[.int .i64 0, .slice none 0 0, .slice none 0 0, .slice none 0 0]
            have e_h29 : g29 ≠ w3.heap.size := by have := h29.lt; omega
            replace h29 := h29.alloc (.cells #[.int .i64 0, .slice none 0 0, .slice none 0 0, .slice none 0 0] 53)
            have e_h33 : g33 ≠ w3.heap.size := by have := h33.lt; omega
            replace h33 := h33.alloc (.cells #[.int .i64 0, .slice none 0 0, .slice none 0 0, .slice none 0 0] 53)
            have l_h5 : w.heap.size < w3.heap.size := hsz
            clear hsz
            generalize hgg : w3.heap.size = b5 at h5 e_h29 e_h33 l_h5 ⊢
            clear hgg
            generalize w3.alloc (.cells #[.int .i64 0, .slice none 0 0, .slice none 0 0, .slice none 0 0] 53) = w4 at hHeld h5 h29 h33 ⊢
            have n_h29_h5 := e_h29
            have n_h5_h29 := e_h29.symm
            clear e_h29
            have n_h33_h5 := e_h33
            have n_h5_h33 := e_h33.symm
            clear e_h33
            refine one_ (i := 5) (N := some 32) #[true, true, true, true, true, true, true, true, true, false, false, true, false] rfl rfl (one_of HT_.out (by kernel_rfl)) (by decide) (fun K hK => ?_)
            refine step_app w (by rfl) (.tmp 29) (.tmp 31) rfl g29 A2 q2 c2 rfl rfl h29 (Nat.le_of_lt l_h29) (Kd.C_below HQ2.out hHeld.2) hl2b hHeld.2 ?_
            intro A32 k32 w5 r32 hb2 hgr hown
            have hCg : Chg [g29] w4 w5 := (Chg.refl _ _).grown hgr (by simp)
            have hX2 := hHeld.1.chg hCg (by simp; omega)
            have R32 := Lib.hid r32
            have t_h33 := h33.lt
            replace h33 := h33.chg hCg (by simpa using n_h33_h29)
            have o_R32_h33 : ∀ b, (Value.slice A32 q2.length k32).ownBlock = some b → b ≠ g33 := fun b hb => by
              rcases hown b hb with e | e
              · rw [e]; exact n_h29_h33
              · omega
            clear t_h33
            have t_h5 := h5.lt
            replace h5 := h5.chg hCg (by simpa using n_h5_h29)
            clear t_h5
            refine hK.out _ _ ⟨hX2, hb2⟩ (fun hHeld => ?_)
            clear hK K r32 hb2 hgr hown hCg hX2 h29
            refine norm_ (a' := ?_) ?_ ?_
            rotate_left
            · show Act.put _ (some 32) _ = _
              simp only [Act.put, List.setIfInBounds_toArray, List.set_cons_zero, List.set_cons_succ, i64_w, i32_w]
              rfl
            refine one_ (i := 9) (N := some 36) #[true, true, true, true, true, true, true, true, true, true, false, true, false] rfl rfl (one_of HT_.out (by kernel_rfl)) (by decide) (fun K hK => ?_)
            refine step_app w (by rfl) (.tmp 33) (.tmp 35) rfl g33 A3 q3 c3 rfl rfl h33 (Nat.le_of_lt l_h33) (Kd.C_below HQ3.out hHeld.2) hl3b hHeld.2 ?_
            intro A36 k36 w6 r36 hb2 hgr hown
            have hCg : Chg [g33] w5 w6 := (Chg.refl _ _).grown hgr (by simp)
            have hX2 := hHeld.1.chg hCg (by simp; omega)
            have R36 := Lib.hid r36
            have t_h5 := h5.lt
            replace h5 := h5.chg hCg (by simpa using n_h5_h33)
            clear t_h5
            replace R32 := Lib.hid (Kd.R_grown2 R32.out rfl hgr (fun k_ e_ e2_ => o_R32_h33 k_ e2_.symm (Option.some.inj e_).symm))
            refine hK.out _ _ ⟨hX2, hb2⟩ (fun hHeld => ?_)
            clear hK K r36 hb2 hgr hown hCg hX2 h33
            refine norm_ (a' := ?_) ?_ ?_
            rotate_left
            · show Act.put _ (some 36) _ = _
              simp only [Act.put, List.setIfInBounds_toArray, List.set_cons_zero, List.set_cons_succ, i64_w, i32_w]
              rfl
            refine pure_ (i := 10) (N := some 37) (v := ?_) (a' := ?_) #[true, true, true, true, true, true, true, true, true, true, true, true, false] rfl rfl (any_of HT_.out (by kernel_rfl)) (fun _ _ _ h => h) (Or.inl ⟨by rfl, ?_⟩) ?_ ?_
            rotate_left
            · intro w'
              go_simp
              with_reducible rfl
            rotate_left
            · simp only [Act.put, List.setIfInBounds_toArray, List.set_cons_zero, List.set_cons_succ, i64_w, i32_w]
              rfl
            have z0 := h5.cell 0
            have z1 := h5.cell 1
            have z2 := h5.cell 2
            have z3 := h5.cell 3
            simp at z0 z1 z2 z3
            have f0 := h5.frozen 0
            have f1 := h5.frozen 1
            have f2 := h5.frozen 2
            have f3 := h5.frozen 3
            refine last_ (i := 12) (N := none) #[true, true, true, true, true, true, true, true, true, true, true, true, true] rfl rfl (one_of HT_.out (by kernel_rfl)) (by decide) (fun K hK => ?_)
            refine skip_ (w1 := ?_) (by rfl) rfl ?_ ?_
            rotate_left
            · go_simp
              rfl
            refine hK.out _ _ ?_
            clear hK K
            refine done_ (done_of HT_.out (by kernel_rfl)) ?_
            try go_wp2
            go_meet
            case rel => exact ⟨b5, A32, k32, A36, k36, rfl, l_h5, leaf3 hHeld.1 hHeld.2 l_h5 h5 R32 R36 _ rfl⟩
        · skip
          refine value_ (w1 := ?_) (v := ?_) (by rfl) rfl ?_ ?_
          rotate_left 2
          · go_simp
            constructor
            · rfl
            · rfl
          have hsz := hHeld.1.lt
          refine hK.out _ _ ⟨hHeld.1.alloc _, hHeld.2.alloc hHeld.2.size _⟩ (fun hHeld => ?_)
          clear hK K
          refine norm_ (a' := ?_) ?_ ?_
          rotate_left
          · show Act.put _ (some 5) _ = _
            simp only [Act.put, List.setIfInBounds_toArray, List.set_cons_zero, List.set_cons_succ, i64_w, i32_w]
            rfl
          have h5 := Blk.new w2 53 #[.int .i64 0, .slice none 0 0, .slice none 0 0, .slice none 0 0]
          have e_h29 : g29 ≠ w2.heap.size := by have := h29.lt; omega
          replace h29 := h29.alloc (.cells #[.int .i64 0, .slice none 0 0, .slice none 0 0, .slice none 0 0] 53)
          have l_h5 : w.heap.size < w2.heap.size := hsz
          clear hsz
          generalize hgg : w2.heap.size = b5 at h5 e_h29 l_h5 ⊢
          clear hgg
          generalize w2.alloc (.cells #[.int .i64 0, .slice none 0 0, .slice none 0 0, .slice none 0 0] 53) = w3 at hHeld h5 h29 ⊢
          have n_h29_h5 := e_h29
          have n_h5_h29 := e_h29.symm
          clear e_h29
          refine two_ (i := 5) (j := 6) (Ni := some 32) (Nj := some 33) #[true, true, true, true, true, true, false, true, true, false, false, true, false] #[true, true, true, true, true, false, true, true, true, false, false, true, false] rfl rfl rfl rfl (two_of HT_.out (by kernel_rfl)) (by decide) (by decide) (fun K hK => ?_) (fun K hK => ?_)
          · skip
            refine step_app w (by rfl) (.tmp 29) (.tmp 31) rfl g29 A2 q2 c2 rfl rfl h29 (Nat.le_of_lt l_h29) (Kd.C_below HQ2.out hHeld.2) hl2b hHeld.2 ?_
            intro A32 k32 w4 r32 hb2 hgr hown
            have hCg : Chg [g29] w3 w4 := (Chg.refl _ _).grown hgr (by simp)
            have hX2 := hHeld.1.chg hCg (by simp; omega)
            have R32 := Lib.hid r32
            have t_h5 := h5.lt
            replace h5 := h5.chg hCg (by simpa using n_h5_h29)
            clear t_h5
            refine hK.out _ _ ⟨hX2, hb2⟩ (fun hHeld => ?_)
            clear hK K r32 hb2 hgr hown hCg hX2 h29
            refine norm_ (a' := ?_) ?_ ?_
            rotate_left
            · show Act.put _ (some 32) _ = _
              simp only [Act.put, List.setIfInBounds_toArray, List.set_cons_zero, List.set_cons_succ, i64_w, i32_w]
              rfl
            refine one_ (i := 6) (N := some 33) #[true, true, true, true, true, true, true, true, true, false, false, true, false] rfl rfl (one_of HT_.out (by kernel_rfl)) (by decide) (fun K hK => ?_)
            refine value_ (w1 := ?_) (v := ?_) (by rfl) rfl ?_ ?_
            rotate_left 2
            · go_simp
              constructor
              · rfl
              · rfl
            have hsz := hHeld.1.lt
            refine hK.out _ _ ⟨hHeld.1.alloc _, hHeld.2.alloc hHeld.2.size _⟩ (fun hHeld => ?_)
            clear hK K
            refine norm_ (a' := ?_) ?_ ?_
            rotate_left
            · show Act.put _ (some 33) _ = _
              simp only [Act.put, List.setIfInBounds_toArray, List.set_cons_zero, List.set_cons_succ, i64_w, i32_w]
              rfl
            have h33 := Blk.new w4 3 #[]
            have e_h5 : b5 ≠ w4.heap.size := by have := h5.lt; omega
            replace h5 := h5.alloc (.cells #[] 3)
            have o_R32_h33 : ∀ b, (Value.slice A32 q2.length k32).ownBlock = some b → b ≠ w4.heap.size := fun b hb => by have := Kd.R_lt R32.out b hb; omega
            replace R32 := Lib.hid (Kd.R_alloc R32.out (.cells #[] 3))
            have l_h33 : w.heap.size < w4.heap.size := hsz
            clear hsz
            generalize hgg : w4.heap.size = g33 at h33 e_h5 o_R32_h33 l_h33 ⊢
            clear hgg
            generalize w4.alloc (.cells #[] 3) = w5 at hHeld h33 h5 R32 ⊢
            have n_h5_h33 := e_h5
            have n_h33_h5 := e_h5.symm
            clear e_h5
            refine one_ (i := 9) (N := some 36) #[true, true, true, true, true, true, true, true, true, true, false, true, false] rfl rfl (one_of HT_.out (by kernel_rfl)) (by decide) (fun K hK => ?_)
            refine step_app w (by rfl) (.tmp 33) (.tmp 35) rfl g33 A3 q3 c3 rfl rfl h33 (Nat.le_of_lt l_h33) (Kd.C_below HQ3.out hHeld.2) hl3b hHeld.2 ?_
            intro A36 k36 w6 r36 hb2 hgr hown
            have hCg : Chg [g33] w5 w6 := (Chg.refl _ _).grown hgr (by simp)
            have hX2 := hHeld.1.chg hCg (by simp; omega)
            have R36 := Lib.hid r36
            have t_h5 := h5.lt
            replace h5 := h5.chg hCg (by simpa using n_h5_h33)
            clear t_h5
            replace R32 := Lib.hid (Kd.R_grown2 R32.out rfl hgr (fun k_ e_ e2_ => o_R32_h33 k_ e2_.symm (Option.some.inj e_).symm))
            refine hK.out _ _ ⟨hX2, hb2⟩ (fun hHeld => ?_)
            clear hK K r36 hb2 hgr hown hCg hX2 h33
            refine norm_ (a' := ?_) ?_ ?_
            rotate_left
            · show Act.put _ (some 36) _ = _
              simp only [Act.put, List.setIfInBounds_toArray, List.set_cons_zero, List.set_cons_succ, i64_w, i32_w]
              rfl
            refine pure_ (i := 10) (N := some 37) (v := ?_) (a' := ?_) #[true, true, true, true, true, true, true, true, true, true, true, true, false] rfl rfl (any_of HT_.out (by kernel_rfl)) (fun _ _ _ h => h) (Or.inl ⟨by rfl, ?_⟩) ?_ ?_
            rotate_left
            · intro w'
              go_simp
              with_reducible rfl
            rotate_left
            · simp only [Act.put, List.setIfInBounds_toArray, List.set_cons_zero, List.set_cons_succ, i64_w, i32_w]
              rfl
            have z0 := h5.cell 0
            have z1 := h5.cell 1
            have z2 := h5.cell 2
            have z3 := h5.cell 3
            simp at z0 z1 z2 z3
            have f0 := h5.frozen 0
            have f1 := h5.frozen 1
            have f2 := h5.frozen 2
            have f3 := h5.frozen 3
            refine last_ (i := 12) (N := none) #[true, true, true, true, true, true, true, true, true, true, true, true, true] rfl rfl (one_of HT_.out (by kernel_rfl)) (by decide) (fun K hK => ?_)
            refine skip_ (w1 := ?_) (by rfl) rfl ?_ ?_
            rotate_left
            · go_simp
              rfl
            refine hK.out _ _ ?_
            clear hK K
            refine done_ (done_of HT_.out (by kernel_rfl)) ?_
            try go_wp2
            go_meet
            case rel => exact ⟨b5, A32, k32, A36, k36, rfl, l_h5, leaf3 hHeld.1 hHeld.2 l_h5 h5 R32 R36 _ rfl⟩
          · skip
            refine value_ (w1 := ?_) (v := ?_) (by rfl) rfl ?_ ?_
            rotate_left 2
            · go_simp
              constructor
              · rfl
              · rfl
            have hsz := hHeld.1.lt
            refine hK.out _ _ ⟨hHeld.1.alloc _, hHeld.2.alloc hHeld.2.size _⟩ (fun hHeld => ?_)
            clear hK K
            refine norm_ (a' := ?_) ?_ ?_
            rotate_left
            · show Act.put _ (some 33) _ = _
              simp only [Act.put, List.setIfInBounds_toArray, List.set_cons_zero, List.set_cons_succ, i64_w, i32_w]
              rfl
            have h33 := Blk.new w3 3 #[]
            have e_h29 : g29 ≠ w3.heap.size := by have := h29.lt; omega
            replace h29 := h29.alloc (.cells #[] 3)
            have e_h5 : b5 ≠ w3.heap.size := by have := h5.lt; omega
            replace h5 := h5.alloc (.cells #[] 3)
            have l_h33 : w.heap.size < w3.heap.size := hsz
            clear hsz
            generalize hgg : w3.heap.size = g33 at h33 e_h29 e_h5 l_h33 ⊢
            clear hgg
            generalize w3.alloc (.cells #[] 3) = w4 at hHeld h33 h29 h5 ⊢
            have n_h29_h33 := e_h29
            have n_h33_h29 := e_h29.symm
            clear e_h29
            have n_h5_h33 := e_h5
            have n_h33_h5 := e_h5.symm
            clear e_h5
            refine one_ (i := 5) (N := some 32) #[true, true, true, true, true, true, true, true, true, false, false, true, false] rfl rfl (one_of HT_.out (by kernel_rfl)) (by decide) (fun K hK => ?_)
            refine step_app w (by rfl) (.tmp 29) (.tmp 31) rfl g29 A2 q2 c2 rfl rfl h29 (Nat.le_of_lt l_h29) (Kd.C_below HQ2.out hHeld.2) hl2b hHeld.2 ?_
            intro A32 k32 w5 r32 hb2 hgr hown
            have hCg : Chg [g29] w4 w5 := (Chg.refl _ _).grown hgr (by simp)
            have hX2 := hHeld.1.chg hCg (by simp; omega)
            have R32 := Lib.hid r32
            have t_h33 := h33.lt
            replace h33 := h33.chg hCg (by simpa using n_h33_h29)
            have o_R32_h33 : ∀ b, (Value.slice A32 q2.length k32).ownBlock = some b → b ≠ g33 := fun b hb => by
              rcases hown b hb with e | e
              · rw [e]; exact n_h29_h33
              · omega
            clear t_h33
            have t_h5 := h5.lt
            replace h5 := h5.chg hCg (by simpa using n_h5_h29)
            clear t_h5
            refine hK.out _ _ ⟨hX2, hb2⟩ (fun hHeld => ?_)
            clear hK K r32 hb2 hgr hown hCg hX2 h29
            refine norm_ (a' := ?_) ?_ ?_
            rotate_left
            · show Act.put _ (some 32) _ = _
              simp only [Act.put, List.setIfInBounds_toArray, List.set_cons_zero, List.set_cons_succ, i64_w, i32_w]
              rfl
            refine one_ (i := 9) (N := some 36) #[true, true, true, true, true, true, true, true, true, true, false, true, false] rfl rfl (one_of HT_.out (by kernel_rfl)) (by decide) (fun K hK => ?_)
            refine step_app w (by rfl) (.tmp 33) (.tmp 35) rfl g33 A3 q3 c3 rfl rfl h33 (Nat.le_of_lt l_h33) (Kd.C_below HQ3.out hHeld.2) hl3b hHeld.2 ?_
            intro A36 k36 w6 r36 hb2 hgr hown
            have hCg : Chg [g33] w5 w6 := (Chg.refl _ _).grown hgr (by simp)
            have hX2 := hHeld.1.chg hCg (by simp; omega)
            have R36 := Lib.hid r36
            have t_h5 := h5.lt
            replace h5 := h5.chg hCg (by simpa using n_h5_h33)
            clear t_h5
            replace R32 := Lib.hid (Kd.R_grown2 R32.out rfl hgr (fun k_ e_ e2_ => o_R32_h33 k_ e2_.symm (Option.some.inj e_).symm))
            refine hK.out _ _ ⟨hX2, hb2⟩ (fun hHeld => ?_)
            clear hK K r36 hb2 hgr hown hCg hX2 h33
            refine norm_ (a' := ?_) ?_ ?_
            rotate_left
            · show Act.put _ (some 36) _ = _
              simp only [Act.put, List.setIfInBounds_toArray, List.set_cons_zero, List.set_cons_succ, i64_w, i32_w]
              rfl
            refine pure_ (i := 10) (N := some 37) (v := ?_) (a' := ?_) #[true, true, true, true, true, true, true, true, true, true, true, true, false] rfl rfl (any_of HT_.out (by kernel_rfl)) (fun _ _ _ h => h) (Or.inl ⟨by rfl, ?_⟩) ?_ ?_
            rotate_left
            · intro w'
              go_simp
              with_reducible rfl
            rotate_left
            · simp only [Act.put, List.setIfInBounds_toArray, List.set_cons_zero, List.set_cons_succ, i64_w, i32_w]
              rfl
            have z0 := h5.cell 0
            have z1 := h5.cell 1
            have z2 := h5.cell 2
            have z3 := h5.cell 3
            simp at z0 z1 z2 z3
            have f0 := h5.frozen 0
            have f1 := h5.frozen 1
            have f2 := h5.frozen 2
            have f3 := h5.frozen 3
            refine last_ (i := 12) (N := none) #[true, true, true, true, true, true, true, true, true, true, true, true, true] rfl rfl (one_of HT_.out (by kernel_rfl)) (by decide) (fun K hK => ?_)
            refine skip_ (w1 := ?_) (by rfl) rfl ?_ ?_
            rotate_left
            · go_simp
              rfl
            refine hK.out _ _ ?_
            clear hK K
            refine done_ (done_of HT_.out (by kernel_rfl)) ?_
            try go_wp2
            go_meet
            case rel => exact ⟨b5, A32, k32, A36, k36, rfl, l_h5, leaf3 hHeld.1 hHeld.2 l_h5 h5 R32 R36 _ rfl⟩
      · skip
        refine value_ (w1 := ?_) (v := ?_) (by rfl) rfl ?_ ?_
        rotate_left 2
        · go_simp
          constructor
          · rfl
          · rfl
        have hsz := hHeld.1.lt
        refine hK.out _ _ ⟨hHeld.1.alloc _, hHeld.2.alloc hHeld.2.size _⟩ (fun hHeld => ?_)
        clear hK K
        refine norm_ (a' := ?_) ?_ ?_
        rotate_left
        · show Act.put _ (some 33) _ = _
          simp only [Act.put, List.setIfInBounds_toArray, List.set_cons_zero, List.set_cons_succ, i64_w, i32_w]
          rfl
        have h33 := Blk.new w1 3 #[]
        have l_h33 : w.heap.size < w1.heap.size := hsz
        clear hsz
        generalize hgg : w1.heap.size = g33 at h33 l_h33 ⊢
        clear hgg
        generalize w1.alloc (.cells #[] 3) = w2 at hHeld h33 ⊢
        refine two_ (i := 2) (j := 11) (Ni := some 29) (Nj := some 5) #[true, true, true, true, true, false, true, true, true, false, false, false, false] #[true, true, false, true, true, false, true, true, true, false, false, true, false] rfl rfl rfl rfl (two_of HT_.out (by kernel_rfl)) (by decide) (by decide) (fun K hK => ?_) (fun K hK => ?_)
        · skip
          refine value_ (w1 := ?_) (v := ?_) (by rfl) rfl ?_ ?_
          rotate_left 2
          · go_simp
            constructor
            · rfl
            · rfl
          have hsz := hHeld.1.lt
          refine hK.out _ _ ⟨hHeld.1.alloc _, hHeld.2.alloc hHeld.2.size _⟩ (fun hHeld => ?_)
          clear hK K
          refine norm_ (a' := ?_) ?_ ?_
          rotate_left
          · show Act.put _ (some 29) _ = _
            simp only [Act.put, List.setIfInBounds_toArray, List.set_cons_zero, List.set_cons_succ, i64_w, i32_w]
            rfl
          have h29 := Blk.new w2 3 #[]
          have e_h33 : g33 ≠ w2.heap.size := by have := h33.lt; omega
          replace h33 := h33.alloc (.cells #[] 3)
          have l_h29 : w.heap.size < w2.heap.size := hsz
          clear hsz
          generalize hgg : w2.heap.size = g29 at h29 e_h33 l_h29 ⊢
          clear hgg
          generalize w2.alloc (.cells #[] 3) = w3 at hHeld h29 h33 ⊢
          have n_h33_h29 := e_h33
          have n_h29_h33 := e_h33.symm
          clear e_h33
          refine two_ (i := 5) (j := 11) (Ni := some 32) (Nj := some 5) #[true, true, true, true, true, true, true, true, true, false, false, false, false] #[true, true, true, true, true, false, true, true, true, false, false, true, false] rfl rfl rfl rfl (two_of HT_.out (by kernel_rfl)) (by decide) (by decide) (fun K hK => ?_) (fun K hK => ?_)
          · skip
            refine step_app w (by rfl) (.tmp 29) (.tmp 31) rfl g29 A2 q2 c2 rfl rfl h29 (Nat.le_of_lt l_h29) (Kd.C_below HQ2.out hHeld.2) hl2b hHeld.2 ?_
            intro A32 k32 w4 r32 hb2 hgr hown
            have hCg : Chg [g29] w3 w4 := (Chg.refl _ _).grown hgr (by simp)
            have hX2 := hHeld.1.chg hCg (by simp; omega)
            have R32 := Lib.hid r32
            have t_h33 := h33.lt
            replace h33 := h33.chg hCg (by simpa using n_h33_h29)
            have o_R32_h33 : ∀ b, (Value.slice A32 q2.length k32).ownBlock = some b → b ≠ g33 := fun b hb => by
              rcases hown b hb with e | e
              · rw [e]; exact n_h29_h33
              · omega
            clear t_h33
            refine hK.out _ _ ⟨hX2, hb2⟩ (fun hHeld => ?_)
            clear hK K r32 hb2 hgr hown hCg hX2 h29
            refine norm_ (a' := ?_) ?_ ?_
            rotate_left
            · show Act.put _ (some 32) _ = _
              simp only [Act.put, List.setIfInBounds_toArray, List.set_cons_zero, List.set_cons_succ, i64_w, i32_w]
              rfl
            refine two_ (i := 9) (j := 11) (Ni := some 36) (Nj := some 5) #[true, true, true, true, true, true, true, true, true, true, false, false, false] #[true, true, true, true, true, true, true, true, true, false, false, true, false] rfl rfl rfl rfl (two_of HT_.out (by kernel_rfl)) (by decide) (by decide) (fun K hK => ?_) (fun K hK => ?_)
            · skip
              refine step_app w (by rfl) (.tmp 33) (.tmp 35) rfl g33 A3 q3 c3 rfl rfl h33 (Nat.le_of_lt l_h33) (Kd.C_below HQ3.out hHeld.2) hl3b hHeld.2 ?_
              intro A36 k36 w5 r36 hb2 hgr hown
              have hCg : Chg [g33] w4 w5 := (Chg.refl _ _).grown hgr (by simp)
              have hX2 := hHeld.1.chg hCg (by simp; omega)
              have R36 := Lib.hid r36
              replace R32 := Lib.hid (Kd.R_grown2 R32.out rfl hgr (fun k_ e_ e2_ => o_R32_h33 k_ e2_.symm (Option.some.inj e_).symm))
              refine hK.out _ _ ⟨hX2, hb2⟩ (fun hHeld => ?_)
              clear hK K r36 hb2 hgr hown hCg hX2 h33
              refine norm_ (a' := ?_) ?_ ?_
              rotate_left
              · show Act.put _ (some 36) _ = _
                simp only [Act.put, List.setIfInBounds_toArray, List.set_cons_zero, List.set_cons_succ, i64_w, i32_w]
                rfl
              refine pure_ (i := 10) (N := some 37) (v := ?_) (a' := ?_) #[true, true, true, true, true, true, true, true, true, true, true, false, false] rfl rfl (any_of HT_.out (by kernel_rfl)) (fun _ _ _ h => h) (Or.inl ⟨by rfl, ?_⟩) ?_ ?_
              rotate_left
              · intro w'
                go_simp
                with_reducible rfl
              rotate_left
              · simp only [Act.put, List.setIfInBounds_toArray, List.set_cons_zero, List.set_cons_succ, i64_w, i32_w]
                rfl
              refine one_ (i := 11) (N := some 5) #[true, true, true, true, true, true, true, true, true, true, true, true, false] rfl rfl (one_of HT_.out (by kernel_rfl)) (by decide) (fun K hK => ?_)
              refine value_ (w1 := ?_) (v := ?_) (by rfl) rfl ?_ ?_
              rotate_left 2
              · go_simp
                constructor
                · rfl
                · rfl
              have hsz := hHeld.1.lt
              refine hK.out _ _ ⟨hHeld.1.alloc _, hHeld.2.alloc hHeld.2.size _⟩ (fun hHeld => ?_)
              clear hK K
              refine norm_ (a' := ?_) ?_ ?_
              rotate_left
              · show Act.put _ (some 5) _ = _
                simp only [Act.put, List.setIfInBounds_toArray, List.set_cons_zero, List.set_cons_succ, i64_w, i32_w]
                rfl
              have h5 := Blk.new w5 53 #[.int .i64 0, .slice none 0 0, .slice none 0 0, .slice none 0 0]
              have o_R32_h5 : ∀ b, (Value.slice A32 q2.length k32).ownBlock = some b → b ≠ w5.heap.size := fun b hb => by have := Kd.R_lt R32.out b hb; omega
              replace R32 := Lib.hid (Kd.R_alloc R32.out (.cells #[.int .i64 0, .slice none 0 0, .slice none 0 0, .slice none 0 0] 53))
              have o_R36_h5 : ∀ b, (Value.slice A36 q3.length k36).ownBlock = some b → b ≠ w5.heap.size := fun b hb => by have := Kd.R_lt R36.out b hb; omega
              replace R36 := Lib.hid (Kd.R_alloc R36.out (.cells #[.int .i64 0, .slice none 0 0, .slice none 0 0, .slice none 0 0] 53))
              have l_h5 : w.heap.size < w5.heap.size := hsz
              clear hsz
              generalize hgg : w5.heap.size = b5 at h5 o_R32_h5 o_R36_h5 l_h5 ⊢
              clear hgg
              generalize w5.alloc (.cells #[.int .i64 0, .slice none 0 0, .slice none 0 0, .slice none 0 0] 53) = w6 at hHeld h5 R32 R36 ⊢
              have z0 := h5.cell 0
              have z1 := h5.cell 1
              have z2 := h5.cell 2
              have z3 := h5.cell 3
              simp at z0 z1 z2 z3
              have f0 := h5.frozen 0
              have f1 := h5.frozen 1
              have f2 := h5.frozen 2
              have f3 := h5.frozen 3
              refine last_ (i := 12) (N := none) #[true, true, true, true, true, true, true, true, true, true, true, true, true] rfl rfl (one_of HT_.out (by kernel_rfl)) (by decide) (fun K hK => ?_)
              refine skip_ (w1 := ?_) (by rfl) rfl ?_ ?_
              rotate_left
              · go_simp
                rfl
              refine hK.out _ _ ?_
              clear hK K
              refine done_ (done_of HT_.out (by kernel_rfl)) ?_
              try go_wp2
              go_meet
              case rel => exact ⟨b5, A32, k32, A36, k36, rfl, l_h5, leaf3 hHeld.1 hHeld.2 l_h5 h5 R32 R36 _ rfl⟩
            · skip
              refine value_ (w1 := ?_) (v := ?_) (by rfl) rfl ?_ ?_
              rotate_left 2
              · go_simp
                constructor
                · rfl
                · rfl
              have hsz := hHeld.1.lt
              refine hK.out _ _ ⟨hHeld.1.alloc _, hHeld.2.alloc hHeld.2.size _⟩ (fun hHeld => ?_)
              clear hK K
              refine norm_ (a' := ?_) ?_ ?_
              rotate_left
              · show Act.put _ (some 5) _ = _
                simp only [Act.put, List.setIfInBounds_toArray, List.set_cons_zero, List.set_cons_succ, i64_w, i32_w]
                rfl
              have h5 := Blk.new w4 53 #[.int .i64 0, .slice none 0 0, .slice none 0 0, .slice none 0 0]
              have e_h33 : g33 ≠ w4.heap.size := by have := h33.lt; omega
              replace h33 := h33.alloc (.cells #[.int .i64 0, .slice none 0 0, .slice none 0 0, .slice none 0 0] 53)
              have o_R32_h5 : ∀ b, (Value.slice A32 q2.length k32).ownBlock = some b → b ≠ w4.heap.size := fun b hb => by have := Kd.R_lt R32.out b hb; omega
              replace R32 := Lib.hid (Kd.R_alloc R32.out (.cells #[.int .i64 0, .slice none 0 0, .slice none 0 0, .slice none 0 0] 53))
              have l_h5 : w.heap.size < w4.heap.size := hsz
              clear hsz
              generalize hgg : w4.heap.size = b5 at h5 e_h33 o_R32_h5 l_h5 ⊢
              clear hgg
              generalize w4.alloc (.cells #[.int .i64 0, .slice none 0 0, .slice none 0 0, .slice none 0 0] 53) = w5 at hHeld h5 h33 R32 ⊢
              have n_h33_h5 := e_h33
              have n_h5_h33 := e_h33.symm
              clear e_h33
              refine one_ (i := 9) (N := some 36) #[true, true, true, true, true, true, true, true, true, true, false, true, false] rfl rfl (one_of HT_.out (by kernel_rfl)) (by decide) (fun K hK => ?_)
              refine step_app w (by rfl) (.tmp 33) (.tmp 35) rfl g33 A3 q3 c3 rfl rfl h33 (Nat.le_of_lt l_h33) (Kd.C_below HQ3.out hHeld.2) hl3b hHeld.2 ?_
              intro A36 k36 w6 r36 hb2 hgr hown
              have hCg : Chg [g33] w5 w6 := (Chg.refl _ _).grown hgr (by simp)
              have hX2 := hHeld.1.chg hCg (by simp; omega)
              have R36 := Lib.hid r36
              have t_h5 := h5.lt
              replace h5 := h5.chg hCg (by simpa using n_h5_h33)
              clear t_h5
              replace R32 := Lib.hid (Kd.R_grown2 R32.out rfl hgr (fun k_ e_ e2_ => o_R32_h33 k_ e2_.symm (Option.some.inj e_).symm))
              refine hK.out _ _ ⟨hX2, hb2⟩ (fun hHeld => ?_)
              clear hK K r36 hb2 hgr hown hCg hX2 h33
              refine norm_ (a' := ?_) ?_ ?_
              rotate_left
              · show Act.put _ (some 36) _ = _
                simp only [Act.put, List.setIfInBounds_toArray, List.set_cons_zero, List.set_cons_succ, i64_w, i32_w]
                rfl
              refine pure_ (i := 10) (N := some 37) (v := ?_) (a' := ?_) #[true, true, true, true, true, true, true, true, true, true, true, true, false] rfl rfl (any_of HT_.out (by kernel_rfl)) (fun _ _ _ h => h) (Or.inl ⟨by rfl, ?_⟩) ?_ ?_
              rotate_left
              · intro w'
                go_simp
                with_reducible rfl
              rotate_left
              · simp only [Act.put, List.setIfInBounds_toArray, List.set_cons_zero, List.set_cons_succ, i64_w, i32_w]
                rfl
              have z0 := h5.cell 0
              have z1 := h5.cell 1
              have z2 := h5.cell 2
              have z3 := h5.cell 3
              simp at z0 z1 z2 z3
              have f0 := h5.frozen 0
              have f1 := h5.frozen 1
              have f2 := h5.frozen 2
              have f3 := h5.frozen 3
              refine last_ (i := 12) (N := none) #[true, true, true, true, true, true, true, true, true, true, true, true, true] rfl rfl (one_of HT_.out (by kernel_rfl)) (by decide) (fun K hK => ?_)
              refine skip_ (w1 := ?_) (by rfl) rfl ?_ ?_
              rotate_left
              · go_simp
                rfl
              refine hK.out _ _ ?_
              clear hK K
              refine done_ (done_of HT_.out (by kernel_rfl)) ?_
              try go_wp2
              go_meet
              case rel => exact ⟨b5, A32, k32, A36, k36, rfl, l_h5, leaf3 hHeld.1 hHeld.2 l_h5 h5 R32 R36 _ rfl⟩
          · skip
            refine value_ (w1 := ?_) (v := ?_) (by rfl) rfl ?_ ?_
            rotate_left 2
            · go_simp
              constructor
              · rfl
              · rfl
            have hsz := hHeld.1.lt
            refine hK.out _ _ ⟨hHeld.1.alloc _, hHeld.2.alloc hHeld.2.size _⟩ (fun hHeld => ?_)
            clear hK K
            refine norm_ (a' := ?_) ?_ ?_
            rotate_left
            · show Act.put _ (some 5) _ = _
              simp only [Act.put, List.setIfInBounds_toArray, List.set_cons_zero, List.set_cons_succ, i64_w, i32_w]
              rfl
            have h5 := Blk.new w3 53 #[.int .i64 0, .slice none 0 0, .slice none 0 0, .slice none 0 0]
            have e_h29 : g29 ≠ w3.heap.size := by have := h29.lt; omega
            replace h29 := h29.alloc (.cells #[.int .i64 0, .slice none 0 0, .slice none 0 0, .slice none 0 0] 53)
            have e_h33 : g33 ≠ w3.heap.size := by have := h33.lt; omega
            replace h33 := h33.alloc (.cells #[.int .i64 0, .slice none 0 0, .slice none 0 0, .slice none 0 0] 53)
            have l_h5 : w.heap.size < w3.heap.size := hsz
            clear hsz
            generalize hgg : w3.heap.size = b5 at h5 e_h29 e_h33 l_h5 ⊢
            clear hgg
            generalize w3.alloc (.cells #[.int .i64 0, .slice none 0 0, .slice none 0 0, .slice none 0 0] 53) = w4 at hHeld h5 h29 h33 ⊢
            have n_h29_h5 := e_h29
            have n_h5_h29 := e_h29.symm
            clear e_h29
            have n_h33_h5 := e_h33
            have n_h5_h33 := e_h33.symm
            clear e_h33
            refine one_ (i := 5) (N := some 32) #[true, true, true, true, true, true, true, true, true, false, false, true, false] rfl rfl (one_of HT_.out (by kernel_rfl)) (by decide) (fun K hK => ?_)
            refine step_app w (by rfl) (.tmp 29) (.tmp 31) rfl g29 A2 q2 c2 rfl rfl h29 (Nat.le_of_lt l_h29) (Kd.C_below HQ2.out hHeld.2) hl2b hHeld.2 ?_
            intro A32 k32 w5 r32 hb2 hgr hown
            have hCg : Chg [g29] w4 w5 := (Chg.refl _ _).grown hgr (by simp)
            have hX2 := hHeld.1.chg hCg (by simp; omega)
            have R32 := Lib.hid r32
            have t_h33 := h33.lt
            replace h33 := h33.chg hCg (by simpa using n_h33_h29)
            have o_R32_h33 : ∀ b, (Value.slice A32 q2.length k32).ownBlock = some b → b ≠ g33 := fun b hb => by
              rcases hown b hb with e | e
              · rw [e]; exact n_h29_h33
              · omega
            clear t_h33
            have t_h5 := h5.lt
            replace h5 := h5.chg hCg (by simpa using n_h5_h29)
            clear t_h5
            refine hK.out _ _ ⟨hX2, hb2⟩ (fun hHeld => ?_)
            clear hK K r32 hb2 hgr hown hCg hX2 h29
            refine norm_ (a' := ?_) ?_ ?_
            rotate_left
            · show Act.put _ (some 32) _ = _
              simp only [Act.put, List.setIfInBounds_toArray, List.set_cons_zero, List.set_cons_succ, i64_w, i32_w]
              rfl
            refine one_ (i := 9) (N := some 36) #[true, true, true, true, true, true, true, true, true, true, false, true, false] rfl rfl (one_of HT_.out (by kernel_rfl)) (by decide) (fun K hK => ?_)
            refine step_app w (by rfl) (.tmp 33) (.tmp 35) rfl g33 A3 q3 c3 rfl rfl h33 (Nat.le_of_lt l_h33) (Kd.C_below HQ3.out hHeld.2) hl3b hHeld.2 ?_
            intro A36 k36 w6 r36 hb2 hgr hown
            have hCg : Chg [g33] w5 w6 := (Chg.refl _ _).grown hgr (by simp)
            have hX2 := hHeld.1.chg hCg (by simp; omega)
            have R36 := Lib.hid r36
            have t_h5 := h5.lt
            replace h5 := h5.chg hCg (by simpa using n_h5_h33)
            clear t_h5
            replace R32 := Lib.hid (Kd.R_grown2 R32.out rfl hgr (fun k_ e_ e2_ => o_R32_h33 k_ e2_.symm (Option.some.inj e_).symm))
            refine hK.out _ _ ⟨hX2, hb2⟩ (fun hHeld => ?_)
            clear hK K r36 hb2 hgr hown hCg hX2 h33
            refine norm_ (a' := ?_) ?_ ?_
            rotate_left
            · show Act.put _ (some 36) _ = _
              simp only [Act.put, List.setIfInBounds_toArray, List.set_cons_zero, List.set_cons_succ, i64_w, i32_w]
              rfl
            refine pure_ (i := 10) (N := some 37) (v := ?_) (a' := ?_) #[true, true, true, true, true, true, true, true, true, true, true, true, false] rfl rfl (any_of HT_.out (by kernel_rfl)) (fun _ _ _ h => h) (Or.inl ⟨by rfl, ?_⟩) ?_ ?_
            rotate_left
            · intro w'
              go_simp
              with_reducible rfl
            rotate_left
            · simp only [Act.put, List.setIfInBounds_toArray, List.set_cons_zero, List.set_cons_succ, i64_w, i32_w]
              rfl
            have z0 := h5.cell 0
            have z1 := h5.cell 1
            have z2 := h5.cell 2
            have z3 := h5.cell 3
            simp at z0 z1 z2 z3
            have f0 := h5.frozen 0
            have f1 := h5.frozen 1
            have f2 := h5.frozen 2
            have f3 := h5.frozen 3
            refine last_ (i := 12) (N := none) #[true, true, true, true, true, true, true, true, true, true, true, true, true] rfl rfl (one_of HT_.out (by kernel_rfl)) (by decide) (fun K hK => ?_)
            refine skip_ (w1 := ?_) (by rfl) rfl ?_ ?_
            rotate_left
            · go_simp
              rfl
            refine hK.out _ _ ?_
            clear hK K
            refine done_ (done_of HT_.out (by kernel_rfl)) ?_
            try go_wp2
            go_meet
            case rel => exact ⟨b5, A32, k32, A36, k36, rfl, l_h5, leaf3 hHeld.1 hHeld.2 l_h5 h5 R32 R36 _ rfl⟩
        · skip
          refine value_ (w1 := ?_) (v := ?_) (by rfl) rfl ?_ ?_
          rotate_left 2
          · go_simp
            constructor
            · rfl
            · rfl
          have hsz := hHeld.1.lt
          refine hK.out _ _ ⟨hHeld.1.alloc _, hHeld.2.alloc hHeld.2.size _⟩ (fun hHeld => ?_)
          clear hK K
          refine norm_ (a' := ?_) ?_ ?_
          rotate_left
          · show Act.put _ (some 5) _ = _
            simp only [Act.put, List.setIfInBounds_toArray, List.set_cons_zero, List.set_cons_succ, i64_w, i32_w]
            rfl
          have h5 := Blk.new w2 53 #[.int .i64 0, .slice none 0 0, .slice none 0 0, .slice none 0 0]
          have e_h33 : g33 ≠ w2.heap.size := by have := h33.lt; omega
          replace h33 := h33.alloc (.cells #[.int .i64 0, .slice none 0 0, .slice none 0 0, .slice none 0 0] 53)
          have l_h5 : w.heap.size < w2.heap.size := hsz
          clear hsz
          generalize hgg : w2.heap.size = b5 at h5 e_h33 l_h5 ⊢
          clear hgg
          generalize w2.alloc (.cells #[.int .i64 0, .slice none 0 0, .slice none 0 0, .slice none 0 0] 53) = w3 at hHeld h5 h33 ⊢
          have n_h33_h5 := e_h33
          have n_h5_h33 := e_h33.symm
          clear e_h33
          refine one_ (i := 2) (N := some 29) #[true, true, true, true, true, false, true, true, true, false, false, true, false] rfl rfl (one_of HT_.out (by kernel_rfl)) (by decide) (fun K hK => ?_)
          refine value_ (w1 := ?_) (v := ?_) (by rfl) rfl ?_ ?_
          rotate_left 2
          · go_simp
            constructor
            · rfl
            · rfl
          have hsz := hHeld.1.lt
          refine hK.out _ _ ⟨hHeld.1.alloc _, hHeld.2.alloc hHeld.2.size _⟩ (fun hHeld => ?_)
          clear hK K
          refine norm_ (a' := ?_) ?_ ?_
          rotate_left
          · show Act.put _ (some 29) _ = _
            simp only [Act.put, List.setIfInBounds_toArray, List.set_cons_zero, List.set_cons_succ, i64_w, i32_w]
            rfl
          have h29 := Blk.new w3 3 #[]
          have e_h33 : g33 ≠ w3.heap.size := by have := h33.lt; omega
          replace h33 := h33.alloc (.cells #[] 3)
          have e_h5 : b5 ≠ w3.heap.size := by have := h5.lt; omega
          replace h5 := h5.alloc (.cells #[] 3)
          have l_h29 : w.heap.size < w3.heap.size := hsz
          clear hsz
          generalize hgg : w3.heap.size = g29 at h29 e_h33 e_h5 l_h29 ⊢
          clear hgg
          generalize w3.alloc (.cells #[] 3) = w4 at hHeld h29 h33 h5 ⊢
          have n_h33_h29 := e_h33
          have n_h29_h33 := e_h33.symm
          clear e_h33
          have n_h5_h29 := e_h5
          have n_h29_h5 := e_h5.symm
          clear e_h5
          refine one_ (i := 5) (N := some 32) #[true, true, true, true, true, true, true, true, true, false, false, true, false] rfl rfl (one_of HT_.out (by kernel_rfl)) (by decide) (fun K hK => ?_)
          refine step_app w (by rfl) (.tmp 29) (.tmp 31) rfl g29 A2 q2 c2 rfl rfl h29 (Nat.le_of_lt l_h29) (Kd.C_below HQ2.out hHeld.2) hl2b hHeld.2 ?_
          intro A32 k32 w5 r32 hb2 hgr hown
          have hCg : Chg [g29] w4 w5 := (Chg.refl _ _).grown hgr (by simp)
          have hX2 := hHeld.1.chg hCg (by simp; omega)
          have R32 := Lib.hid r32
          have t_h33 := h33.lt
          replace h33 := h33.chg hCg (by simpa using n_h33_h29)
          have o_R32_h33 : ∀ b, (Value.slice A32 q2.length k32).ownBlock = some b → b ≠ g33 := fun b hb => by
            rcases hown b hb with e | e
            · rw [e]; exact n_h29_h33
            · omega
          clear t_h33
          have t_h5 := h5.lt
          replace h5 := h5.chg hCg (by simpa using n_h5_h29)
          clear t_h5
          refine hK.out _ _ ⟨hX2, hb2⟩ (fun hHeld => ?_)
          clear hK K r32 hb2 hgr hown hCg hX2 h29
          refine norm_ (a' := ?_) ?_ ?_
          rotate_left
          · show Act.put _ (some 32) _ = _
            simp only [Act.put, List.setIfInBounds_toArray, List.set_cons_zero, List.set_cons_succ, i64_w, i32_w]
            rfl
          refine one_ (i := 9) (N := some 36) #[true, true, true, true, true, true, true, true, true, true, false, true, false] rfl rfl (one_of HT_.out (by kernel_rfl)) (by decide) (fun K hK => ?_)
          refine step_app w (by rfl) (.tmp 33) (.tmp 35) rfl g33 A3 q3 c3 rfl rfl h33 (Nat.le_of_lt l_h33) (Kd.C_below HQ3.out hHeld.2) hl3b hHeld.2 ?_
          intro A36 k36 w6 r36 hb2 hgr hown
          have hCg : Chg [g33] w5 w6 := (Chg.refl _ _).grown hgr (by simp)
          have hX2 := hHeld.1.chg hCg (by simp; omega)
          have R36 := Lib.hid r36
          have t_h5 := h5.lt
          replace h5 := h5.chg hCg (by simpa using n_h5_h33)
          clear t_h5
          replace R32 := Lib.hid (Kd.R_grown2 R32.out rfl hgr (fun k_ e_ e2_ => o_R32_h33 k_ e2_.symm (Option.some.inj e_).symm))
          refine hK.out _ _ ⟨hX2, hb2⟩ (fun hHeld => ?_)
          clear hK K r36 hb2 hgr hown hCg hX2 h33
          refine norm_ (a' := ?_) ?_ ?_
          rotate_left
          · show Act.put _ (some 36) _ = _
            simp only [Act.put, List.setIfInBounds_toArray, List.set_cons_zero, List.set_cons_succ, i64_w, i32_w]
            rfl
          refine pure_ (i := 10) (N := some 37) (v := ?_) (a' := ?_) #[true, true, true, true, true, true, true, true, true, true, true, true, false] rfl rfl (any_of HT_.out (by kernel_rfl)) (fun _ _ _ h => h) (Or.inl ⟨by rfl, ?_⟩) ?_ ?_
          rotate_left
          · intro w'
            go_simp
            with_reducible rfl
          rotate_left
          · simp only [Act.put, List.setIfInBounds_toArray, List.set_cons_zero, List.set_cons_succ, i64_w, i32_w]
            rfl
          have z0 := h5.cell 0
          have z1 := h5.cell 1
          have z2 := h5.cell 2
          have z3 := h5.cell 3
          simp at z0 z1 z2 z3
          have f0 := h5.frozen 0
          have f1 := h5.frozen 1
          have f2 := h5.frozen 2
          have f3 := h5.frozen 3
          refine last_ (i := 12) (N := none) #[true, true, true, true, true, true, true, true, true, true, true, true, true] rfl rfl (one_of HT_.out (by kernel_rfl)) (by decide) (fun K hK => ?_)
          refine skip_ (w1 := ?_) (by rfl) rfl ?_ ?_
          rotate_left
          · go_simp
            rfl
          refine hK.out _ _ ?_
          clear hK K
          refine done_ (done_of HT_.out (by kernel_rfl)) ?_
          try go_wp2
          go_meet
          case rel => exact ⟨b5, A32, k32, A36, k36, rfl, l_h5, leaf3 hHeld.1 hHeld.2 l_h5 h5 R32 R36 _ rfl⟩
      · skip
        refine value_ (w1 := ?_) (v := ?_) (by rfl) rfl ?_ ?_
        rotate_left 2
        · go_simp
          constructor
          · rfl
          · rfl
        have hsz := hHeld.1.lt
        refine hK.out _ _ ⟨hHeld.1.alloc _, hHeld.2.alloc hHeld.2.size _⟩ (fun hHeld => ?_)
        clear hK K
        refine norm_ (a' := ?_) ?_ ?_
        rotate_left
        · show Act.put _ (some 5) _ = _
          simp only [Act.put, List.setIfInBounds_toArray, List.set_cons_zero, List.set_cons_succ, i64_w, i32_w]
          rfl
        have h5 := Blk.new w1 53 #[.int .i64 0, .slice none 0 0, .slice none 0 0, .slice none 0 0]
        have l_h5 : w.heap.size < w1.heap.size := hsz
        clear hsz
        generalize hgg : w1.heap.size = b5 at h5 l_h5 ⊢
        clear hgg
        generalize w1.alloc (.cells #[.int .i64 0, .slice none 0 0, .slice none 0 0, .slice none 0 0] 53) = w2 at hHeld h5 ⊢
        refine two_ (i := 2) (j := 6) (Ni := some 29) (Nj := some 33) #[true, true, true, true, true, false, false, true, true, false, false, true, false] #[true, true, false, true, true, false, true, true, true, false, false, true, false] rfl rfl rfl rfl (two_of HT_.out (by kernel_rfl)) (by decide) (by decide) (fun K hK => ?_) (fun K hK => ?_)
        · skip
          refine value_ (w1 := ?_) (v := ?_) (by rfl) rfl ?_ ?_
          rotate_left 2
          · go_simp
            constructor
            · rfl
            · rfl
          have hsz := hHeld.1.lt
          refine hK.out _ _ ⟨hHeld.1.alloc _, hHeld.2.alloc hHeld.2.size _⟩ (fun hHeld => ?_)
          clear hK K
          refine norm_ (a' := ?_) ?_ ?_
          rotate_left
          · show Act.put _ (some 29) _ = _
            simp only [Act.put, List.setIfInBounds_toArray, List.set_cons_zero, List.set_cons_succ, i64_w, i32_w]
            rfl
          have h29 := Blk.new w2 3 #[]
          have e_h5 : b5 ≠ w2.heap.size := by have := h5.lt; omega
          replace h5 := h5.alloc (.cells #[] 3)
          have l_h29 : w.heap.size < w2.heap.size := hsz
          clear hsz
          generalize hgg : w2.heap.size = g29 at h29 e_h5 l_h29 ⊢
          clear hgg
          generalize w2.alloc (.cells #[] 3) = w3 at hHeld h29 h5 ⊢
          have n_h5_h29 := e_h5
          have n_h29_h5 := e_h5.symm
          clear e_h5
          refine two_ (i := 5) (j := 6) (Ni := some 32) (Nj := some 33) #[true, true, true, true, true, true, false, true, true, false, false, true, false] #[true, true, true, true, true, false, true, true, true, false, false, true, false] rfl rfl rfl rfl (two_of HT_.out (by kernel_rfl)) (by decide) (by decide) (fun K hK => ?_) (fun K hK => ?_)
          · skip
            refine step_app w (by rfl) (.tmp 29) (.tmp 31) rfl g29 A2 q2 c2 rfl rfl h29 (Nat.le_of_lt l_h29) (Kd.C_below HQ2.out hHeld.2) hl2b hHeld.2 ?_
            intro A32 k32 w4 r32 hb2 hgr hown
            have hCg : Chg [g29] w3 w4 := (Chg.refl _ _).grown hgr (by simp)
            have hX2 := hHeld.1.chg hCg (by simp; omega)
            have R32 := Lib.hid r32
            have t_h5 := h5.lt
            replace h5 := h5.chg hCg (by simpa using n_h5_h29)
            clear t_h5
            refine hK.out _ _ ⟨hX2, hb2⟩ (fun hHeld => ?_)
            clear hK K r32 hb2 hgr hown hCg hX2 h29
            refine norm_ (a' := ?_) ?_ ?_
            rotate_left
            · show Act.put _ (some 32) _ = _
              simp only [Act.put, List.setIfInBounds_toArray, List.set_cons_zero, List.set_cons_succ, i64_w, i32_w]
              rfl
            refine one_ (i := 6) (N := some 33) #[true, true, true, true, true, true, true, true, true, false, false, true, false] rfl rfl (one_of HT_.out (by kernel_rfl)) (by decide) (fun K hK => ?_)
            refine value_ (w1 := ?_) (v := ?_) (by rfl) rfl ?_ ?_
            rotate_left 2
            · go_simp
              constructor
              · rfl
              · rfl
            have hsz := hHeld.1.lt
            refine hK.out _ _ ⟨hHeld.1.alloc _, hHeld.2.alloc hHeld.2.size _⟩ (fun hHeld => ?_)
            clear hK K
            refine norm_ (a' := ?_) ?_ ?_
            rotate_left
            · show Act.put _ (some 33) _ = _
              simp only [Act.put, List.setIfInBounds_toArray, List.set_cons_zero, List.set_cons_succ, i64_w, i32_w]
              rfl
            have h33 := Blk.new w4 3 #[]
            have e_h5 : b5 ≠ w4.heap.size := by have := h5.lt; omega
            replace h5 := h5.alloc (.cells #[] 3)
            have o_R32_h33 : ∀ b, (Value.slice A32 q2.length k32).ownBlock = some b → b ≠ w4.heap.size := fun b hb => by have := Kd.R_lt R32.out b hb; omega
            replace R32 := Lib.hid (Kd.R_alloc R32.out (.cells #[] 3))
            have l_h33 : w.heap.size < w4.heap.size := hsz
            clear hsz
            generalize hgg : w4.heap.size = g33 at h33 e_h5 o_R32_h33 l_h33 ⊢
            clear hgg
            generalize w4.alloc (.cells #[] 3) = w5 at hHeld h33 h5 R32 ⊢
            have n_h5_h33 := e_h5
            have n_h33_h5 := e_h5.symm
            clear e_h5
            refine one_ (i := 9) (N := some 36) #[true, true, true, true, true, true, true, true, true, true, false, true, false] rfl rfl (one_of HT_.out (by kernel_rfl)) (by decide) (fun K hK => ?_)
            refine step_app w (by rfl) (.tmp 33) (.tmp 35) rfl g33 A3 q3 c3 rfl rfl h33 (Nat.le_of_lt l_h33) (Kd.C_below HQ3.out hHeld.2) hl3b hHeld.2 ?_
            intro A36 k36 w6 r36 hb2 hgr hown
            have hCg : Chg [g33] w5 w6 := (Chg.refl _ _).grown hgr (by simp)
            have hX2 := hHeld.1.chg hCg (by simp; omega)
            have R36 := Lib.hid r36
            have t_h5 := h5.lt
            replace h5 := h5.chg hCg (by simpa using n_h5_h33)
            clear t_h5
            replace R32 := Lib.hid (Kd.R_grown2 R32.out rfl hgr (fun k_ e_ e2_ => o_R32_h33 k_ e2_.symm (Option.some.inj e_).symm))
            refine hK.out _ _ ⟨hX2, hb2⟩ (fun hHeld => ?_)
            clear hK K r36 hb2 hgr hown hCg hX2 h33
            refine norm_ (a' := ?_) ?_ ?_
            rotate_left
            · show Act.put _ (some 36) _ = _
              simp only [Act.put, List.setIfInBounds_toArray, List.set_cons_zero, List.set_cons_succ, i64_w, i32_w]
              rfl
            refine pure_ (i := 10) (N := some 37) (v := ?_) (a' := ?_) #[true, true, true, true, true, true, true, true, true, true, true, true, false] rfl rfl (any_of HT_.out (by kernel_rfl)) (fun _ _ _ h => h) (Or.inl ⟨by rfl, ?_⟩) ?_ ?_
            rotate_left
            · intro w'
              go_simp
              with_reducible rfl
            rotate_left
            · simp only [Act.put, List.setIfInBounds_toArray, List.set_cons_zero, List.set_cons_succ, i64_w, i32_w]
              rfl
            have z0 := h5.cell 0
            have z1 := h5.cell 1
            have z2 := h5.cell 2
            have z3 := h5.cell 3
            simp at z0 z1 z2 z3
            have f0 := h5.frozen 0
            have f1 := h5.frozen 1
            have f2 := h5.frozen 2
            have f3 := h5.frozen 3
            refine last_ (i := 12) (N := none) #[true, true, true, true, true, true, true, true, true, true, true, true, true] rfl rfl (one_of HT_.out (by kernel_rfl)) (by decide) (fun K hK => ?_)
            refine skip_ (w1 := ?_) (by rfl) rfl ?_ ?_
            rotate_left
            · go_simp
              rfl
            refine hK.out _ _ ?_
            clear hK K
            refine done_ (done_of HT_.out (by kernel_rfl)) ?_
            try go_wp2
            go_meet
            case rel => exact ⟨b5, A32, k32, A36, k36, rfl, l_h5, leaf3 hHeld.1 hHeld.2 l_h5 h5 R32 R36 _ rfl⟩
          · skip
            refine value_ (w1 := ?_) (v := ?_) (by rfl) rfl ?_ ?_
            rotate_left 2
            · go_simp
              constructor
              · rfl
              · rfl
            have hsz := hHeld.1.lt
            refine hK.out _ _ ⟨hHeld.1.alloc _, hHeld.2.alloc hHeld.2.size _⟩ (fun hHeld => ?_)
            clear hK K
            refine norm_ (a' := ?_) ?_ ?_
            rotate_left
            · show Act.put _ (some 33) _ = _
              simp only [Act.put, List.setIfInBounds_toArray, List.set_cons_zero, List.set_cons_succ, i64_w, i32_w]
              rfl
            have h33 := Blk.new w3 3 #[]
            have e_h29 : g29 ≠ w3.heap.size := by have := h29.lt; omega
            replace h29 := h29.alloc (.cells #[] 3)
            have e_h5 : b5 ≠ w3.heap.size := by have := h5.lt; omega
            replace h5 := h5.alloc (.cells #[] 3)
            have l_h33 : w.heap.size < w3.heap.size := hsz
            clear hsz
            generalize hgg : w3.heap.size = g33 at h33 e_h29 e_h5 l_h33 ⊢
            clear hgg
            generalize w3.alloc (.cells #[] 3) = w4 at hHeld h33 h29 h5 ⊢
            have n_h29_h33 := e_h29
            have n_h33_h29 := e_h29.symm
            clear e_h29
            have n_h5_h33 := e_h5
            have n_h33_h5 := e_h5.symm
            clear e_h5
            refine one_ (i := 5) (N := some 32) #[true, true, true, true, true, true, true, true, true, false, false, true, false] rfl rfl (one_of HT_.out (by kernel_rfl)) (by decide) (fun K hK => ?_)
            refine step_app w (by rfl) (.tmp 29) (.tmp 31) rfl g29 A2 q2 c2 rfl rfl h29 (Nat.le_of_lt l_h29) (Kd.C_below HQ2.out hHeld.2) hl2b hHeld.2 ?_
            intro A32 k32 w5 r32 hb2 hgr hown
            have hCg : Chg [g29] w4 w5 := (Chg.refl _ _).grown hgr (by simp)
            have hX2 := hHeld.1.chg hCg (by simp; omega)
            have R32 := Lib.hid r32
            have t_h33 := h33.lt
            replace h33 := h33.chg hCg (by simpa using n_h33_h29)
            have o_R32_h33 : ∀ b, (Value.slice A32 q2.length k32).ownBlock = some b → b ≠ g33 := fun b hb => by
              rcases hown b hb with e | e
              · rw [e]; exact n_h29_h33
              · omega
            clear t_h33
            have t_h5 := h5.lt
            replace h5 := h5.chg hCg (by simpa using n_h5_h29)
            clear t_h5
            refine hK.out _ _ ⟨hX2, hb2⟩ (fun hHeld => ?_)
            clear hK K r32 hb2 hgr hown hCg hX2 h29
            refine norm_ (a' := ?_) ?_ ?_
            rotate_left
            · show Act.put _ (some 32) _ = _
              simp only [Act.put, List.setIfInBounds_toArray, List.set_cons_zero, List.set_cons_succ, i64_w, i32_w]
              rfl
            refine one_ (i := 9) (N := some 36) #[true, true, true, true, true, true, true, true, true, true, false, true, false] rfl rfl (one_of HT_.out (by kernel_rfl)) (by decide) (fun K hK => ?_)
            refine step_app w (by rfl) (.tmp 33) (.tmp 35) rfl g33 A3 q3 c3 rfl rfl h33 (Nat.le_of_lt l_h33) (Kd.C_below HQ3.out hHeld.2) hl3b hHeld.2 ?_
            intro A36 k36 w6 r36 hb2 hgr hown
            have hCg : Chg [g33] w5 w6 := (Chg.refl _ _).grown hgr (by simp)
            have hX2 := hHeld.1.chg hCg (by simp; omega)
            have R36 := Lib.hid r36
            have t_h5 := h5.lt
            replace h5 := h5.chg hCg (by simpa using n_h5_h33)
            clear t_h5
            replace R32 := Lib.hid (Kd.R_grown2 R32.out rfl hgr (fun k_ e_ e2_ => o_R32_h33 k_ e2_.symm (Option.some.inj e_).symm))
            refine hK.out _ _ ⟨hX2, hb2⟩ (fun hHeld => ?_)
            clear hK K r36 hb2 hgr hown hCg hX2 h33
            refine norm_ (a' := ?_) ?_ ?_
            rotate_left
            · show Act.put _ (some 36) _ = _
              simp only [Act.put, List.setIfInBounds_toArray, List.set_cons_zero, List.set_cons_succ, i64_w, i32_w]
              rfl
            refine pure_ (i := 10) (N := some 37) (v := ?_) (a' := ?_) #[true, true, true, true, true, true, true, true, true, true, true, true, false] rfl rfl (any_of HT_.out (by kernel_rfl)) (fun _ _ _ h => h) (Or.inl ⟨by rfl, ?_⟩) ?_ ?_
            rotate_left
            · intro w'
              go_simp
              with_reducible rfl
            rotate_left
            · simp only [Act.put, List.setIfInBounds_toArray, List.set_cons_zero, List.set_cons_succ, i64_w, i32_w]
              rfl
            have z0 := h5.cell 0
            have z1 := h5.cell 1
            have z2 := h5.cell 2
            have z3 := h5.cell 3
            simp at z0 z1 z2 z3
            have f0 := h5.frozen 0
            have f1 := h5.frozen 1
            have f2 := h5.frozen 2
            have f3 := h5.frozen 3
            refine last_ (i := 12) (N := none) #[true, true, true, true, true, true, true, true, true, true, true, true, true] rfl rfl (one_of HT_.out (by kernel_rfl)) (by decide) (fun K hK => ?_)
            refine skip_ (w1 := ?_) (by rfl) rfl ?_ ?_
            rotate_left
            · go_simp
              rfl
            refine hK.out _ _ ?_
            clear hK K
            refine done_ (done_of HT_.out (by kernel_rfl)) ?_
            try go_wp2
            go_meet
            case rel => exact ⟨b5, A32, k32, A36, k36, rfl, l_h5, leaf3 hHeld.1 hHeld.2 l_h5 h5 R32 R36 _ rfl⟩
        · skip
          refine value_ (w1 := ?_) (v := ?_) (by rfl) rfl ?_ ?_
          rotate_left 2
          · go_simp
            constructor
            · rfl
            · rfl
          have hsz := hHeld.1.lt
          refine hK.out _ _ ⟨hHeld.1.alloc _, hHeld.2.alloc hHeld.2.size _⟩ (fun hHeld => ?_)
          clear hK K
          refine norm_ (a' := ?_) ?_ ?_
          rotate_left
          · show Act.put _ (some 33) _ = _
            simp only [Act.put, List.setIfInBounds_toArray, List.set_cons_zero, List.set_cons_succ, i64_w, i32_w]
            rfl
          have h33 := Blk.new w2 3 #[]
          have e_h5 : b5 ≠ w2.heap.size := by have := h5.lt; omega
          replace h5 := h5.alloc (.cells #[] 3)
          have l_h33 : w.heap.size < w2.heap.size := hsz
          clear hsz
          generalize hgg : w2.heap.size = g33 at h33 e_h5 l_h33 ⊢
          clear hgg
          generalize w2.alloc (.cells #[] 3) = w3 at hHeld h33 h5 ⊢
          have n_h5_h33 := e_h5
          have n_h33_h5 := e_h5.symm
          clear e_h5
          refine one_ (i := 2) (N := some 29) #[true, true, true, true, true, false, true, true, true, false, false, true, false] rfl rfl (one_of HT_.out (by kernel_rfl)) (by decide) (fun K hK => ?_)
          refine value_ (w1 := ?_) (v := ?_) (by rfl) rfl ?_ ?_
          rotate_left 2
          · go_simp
            constructor
            · rfl
            · rfl
          have hsz := hHeld.1.lt
          refine hK.out _ _ ⟨hHeld.1.alloc _, hHeld.2.alloc hHeld.2.size _⟩ (fun hHeld => ?_)
          clear hK K
          refine norm_ (a' := ?_) ?_ ?_
          rotate_left
          · show Act.put _ (some 29) _ = _
            simp only [Act.put, List.setIfInBounds_toArray, List.set_cons_zero, List.set_cons_succ, i64_w, i32_w]
            rfl
          have h29 := Blk.new w3 3 #[]
          have e_h33 : g33 ≠ w3.heap.size := by have := h33.lt; omega
          replace h33 := h33.alloc (.cells #[] 3)
          have e_h5 : b5 ≠ w3.heap.size := by have := h5.lt; omega
          replace h5 := h5.alloc (.cells #[] 3)
          have l_h29 : w.heap.size < w3.heap.size := hsz
          clear hsz
          generalize hgg : w3.heap.size = g29 at h29 e_h33 e_h5 l_h29 ⊢
          clear hgg
          generalize w3.alloc (.cells #[] 3) = w4 at hHeld h29 h33 h5 ⊢
          have n_h33_h29 := e_h33
          have n_h29_h33 := e_h33.symm
          clear e_h33
          have n_h5_h29 := e_h5
          have n_h29_h5 := e_h5.symm
          clear e_h5
          refine one_ (i := 5) (N := some 32) #[true, true, true, true, true, true, true, true, true, false, false, true, false] rfl rfl (one_of HT_.out (by kernel_rfl)) (by decide) (fun K hK => ?_)
          refine step_app w (by rfl) (.tmp 29) (.tmp 31) rfl g29 A2 q2 c2 rfl rfl h29 (Nat.le_of_lt l_h29) (Kd.C_below HQ2.out hHeld.2) hl2b hHeld.2 ?_
          intro A32 k32 w5 r32 hb2 hgr hown
          have hCg : Chg [g29] w4 w5 := (Chg.refl _ _).grown hgr (by simp)
          have hX2 := hHeld.1.chg hCg (by simp; omega)
          have R32 := Lib.hid r32
          have t_h33 := h33.lt
          replace h33 := h33.chg hCg (by simpa using n_h33_h29)
          have o_R32_h33 : ∀ b, (Value.slice A32 q2.length k32).ownBlock = some b → b ≠ g33 := fun b hb => by
            rcases hown b hb with e | e
            · rw [e]; exact n_h29_h33
            · omega
          clear t_h33
          have t_h5 := h5.lt
          replace h5 := h5.chg hCg (by simpa using n_h5_h29)
          clear t_h5
          refine hK.out _ _ ⟨hX2, hb2⟩ (fun hHeld => ?_)
          clear hK K r32 hb2 hgr hown hCg hX2 h29
          refine norm_ (a' := ?_) ?_ ?_
          rotate_left
          · show Act.put _ (some 32) _ = _
            simp only [Act.put, List.setIfInBounds_toArray, List.set_cons_zero, List.set_cons_succ, i64_w, i32_w]
            rfl
          refine one_ (i := 9) (N := some 36) #[true, true, true, true, true, true, true, true, true, true, false, true, false] rfl rfl (one_of HT_.out (by kernel_rfl)) (by decide) (fun K hK => ?_)
          refine step_app w (by rfl) (.tmp 33) (.tmp 35) rfl g33 A3 q3 c3 rfl rfl h33 (Nat.le_of_lt l_h33) (Kd.C_below HQ3.out hHeld.2) hl3b hHeld.2 ?_
          intro A36 k36 w6 r36 hb2 hgr hown
          have hCg : Chg [g33] w5 w6 := (Chg.refl _ _).grown hgr (by simp)
          have hX2 := hHeld.1.chg hCg (by simp; omega)
          have R36 := Lib.hid r36
          have t_h5 := h5.lt
          replace h5 := h5.chg hCg (by simpa using n_h5_h33)
          clear t_h5
          replace R32 := Lib.hid (Kd.R_grown2 R32.out rfl hgr (fun k_ e_ e2_ => o_R32_h33 k_ e2_.symm (Option.some.inj e_).symm))
          refine hK.out _ _ ⟨hX2, hb2⟩ (fun hHeld => ?_)
          clear hK K r36 hb2 hgr hown hCg hX2 h33
          refine norm_ (a' := ?_) ?_ ?_
          rotate_left
          · show Act.put _ (some 36) _ = _
            simp only [Act.put, List.setIfInBounds_toArray, List.set_cons_zero, List.set_cons_succ, i64_w, i32_w]
            rfl
          refine pure_ (i := 10) (N := some 37) (v := ?_) (a' := ?_) #[true, true, true, true, true, true, true, true, true, true, true, true, false] rfl rfl (any_of HT_.out (by kernel_rfl)) (fun _ _ _ h => h) (Or.inl ⟨by rfl, ?_⟩) ?_ ?_
          rotate_left
          · intro w'
            go_simp
            with_reducible rfl
          rotate_left
          · simp only [Act.put, List.setIfInBounds_toArray, List.set_cons_zero, List.set_cons_succ, i64_w, i32_w]
            rfl
          have z0 := h5.cell 0
          have z1 := h5.cell 1
          have z2 := h5.cell 2
          have z3 := h5.cell 3
          simp at z0 z1 z2 z3
          have f0 := h5.frozen 0
          have f1 := h5.frozen 1
          have f2 := h5.frozen 2
          have f3 := h5.frozen 3
          refine last_ (i := 12) (N := none) #[true, true, true, true, true, true, true, true, true, true, true, true, true] rfl rfl (one_of HT_.out (by kernel_rfl)) (by decide) (fun K hK => ?_)
          refine skip_ (w1 := ?_) (by rfl) rfl ?_ ?_
          rotate_left
          · go_simp
            rfl
          refine hK.out _ _ ?_
          clear hK K
          refine done_ (done_of HT_.out (by kernel_rfl)) ?_
          try go_wp2
          go_meet
          case rel => exact ⟨b5, A32, k32, A36, k36, rfl, l_h5, leaf3 hHeld.1 hHeld.2 l_h5 h5 R32 R36 _ rfl⟩
    case rest =>
      obtain ⟨b5, A32, k32, A36, k36, rfl, l_h5, h5, R32, R36, hbw, hX⟩ := hcut
      have hG : GS w wc b5 a q2 q3 A32 k32 A36 k36 #[.int .i64 a, .slice A1 m.length c1, .slice A2 q2.length c2, .slice A3 q3.length c3] (.slice none 0 0) (.slice none 0 0) [] := ⟨l_h5, h5, Kd.R_nil _ _ _ _ _, R32.out, R36.out, hbw, hX⟩
      have HG := Lib.hid hG
      clear hG l_h5 h5 R32 R36 hbw hX hb hx0 hx1
      go_wp2_with fail
      go_loopw [6] (fun i W => ∃ (n : Nat) (v : Value), n ≤ m.length ∧ i = .int .i64 n ∧ Hid (GS w W b5 a q2 q3 A32 k32 A36 k36 #[.int .i64 a, .slice A1 m.length c1, .slice A2 q2.length c2, .slice A3 q3.length c3] v v ((m.take n).map conv))) (fun i _ => m.length - (intOf i).toNat)
      case atStart => exact ⟨0, _, Nat.zero_le _, rfl, HG⟩
      case round =>
        clear HG
        obtain ⟨n, v, hn, rfl, HG⟩ := hrel
        have y0 := HG.out.X.cell 0
        have y1 := HG.out.X.cell 1
        simp at y0 y1
        by_cases hlt : n < m.length
        · have b0 : decide ((n : Int) < (m.length : Int)) = true := by simp; omega
          obtain ⟨ad, hA, x0, x1, x2, x3⟩ := at_T55 (Kd.C_below HC.out HG.out.b) n (by omega) (by omega)
          subst hA
          have er : rd_T55 m (n : Int) = m[n] := by simp [rd_T55, hlt]
          simp only [er, Int.toNat_natCast] at x0 x1 x2 x3
          have hx : ∃ x, m[n] = x := ⟨_, rfl⟩
          obtain ⟨x, hx⟩ := hx
          rw [hx] at x0 x1 x2 x3
          have HX := Lib.hid hx
          clear er hx hX
          go_upto_region 8 with fail
          have h7 := Blk.new wr 55 #[.int .i64 x.f0, .int .i64 x.f1, .int .i64 x.f2, .int .i64 x.f3]
          have HG7 := Lib.hid (HG.out.alloc (.cells #[.int .i64 x.f0, .int .i64 x.f1, .int .i64 x.f2, .int .i64 x.f3] 55))
          generalize hg7 : wr.heap.size = g7 at h7
          generalize wr.alloc (.cells #[.int .i64 x.f0, .int .i64 x.f1, .int .i64 x.f2, .int .i64 x.f3] 55) = w7 at h7 HG7 ⊢
          clear HG hg7 x0 x1 x2 x3 y0 y1 b0
          have z0 := h7.cell 0
          have z1 := h7.cell 1
          have z2 := h7.cell 2
          have z3 := h7.cell 3
          have z5 := HG7.out.h5.cell 1
          simp at z0 z1 z2 z3 z5
          have HL : Hid ((((m.take n).map conv).length + 1) * 32 ≤ 140737488355328) := Lib.hid (by
            have hlen : ((m.take n).map conv).length = n := by rw [List.length_map, List.length_take]; omega
            have hm := of_decide_eq_false b3
            omega)
          go_wp2_with (first | ((with_reducible refine gate_builtin (b := .append) (xs := #[.tmp 51, .tmp 61]) rfl ?_); at_builtin; refine Kd.R_append k56 (w0 := w) w.heap.size rfl (.tmp 51) (.tmp 61) 51 56 (.agg #[(.int .i64 0), (.int .i64 0), (.int .i64 0), (.int .i64 0)]) 32 rfl Try.underlying51 info56 rfl (by decide) (by omega) v ((m.take n).map conv) (conv x) [.int .i64 x.f0, .int .i64 x.f1, .int .i64 x.f2, .int .i64 x.f3] (fun _ => True) (fun _ => False) rfl rfl (k56_mkM _ _ _ (conv x)) (fun _ hk => hk.elim) (fun _ _ => trivial) HG7.out.R HG7.out.b HG7.out.b.size HL.out ?_; intro v1 w1 ho1 hb1 hg1 hat1; obtain ⟨A8, k8, rfl⟩ := Kd.R_slice ho1; have HG8 := Lib.hid (HG7.out.grown hg1 ho1 hb1); have zz := HG8.out.h5.cell 1; have zf := HG8.out.h5.frozen 1; simp at zz))
          have hx2 := HX.out
          have eT : (m.take n).map conv ++ [conv x] = (m.take (n + 1)).map conv := by
            rw [← hx2, List.take_add_one, List.map_append]
            simp [hlt]
          have eL : ((m.take n).map conv ++ [conv x]).length = n + 1 := by
            rw [eT, List.length_map, List.length_take]
            omega
          rw [eL, eT] at HG8
          have HG9 := Lib.hid (HG8.out.store (v' := .slice A8 (n + 1) k8))
          have hwn : wrap64 ((n : Int) + 1) = (n : Int) + 1 := by
            have hm := of_decide_eq_false b3
            exact wrap_nat n (by omega)
          clear eL eT
          go_roundw
          case rel => exact ⟨n + 1, _, by omega, by rw [hwn]; rfl, HG9⟩
          case measure =>
            rw [hwn]
            clear hwn
            simp [intOf]
            omega
        · have b0 : decide ((n : Int) < (m.length : Int)) = false := by simp; omega
          obtain rfl : n = m.length := by omega
          rw [List.take_length] at HG
          go_upto_region 9 with fail
          clear b0 y0 y1 hlt hn hX
          have z5 := HG.out.h5.cell 1
          simp at z5
          have HL : Hid (((m.map conv).length + 1) * 32 ≤ 140737488355328) := Lib.hid (by
            have hm := of_decide_eq_false b3
            rw [List.length_map]
            omega)
          go_upto_region 10 with (first | ((with_reducible refine gate_builtin (b := .append) (xs := #[.tmp 65, .tmp 67]) rfl ?_); at_builtin; refine Kd.R_append k56 (w0 := w) w.heap.size rfl (.tmp 65) (.tmp 67) 51 56 (.agg #[(.int .i64 0), (.int .i64 0), (.int .i64 0), (.int .i64 0)]) 32 rfl Try.underlying51 info56 rfl (by decide) (by omega) v (m.map conv) (⟨-77, 0, 0, 0⟩ : S56) [.int .i64 (-77), .int .i64 0, .int .i64 0, .int .i64 0] (fun _ => True) (fun _ => False) rfl rfl (k56_mkM _ _ _ (⟨-77, 0, 0, 0⟩ : S56)) (fun _ hk => hk.elim) (fun _ _ => trivial) HG.out.R HG.out.b HG.out.b.size HL.out ?_; intro v1 w1 ho1 hb1 hg1 hat1; obtain ⟨g8, k8, rfl, hg8, hg8l, hc8⟩ := Kd.R_form ho1 (by simp); have HG8 := Lib.hid (HG.out.grown hg1 ho1 hb1); have zz := HG8.out.h5.cell 1; have zf := HG8.out.h5.frozen 1; simp at zz))
          have hfl : (m.map conv ++ [(⟨-77, 0, 0, 0⟩ : S56)]).length = m.length + 1 := by simp
          have hk8 := (Kd.R_reads' ho1).2.1
          rw [hfl] at hk8 HG8
          have HG9 := Lib.hid (HG8.out.store (v' := .slice (some ⟨g8, 0, none⟩) (m.length + 1) k8))
          generalize w1.setCell ⟨b5, 1, none⟩ (.slice (some ⟨g8, 0, none⟩) (m.length + 1) k8) = w9 at HG9 ⊢
          clear HG HG8 z5 zz zf ho1 hat1 hg1 hb1 hc8 hfl HL hg8l
          have y0 := HG9.out.X.cell 1
          have z5 := HG9.out.h5.cell 1
          have zf := HG9.out.h5.frozen 1
          simp at y0 z5
          have b8 : m.length ≤ k8 := by omega
          go_upto_region 11 with fail
          have HG10 := Lib.hid (HG9.out.store (v' := .slice (some ⟨g8, 0, none⟩) m.length k8))
          generalize w9.setCell ⟨b5, 1, none⟩ (.slice (some ⟨g8, 0, none⟩) m.length k8) = w10 at HG10 ⊢
          clear HG9 y0 z5 zf
          have z0 := HG10.out.h5.cell 0
          have z1 := HG10.out.h5.cell 1
          have z2 := HG10.out.h5.cell 2
          have z3 := HG10.out.h5.cell 3
          simp at z0 z1 z2 z3
          have hm := of_decide_eq_false b3
          have hm2 : m.length ≤ 65536 := by omega
          obtain ⟨r, err, ⟨kr, hkr⟩, hrl, hway⟩ := way_both a m s q2 q3 hm2 g8 k8 (m.map conv) rfl A32 A36 k32 k36 w10 (by
            have h := Kd.C_take (Kd.R_reads' HG10.out.R).2.2 (show m.length ≤ _ by simp)
            rw [List.take_append_of_le_length (by simp), List.take_of_length_le (by simp)] at h
            exact h) (by rw [List.length_map]; exact b8) (Kd.R_reads' HG10.out.R32).2.2 (Kd.R_reads' HG10.out.R32).2.1 (Kd.R_reads' HG10.out.R36).2.2 (Kd.R_reads' HG10.out.R36).2.1
          rw [List.length_map] at hway
          have HK := Lib.hid hkr
          have HWay := Lib.hid hway
          clear hm hkr hway
          go_wp2_with fail
          refine HWay.out.mono ?_
          rintro e w11 ⟨v0, rfl, hRv, hb11⟩
          have HG11 := Lib.hid (HG10.out.below hb11)
          have HV := Lib.hid (Kd.R_lower hRv HG10.out.b.size)
          have hnew : ∀ k, v0.ownBlock = some k → w10.heap.size ≤ k := fun k hk => Kd.R_base hRv k hk
          have hl10 : ∀ k, (Value.slice (some ⟨g8, 0, none⟩) (m.length + 1) k8).ownBlock = some k ∨ (Value.slice A32 q2.length k32).ownBlock = some k ∨ (Value.slice A36 q3.length k36).ownBlock = some k ∨ k = b5 ∨ k = w.heap.size → k < w10.heap.size := by
            rintro k (h | h | h | rfl | rfl)
            · exact Kd.R_lt HG10.out.R k h
            · exact Kd.R_lt HG10.out.R32 k h
            · exact Kd.R_lt HG10.out.R36 k h
            · exact HG10.out.h5.lt
            · exact HG10.out.X.lt
          have HN : Hid (∀ k, v0.ownBlock = some k → w.heap.size < k ∧ k ≠ b5 ∧ some k ≠ (Value.slice (some ⟨g8, 0, none⟩) (m.length + 1) k8).ownBlock ∧ some k ≠ (Value.slice A32 q2.length k32).ownBlock ∧ some k ≠ (Value.slice A36 q3.length k36).ownBlock) := Lib.hid (fun k hk => by
            have h0 := hnew k hk
            refine ⟨?_, ?_, fun e => ?_, fun e => ?_, fun e => ?_⟩
            · have := hl10 w.heap.size (by simp); omega
            · have := hl10 b5 (by simp); omega
            · have := hl10 k (.inl e.symm); omega
            · have := hl10 k (.inr (.inl e.symm)); omega
            · have := hl10 k (.inr (.inr (.inl e.symm))); omega)
          clear HG10 hRv hb11 hnew hl10 z0 z1 z2 z3 HWay
          have y0 := HG11.out.X.cell 0
          have y1 := HG11.out.X.cell 1
          have y2 := HG11.out.X.cell 2
          have y3 := HG11.out.X.cell 3
          simp at y0 y1 y2 y3
          go_wp2_with fail
          refine (chordmailref27_Way.calls kr a A1 c1 m A2 c2 q2 A3 c3 q3 s r err w11 (Kd.C_below HC.out HG11.out.b) hcc (Kd.C_below HQ2.out HG11.out.b) hl2 (Kd.C_below HQ3.out HG11.out.b) hl3 HK.out).mono ?_
          rintro e w12 ⟨vw, rfl, hRw, hb12⟩
          have HG12 := Lib.hid (HG11.out.below hb12)
          have HV12 := Lib.hid (Kd.R_below HV.out hb12)
          obtain ⟨Aw, cw, rfl⟩ := Kd.R_slice hRw
          obtain ⟨A0, c0, rfl⟩ := Kd.R_slice HV.out
          have HW := Lib.hid hRw
          obtain ⟨ks, hks⟩ := steps_ok r hrl
          have HKS := Lib.hid hks
          clear HG11 HV hRw hb12 y0 y1 y2 y3 hks
          go_wp2_with fail
          have hst := (chordmaillaw27_steps.calls ks A0 c0 (r.map conv) Aw cw r true w12 (Kd.R_reads' HV12.out).2.2 (Kd.R_reads' HV12.out).2.1 (Kd.R_reads' HW.out).2.2 (Kd.R_reads' HW.out).2.1 HKS.out)
          rw [List.length_map] at hst
          refine hst.mono ?_
          rintro e w13 ⟨rfl, hd⟩
          have HG13 := Lib.hid (HG12.out.below hd.below)
          have HV13 := Lib.hid (Kd.R_below HV12.out hd.below)
          clear HG12 HV12 HW HKS hd
          have be : (err != err) = false := by simp
          rw [List.length_map] at HV13 HN
          go_wp2_with fail
          go_loopw [12] (fun i W => ∃ n : Nat, n ≤ r.length ∧ i = .int .i64 n ∧ Hid (GS w W b5 a q2 q3 A32 k32 A36 k36 #[.int .i64 a, .slice A1 m.length c1, .slice A2 q2.length c2, .slice A3 q3.length c3] (.slice (some ⟨g8, 0, none⟩) m.length k8) (.slice (some ⟨g8, 0, none⟩) (m.length + 1) k8) (m.map conv ++ [⟨-77, 0, 0, 0⟩])) ∧ ∃ rs : List S56, rs.length = r.length ∧ Hid (Kd.R k56 56 W w.heap.size (fun _ => True) (.slice A0 r.length c0) rs)) (fun i _ => r.length - (intOf i).toNat)
          case atStart => exact ⟨0, Nat.zero_le _, rfl, HG13, _, by simp, HV13⟩
          case round =>
            clear HG13 HV13
            obtain ⟨n, hn, rfl, HGr, rs, hrs, HR⟩ := hrel
            by_cases hlt : n < r.length
            · have b0 : decide ((n : Int) < (r.length : Int)) = true := by simp; omega
              clear hst be
              obtain ⟨g0, cap0, hv0, hg0, hg0l, _⟩ := Kd.R_form HR.out (by omega)
              injection hv0 with e1 e2 e3
              subst e1
              have hns : n < rs.length := by omega
              have hC := (Kd.R_reads' HR.out).2.2
              obtain ⟨x0, x1, x2, x3⟩ := row_at hC n hns
              have HCC : Hid (∀ j u, [(.int .i64 rs[n].f0 : Value), .int .i64 rs[n].f1, .int .i64 rs[n].f2, .int .i64 rs[n].f3][j]? = some u → wr.cell? ⟨g0, (n : Int).toNat * k56.sz + j, none⟩ = some u) := Lib.hid (by
                intro j u hu
                rcases j with _ | _ | _ | _ | j
                · simp at hu; subst hu; exact x0
                · simp at hu; subst hu; exact x1
                · simp at hu; subst hu; exact x2
                · simp at hu; subst hu; exact x3
                · simp at hu)
              have hwn : wrap64 ((n : Int) + 1) = (n : Int) + 1 := wrap_nat n (by omega)
              have HWN := Lib.hid hwn
              have hu56 := Try.underlying56
              clear x0 x1 x2 x3 hC hwn e2 e3
              go_wp2_with (first | ((with_reducible refine gate_ (.store 56 (.tmp 107) (.tmp 106)) rfl ?_); refine Kd.R_store k56 (w0 := w) w.heap.size rfl rfl 56 (.tmp 107) (.tmp 106) rfl 56 (g := g0) (n := r.length) (cap := c0) (n : Int) 0 rs ⟨-9, 0, 0, 0⟩ (.agg #[.int .i64 (-9), .int .i64 0, .int .i64 0, .int .i64 0]) [.int .i64 (-9), .int .i64 0, .int .i64 0, .int .i64 0] [.int .i64 rs[n].f0, .int .i64 rs[n].f1, .int .i64 rs[n].f2, .int .i64 rs[n].f3] (fun _ => True) (fun _ => False) rfl rfl rfl rfl size56 ?hone HR.out (by omega) (by omega) rfl HCC.out (by decide) (k56_mkM _ _ _ (⟨-9, 0, 0, 0⟩ : S56)) (fun _ h => h.elim) HGr.out.b ?_; (case hone => simp [Value.oneCell']); intro w14 hR14 hb14 hg14))
              have HG14 := Lib.hid (HGr.out.other hg14 (fun k e => HN.out k e))
              have HR14 := Lib.hid hR14
              clear hR14 hb14 hg14 HGr HR HCC
              have hwn := HWN.out
              go_roundw
              all_goals clear hwn
              case rel => exact ⟨n + 1, by omega, rfl, HG14, _, by simp [hrs], HR14⟩
              case measure =>
                simp [intOf]
                omega
            · have b0 : decide ((n : Int) < (r.length : Int)) = false := by simp; omega
              obtain rfl : n = r.length := by omega
              go_upto_region 19 with fail
              have hm := of_decide_eq_false b3
              have hm6 : m.length < 4611686018427387904 := by omega
              have hm7 : -9223372036854775808 ≤ (m.length : Int) ∧ (m.length : Int) ≤ 9223372036854775807 := by omega
              have hlt9 : (m.length : Int) < (m.length : Int) + 1 := by omega
              have hcut9 : 0 ≤ (m.length : Int) + 1 ∧ (m.length : Int) + 1 ≤ (k8 : Int) := by omega
              have hw1 : wrap64 ((m.length : Int) + 1) = (m.length : Int) + 1 := wrap_nat m.length hm6
              have hw2 : wrap64 (m.length : Int) = (m.length : Int) := w64 (m.length : Int) hm7
              clear hm hst be b0 hlt hn
              refine start_ (n := 43) (S := fun w' => GS w w' b5 a q2 q3 A32 k32 A36 k36 #[.int .i64 a, .slice A1 m.length c1, .slice A2 q2.length c2, .slice A3 q3.length c3] (.slice (some ⟨g8, 0, none⟩) m.length k8) (.slice (some ⟨g8, 0, none⟩) (m.length + 1) k8) (m.map conv ++ [⟨-77, 0, 0, 0⟩])) (ds := []) #[false, false, false, false, false, false, false, false, false, false, false, false, false, false, false, false, false, false, false, false, false, false, false, false, false, false, false, false, false, false, false, false, false, false, false, false, false, false, false, false, false, false, false] (by kernel_rfl) rfl rfl HGr.out.drew (fun hHeld => ?_)
              refine with_tabW tab19 bits19 (fun HT_ HW_ => ?_)
              generalize wr.drew = w20 at hHeld ⊢
              clear HGr HR
              refine pure_ (i := 0) (N := some 108) (v := ?_) (a' := ?_) #[true, false, false, false, false, false, false, false, false, false, false, false, false, false, false, false, false, false, false, false, false, false, false, false, false, false, false, false, false, false, false, false, false, false, false, false, false, false, false, false, false, false, false] rfl rfl (any_of HT_.out (by kernel_rfl)) (fun _ _ _ h => h) (Or.inl ⟨by rfl, ?_⟩) ?_ ?_
              rotate_left
              · intro w'
                go_simp
                with_reducible rfl
              rotate_left
              · simp only [Act.put, List.setIfInBounds_toArray, List.set_cons_zero, List.set_cons_succ, i64_w, i32_w]
                rfl
              refine take_ (i := 1) (N := some 109) (v := ?_) (a' := ?_) #[true, true, false, false, false, false, false, false, false, false, false, false, false, false, false, false, false, false, false, false, false, false, false, false, false, false, false, false, false, false, false, false, false, false, false, false, false, false, false, false, false, false, false] rfl rfl (take_ofW HT_.out HW_.out (by kernel_rfl)) (fun _ _ _ h => h) (Or.inl ⟨by rfl, ?_⟩) hHeld ?_ ?_
              rotate_left
              · intro w' HS_
                have t_ := HS_.h5.cell 1
                simp at t_
                go_simp
                with_reducible rfl
              rotate_left
              · simp only [Act.put, List.setIfInBounds_toArray, List.set_cons_zero, List.set_cons_succ, i64_w, i32_w]
                rfl
              refine pure_ (i := 2) (N := some 110) (v := ?_) (a' := ?_) #[true, true, true, false, false, false, false, false, false, false, false, false, false, false, false, false, false, false, false, false, false, false, false, false, false, false, false, false, false, false, false, false, false, false, false, false, false, false, false, false, false, false, false] rfl rfl (any_of HT_.out (by kernel_rfl)) (fun _ _ _ h => h) (Or.inl ⟨by rfl, ?_⟩) ?_ ?_
              rotate_left
              · intro w'
                go_simp
                with_reducible rfl
              rotate_left
              · simp only [Act.put, List.setIfInBounds_toArray, List.set_cons_zero, List.set_cons_succ, i64_w, i32_w]
                rfl
              refine take_ (i := 3) (N := some 111) (v := ?_) (a' := ?_) #[true, true, true, true, false, false, false, false, false, false, false, false, false, false, false, false, false, false, false, false, false, false, false, false, false, false, false, false, false, false, false, false, false, false, false, false, false, false, false, false, false, false, false] rfl rfl (take_ofW HT_.out HW_.out (by kernel_rfl)) (fun _ _ _ h => h) (Or.inl ⟨by rfl, ?_⟩) hHeld ?_ ?_
              rotate_left
              · intro w' HS_
                have t_ := HS_.X.cell 1
                simp at t_
                go_simp
                with_reducible rfl
              rotate_left
              · simp only [Act.put, List.setIfInBounds_toArray, List.set_cons_zero, List.set_cons_succ, i64_w, i32_w]
                rfl
              refine one_ (i := 4) (N := some 112) #[true, true, true, true, true, false, false, false, false, false, false, false, false, false, false, false, false, false, false, false, false, false, false, false, false, false, false, false, false, false, false, false, false, false, false, false, false, false, false, false, false, false, false] rfl rfl (one_of HT_.out (by kernel_rfl)) (by decide) (fun K hK => ?_)
              refine goes_ Try.func18 (by kernel_rfl) rfl #[.slice (some ⟨g8, 0, none⟩) m.length k8, .slice A1 m.length c1] (by rfl) rfl rfl (by simp only [List.map_toArray, List.map_cons, List.map_nil]; rfl) ?_
              refine (GS.cmp hHeld HC.out hcc hm2 b8).mono ?_
              rintro e w21 ⟨rfl, hd⟩
              refine ⟨_, rfl, ?_⟩
              refine hK.out _ _ (hHeld.below hd.below) (fun hHeld => ?_)
              clear hK K hd
              refine norm_ (a' := ?_) ?_ ?_
              rotate_left
              · show Act.put _ (some 112) _ = _
                simp only [Act.put, List.setIfInBounds_toArray, List.set_cons_zero, List.set_cons_succ, i64_w, i32_w]
                rfl
              refine pure_ (i := 5) (N := some 113) (v := ?_) (a' := ?_) #[true, true, true, true, true, true, false, false, false, false, false, false, false, false, false, false, false, false, false, false, false, false, false, false, false, false, false, false, false, false, false, false, false, false, false, false, false, false, false, false, false, false, false] rfl rfl (any_of HT_.out (by kernel_rfl)) (fun _ _ _ h => h) (Or.inl ⟨by rfl, ?_⟩) ?_ ?_
              rotate_left
              · intro w'
                go_simp
                with_reducible rfl
              rotate_left
              · simp only [Act.put, List.setIfInBounds_toArray, List.set_cons_zero, List.set_cons_succ, i64_w, i32_w]
                rfl
              refine pure_ (i := 6) (N := some 114) (v := ?_) (a' := ?_) #[true, true, true, true, true, true, true, false, false, false, false, false, false, false, false, false, false, false, false, false, false, false, false, false, false, false, false, false, false, false, false, false, false, false, false, false, false, false, false, false, false, false, false] rfl rfl (any_of HT_.out (by kernel_rfl)) (fun _ _ _ h => h) (Or.inl ⟨by rfl, ?_⟩) ?_ ?_
              rotate_left
              · intro w'
                go_simp
                with_reducible rfl
              rotate_left
              · simp only [Act.put, List.setIfInBounds_toArray, List.set_cons_zero, List.set_cons_succ, i64_w, i32_w]
                rfl
              refine take_ (i := 7) (N := some 115) (v := ?_) (a' := ?_) #[true, true, true, true, true, true, true, true, false, false, false, false, false, false, false, false, false, false, false, false, false, false, false, false, false, false, false, false, false, false, false, false, false, false, false, false, false, false, false, false, false, false, false] rfl rfl (take_ofW HT_.out HW_.out (by kernel_rfl)) (fun _ _ _ h => h) (Or.inl ⟨by rfl, ?_⟩) hHeld ?_ ?_
              rotate_left
              · intro w' HS_
                have t_ := HS_.h5.cell 1
                simp at t_
                go_simp
                with_reducible rfl
              rotate_left
              · simp only [Act.put, List.setIfInBounds_toArray, List.set_cons_zero, List.set_cons_succ, i64_w, i32_w]
                rfl
              refine pure_ (i := 8) (N := some 116) (v := ?_) (a' := ?_) #[true, true, true, true, true, true, true, true, true, false, false, false, false, false, false, false, false, false, false, false, false, false, false, false, false, false, false, false, false, false, false, false, false, false, false, false, false, false, false, false, false, false, false] rfl rfl (any_of HT_.out (by kernel_rfl)) (fun _ _ _ h => h) (Or.inl ⟨by rfl, ?_⟩) ?_ ?_
              rotate_left
              · intro w'
                go_simp
                with_reducible rfl
              rotate_left
              · simp only [Act.put, List.setIfInBounds_toArray, List.set_cons_zero, List.set_cons_succ, i64_w, i32_w]
                rfl
              refine take_ (i := 9) (N := some 117) (v := ?_) (a' := ?_) #[true, true, true, true, true, true, true, true, true, true, false, false, false, false, false, false, false, false, false, false, false, false, false, false, false, false, false, false, false, false, false, false, false, false, false, false, false, false, false, false, false, false, false] rfl rfl (take_ofW HT_.out HW_.out (by kernel_rfl)) (fun _ _ _ h => h) (Or.inl ⟨by rfl, ?_⟩) hHeld ?_ ?_
              rotate_left
              · intro w' HS_
                have t_ := HS_.X.cell 1
                simp at t_
                go_simp
                with_reducible rfl
              rotate_left
              · simp only [Act.put, List.setIfInBounds_toArray, List.set_cons_zero, List.set_cons_succ, i64_w, i32_w]
                rfl
              refine pure_ (i := 10) (N := some 118) (v := ?_) (a' := ?_) #[true, true, true, true, true, true, true, true, true, true, true, false, false, false, false, false, false, false, false, false, false, false, false, false, false, false, false, false, false, false, false, false, false, false, false, false, false, false, false, false, false, false, false] rfl rfl (any_of HT_.out (by kernel_rfl)) (fun _ _ _ h => h) (Or.inl ⟨by rfl, ?_⟩) ?_ ?_
              rotate_left
              · intro w'
                go_simp
                with_reducible rfl
              rotate_left
              · simp only [Act.put, List.setIfInBounds_toArray, List.set_cons_zero, List.set_cons_succ, i64_w, i32_w]
                rfl
              refine pure_ (i := 11) (N := some 119) (v := ?_) (a' := ?_) #[true, true, true, true, true, true, true, true, true, true, true, true, false, false, false, false, false, false, false, false, false, false, false, false, false, false, false, false, false, false, false, false, false, false, false, false, false, false, false, false, false, false, false] rfl rfl (any_of HT_.out (by kernel_rfl)) (fun _ _ _ h => h) (Or.inl ⟨by rfl, ?_⟩) ?_ ?_
              rotate_left
              · intro w'
                go_simp
                with_reducible rfl
              rotate_left
              · simp only [Act.put, List.setIfInBounds_toArray, List.set_cons_zero, List.set_cons_succ, i64_w, i32_w]
                rfl
              refine pure_ (i := 12) (N := some 120) (v := ?_) (a' := ?_) #[true, true, true, true, true, true, true, true, true, true, true, true, true, false, false, false, false, false, false, false, false, false, false, false, false, false, false, false, false, false, false, false, false, false, false, false, false, false, false, false, false, false, false] rfl rfl (any_of HT_.out (by kernel_rfl)) (fun _ _ _ h => h) (Or.inl ⟨by rfl, ?_⟩) ?_ ?_
              rotate_left
              · intro w'
                go_simp
                with_reducible rfl
              rotate_left
              · simp only [Act.put, List.setIfInBounds_toArray, List.set_cons_zero, List.set_cons_succ, i64_w, i32_w]
                rfl
              refine pure_ (i := 13) (N := some 121) (v := ?_) (a' := ?_) #[true, true, true, true, true, true, true, true, true, true, true, true, true, true, false, false, false, false, false, false, false, false, false, false, false, false, false, false, false, false, false, false, false, false, false, false, false, false, false, false, false, false, false] rfl rfl (any_of HT_.out (by kernel_rfl)) (fun _ _ _ h => h) (Or.inl ⟨by rfl, ?_⟩) ?_ ?_
              rotate_left
              · intro w'
                go_simp
                with_reducible rfl
              rotate_left
              · simp only [Act.put, List.setIfInBounds_toArray, List.set_cons_zero, List.set_cons_succ, i64_w, i32_w]
                rfl
              refine take_ (i := 14) (N := some 122) (v := ?_) (a' := ?_) #[true, true, true, true, true, true, true, true, true, true, true, true, true, true, true, false, false, false, false, false, false, false, false, false, false, false, false, false, false, false, false, false, false, false, false, false, false, false, false, false, false, false, false] rfl rfl (take_ofW HT_.out HW_.out (by kernel_rfl)) (fun _ _ _ h => h) (Or.inl ⟨by rfl, ?_⟩) hHeld ?_ ?_
              rotate_left
              · intro w' HS_
                have t_ := HS_.X.cell 1
                simp at t_
                go_simp
                with_reducible rfl
              rotate_left
              · simp only [Act.put, List.setIfInBounds_toArray, List.set_cons_zero, List.set_cons_succ, i64_w, i32_w]
                rfl
              refine pure_ (i := 15) (N := some 123) (v := ?_) (a' := ?_) #[true, true, true, true, true, true, true, true, true, true, true, true, true, true, true, true, false, false, false, false, false, false, false, false, false, false, false, false, false, false, false, false, false, false, false, false, false, false, false, false, false, false, false] rfl rfl (any_of HT_.out (by kernel_rfl)) (fun _ _ _ h => h) (Or.inl ⟨by rfl, ?_⟩) ?_ ?_
              rotate_left
              · intro w'
                go_simp
                with_reducible rfl
              rotate_left
              · simp only [Act.put, List.setIfInBounds_toArray, List.set_cons_zero, List.set_cons_succ, i64_w, i32_w]
                rfl
              refine pure_ (i := 16) (N := some 124) (v := ?_) (a' := ?_) #[true, true, true, true, true, true, true, true, true, true, true, true, true, true, true, true, true, false, false, false, false, false, false, false, false, false, false, false, false, false, false, false, false, false, false, false, false, false, false, false, false, false, false] rfl rfl (any_of HT_.out (by kernel_rfl)) (fun _ _ _ h => h) (Or.inl ⟨by rfl, ?_⟩) ?_ ?_
              rotate_left
              · intro w'
                go_simp
                with_reducible rfl
              rotate_left
              · simp only [Act.put, List.setIfInBounds_toArray, List.set_cons_zero, List.set_cons_succ, i64_w, i32_w]
                rfl
              refine pure_ (i := 17) (N := some 125) (v := ?_) (a' := ?_) #[true, true, true, true, true, true, true, true, true, true, true, true, true, true, true, true, true, true, false, false, false, false, false, false, false, false, false, false, false, false, false, false, false, false, false, false, false, false, false, false, false, false, false] rfl rfl (any_of HT_.out (by kernel_rfl)) (fun _ _ _ h => h) (Or.inl ⟨by rfl, ?_⟩) ?_ ?_
              rotate_left
              · intro w'
                go_simp
                with_reducible rfl
              rotate_left
              · simp only [Act.put, List.setIfInBounds_toArray, List.set_cons_zero, List.set_cons_succ, i64_w, i32_w]
                rfl
              refine take_ (i := 18) (N := some 126) (v := ?_) (a' := ?_) #[true, true, true, true, true, true, true, true, true, true, true, true, true, true, true, true, true, true, true, false, false, false, false, false, false, false, false, false, false, false, false, false, false, false, false, false, false, false, false, false, false, false, false] rfl rfl (take_ofW HT_.out HW_.out (by kernel_rfl)) (fun _ _ _ h => h) (Or.inl ⟨by rfl, ?_⟩) hHeld ?_ ?_
              rotate_left
              · intro w' HS_
                have t_ := HS_.mark
                go_simp
                with_reducible rfl
              rotate_left
              · simp only [Act.put, List.setIfInBounds_toArray, List.set_cons_zero, List.set_cons_succ, i64_w, i32_w]
                rfl
              refine pure_ (i := 19) (N := some 127) (v := ?_) (a' := ?_) #[true, true, true, true, true, true, true, true, true, true, true, true, true, true, true, true, true, true, true, true, false, false, false, false, false, false, false, false, false, false, false, false, false, false, false, false, false, false, false, false, false, false, false] rfl rfl (any_of HT_.out (by kernel_rfl)) (fun _ _ _ h => h) (Or.inl ⟨by rfl, ?_⟩) ?_ ?_
              rotate_left
              · intro w'
                go_simp
                with_reducible rfl
              rotate_left
              · simp only [Act.put, List.setIfInBounds_toArray, List.set_cons_zero, List.set_cons_succ, i64_w, i32_w]
                rfl
              refine pure_ (i := 20) (N := some 128) (v := ?_) (a' := ?_) #[true, true, true, true, true, true, true, true, true, true, true, true, true, true, true, true, true, true, true, true, true, false, false, false, false, false, false, false, false, false, false, false, false, false, false, false, false, false, false, false, false, false, false] rfl rfl (any_of HT_.out (by kernel_rfl)) (fun _ _ _ h => h) (Or.inl ⟨by rfl, ?_⟩) ?_ ?_
              rotate_left
              · intro w'
                go_simp
                with_reducible rfl
              rotate_left
              · simp only [Act.put, List.setIfInBounds_toArray, List.set_cons_zero, List.set_cons_succ, i64_w, i32_w]
                rfl
              refine pure_ (i := 21) (N := some 129) (v := ?_) (a' := ?_) #[true, true, true, true, true, true, true, true, true, true, true, true, true, true, true, true, true, true, true, true, true, true, false, false, false, false, false, false, false, false, false, false, false, false, false, false, false, false, false, false, false, false, false] rfl rfl (any_of HT_.out (by kernel_rfl)) (fun _ _ _ h => h) (Or.inl ⟨by rfl, ?_⟩) ?_ ?_
              rotate_left
              · intro w'
                go_simp
                with_reducible rfl
              rotate_left
              · simp only [Act.put, List.setIfInBounds_toArray, List.set_cons_zero, List.set_cons_succ, i64_w, i32_w]
                rfl
              refine pure_ (i := 22) (N := some 130) (v := ?_) (a' := ?_) #[true, true, true, true, true, true, true, true, true, true, true, true, true, true, true, true, true, true, true, true, true, true, true, false, false, false, false, false, false, false, false, false, false, false, false, false, false, false, false, false, false, false, false] rfl rfl (any_of HT_.out (by kernel_rfl)) (fun _ _ _ h => h) (Or.inl ⟨by rfl, ?_⟩) ?_ ?_
              rotate_left
              · intro w'
                go_simp
                with_reducible rfl
              rotate_left
              · simp only [Act.put, List.setIfInBounds_toArray, List.set_cons_zero, List.set_cons_succ, i64_w, i32_w]
                rfl
              refine take_ (i := 23) (N := some 131) (v := ?_) (a' := ?_) #[true, true, true, true, true, true, true, true, true, true, true, true, true, true, true, true, true, true, true, true, true, true, true, true, false, false, false, false, false, false, false, false, false, false, false, false, false, false, false, false, false, false, false] rfl rfl (take_ofW HT_.out HW_.out (by kernel_rfl)) (fun _ _ _ h => h) (Or.inl ⟨by rfl, ?_⟩) hHeld ?_ ?_
              rotate_left
              · intro w' HS_
                have t_ := HS_.h5.cell 2
                simp at t_
                go_simp
                with_reducible rfl
              rotate_left
              · simp only [Act.put, List.setIfInBounds_toArray, List.set_cons_zero, List.set_cons_succ, i64_w, i32_w]
                rfl
              refine pure_ (i := 24) (N := some 132) (v := ?_) (a' := ?_) #[true, true, true, true, true, true, true, true, true, true, true, true, true, true, true, true, true, true, true, true, true, true, true, true, true, false, false, false, false, false, false, false, false, false, false, false, false, false, false, false, false, false, false] rfl rfl (any_of HT_.out (by kernel_rfl)) (fun _ _ _ h => h) (Or.inl ⟨by rfl, ?_⟩) ?_ ?_
              rotate_left
              · intro w'
                go_simp
                with_reducible rfl
              rotate_left
              · simp only [Act.put, List.setIfInBounds_toArray, List.set_cons_zero, List.set_cons_succ, i64_w, i32_w]
                rfl
              refine take_ (i := 25) (N := some 133) (v := ?_) (a' := ?_) #[true, true, true, true, true, true, true, true, true, true, true, true, true, true, true, true, true, true, true, true, true, true, true, true, true, true, false, false, false, false, false, false, false, false, false, false, false, false, false, false, false, false, false] rfl rfl (take_ofW HT_.out HW_.out (by kernel_rfl)) (fun _ _ _ h => h) (Or.inl ⟨by rfl, ?_⟩) hHeld ?_ ?_
              rotate_left
              · intro w' HS_
                have t_ := HS_.X.cell 2
                simp at t_
                go_simp
                with_reducible rfl
              rotate_left
              · simp only [Act.put, List.setIfInBounds_toArray, List.set_cons_zero, List.set_cons_succ, i64_w, i32_w]
                rfl
              refine one_ (i := 26) (N := some 134) #[true, true, true, true, true, true, true, true, true, true, true, true, true, true, true, true, true, true, true, true, true, true, true, true, true, true, true, false, false, false, false, false, false, false, false, false, false, false, false, false, false, false, false] rfl rfl (one_of HT_.out (by kernel_rfl)) (by decide) (fun K hK => ?_)
              refine goes_ Try.func19 (by kernel_rfl) rfl #[.slice A32 q2.length k32, .slice A2 q2.length c2] (by rfl) rfl rfl (by simp only [List.map_toArray, List.map_cons, List.map_nil]; rfl) ?_
              refine (GS.int2 hHeld HQ2.out hl2 hl2b).mono ?_
              rintro e w22 ⟨rfl, hd⟩
              refine ⟨_, rfl, ?_⟩
              refine hK.out _ _ (hHeld.below hd.below) (fun hHeld => ?_)
              clear hK K hd
              refine norm_ (a' := ?_) ?_ ?_
              rotate_left
              · show Act.put _ (some 134) _ = _
                simp only [Act.put, List.setIfInBounds_toArray, List.set_cons_zero, List.set_cons_succ, i64_w, i32_w]
                rfl
              refine pure_ (i := 27) (N := some 135) (v := ?_) (a' := ?_) #[true, true, true, true, true, true, true, true, true, true, true, true, true, true, true, true, true, true, true, true, true, true, true, true, true, true, true, true, false, false, false, false, false, false, false, false, false, false, false, false, false, false, false] rfl rfl (any_of HT_.out (by kernel_rfl)) (fun _ _ _ h => h) (Or.inl ⟨by rfl, ?_⟩) ?_ ?_
              rotate_left
              · intro w'
                go_simp
                with_reducible rfl
              rotate_left
              · simp only [Act.put, List.setIfInBounds_toArray, List.set_cons_zero, List.set_cons_succ, i64_w, i32_w]
                rfl
              refine pure_ (i := 28) (N := some 136) (v := ?_) (a' := ?_) #[true, true, true, true, true, true, true, true, true, true, true, true, true, true, true, true, true, true, true, true, true, true, true, true, true, true, true, true, true, false, false, false, false, false, false, false, false, false, false, false, false, false, false] rfl rfl (any_of HT_.out (by kernel_rfl)) (fun _ _ _ h => h) (Or.inl ⟨by rfl, ?_⟩) ?_ ?_
              rotate_left
              · intro w'
                go_simp
                with_reducible rfl
              rotate_left
              · simp only [Act.put, List.setIfInBounds_toArray, List.set_cons_zero, List.set_cons_succ, i64_w, i32_w]
                rfl
              refine pure_ (i := 29) (N := some 137) (v := ?_) (a' := ?_) #[true, true, true, true, true, true, true, true, true, true, true, true, true, true, true, true, true, true, true, true, true, true, true, true, true, true, true, true, true, true, false, false, false, false, false, false, false, false, false, false, false, false, false] rfl rfl (any_of HT_.out (by kernel_rfl)) (fun _ _ _ h => h) (Or.inl ⟨by rfl, ?_⟩) ?_ ?_
              rotate_left
              · intro w'
                go_simp
                with_reducible rfl
              rotate_left
              · simp only [Act.put, List.setIfInBounds_toArray, List.set_cons_zero, List.set_cons_succ, i64_w, i32_w]
                rfl
              refine take_ (i := 30) (N := some 138) (v := ?_) (a' := ?_) #[true, true, true, true, true, true, true, true, true, true, true, true, true, true, true, true, true, true, true, true, true, true, true, true, true, true, true, true, true, true, true, false, false, false, false, false, false, false, false, false, false, false, false] rfl rfl (take_ofW HT_.out HW_.out (by kernel_rfl)) (fun _ _ _ h => h) (Or.inl ⟨by rfl, ?_⟩) hHeld ?_ ?_
              rotate_left
              · intro w' HS_
                have t_ := HS_.h5.cell 3
                simp at t_
                go_simp
                with_reducible rfl
              rotate_left
              · simp only [Act.put, List.setIfInBounds_toArray, List.set_cons_zero, List.set_cons_succ, i64_w, i32_w]
                rfl
              refine pure_ (i := 31) (N := some 139) (v := ?_) (a' := ?_) #[true, true, true, true, true, true, true, true, true, true, true, true, true, true, true, true, true, true, true, true, true, true, true, true, true, true, true, true, true, true, true, true, false, false, false, false, false, false, false, false, false, false, false] rfl rfl (any_of HT_.out (by kernel_rfl)) (fun _ _ _ h => h) (Or.inl ⟨by rfl, ?_⟩) ?_ ?_
              rotate_left
              · intro w'
                go_simp
                with_reducible rfl
              rotate_left
              · simp only [Act.put, List.setIfInBounds_toArray, List.set_cons_zero, List.set_cons_succ, i64_w, i32_w]
                rfl
              refine take_ (i := 32) (N := some 140) (v := ?_) (a' := ?_) #[true, true, true, true, true, true, true, true, true, true, true, true, true, true, true, true, true, true, true, true, true, true, true, true, true, true, true, true, true, true, true, true, true, false, false, false, false, false, false, false, false, false, false] rfl rfl (take_ofW HT_.out HW_.out (by kernel_rfl)) (fun _ _ _ h => h) (Or.inl ⟨by rfl, ?_⟩) hHeld ?_ ?_
              rotate_left
              · intro w' HS_
                have t_ := HS_.X.cell 3
                simp at t_
                go_simp
                with_reducible rfl
              rotate_left
              · simp only [Act.put, List.setIfInBounds_toArray, List.set_cons_zero, List.set_cons_succ, i64_w, i32_w]
                rfl
              refine one_ (i := 33) (N := some 141) #[true, true, true, true, true, true, true, true, true, true, true, true, true, true, true, true, true, true, true, true, true, true, true, true, true, true, true, true, true, true, true, true, true, true, false, false, false, false, false, false, false, false, false] rfl rfl (one_of HT_.out (by kernel_rfl)) (by decide) (fun K hK => ?_)
              refine goes_ Try.func19 (by kernel_rfl) rfl #[.slice A36 q3.length k36, .slice A3 q3.length c3] (by rfl) rfl rfl (by simp only [List.map_toArray, List.map_cons, List.map_nil]; rfl) ?_
              refine (GS.int3 hHeld HQ3.out hl3 hl3b).mono ?_
              rintro e w23 ⟨rfl, hd⟩
              refine ⟨_, rfl, ?_⟩
              refine hK.out _ _ (hHeld.below hd.below) (fun hHeld => ?_)
              clear hK K hd
              refine norm_ (a' := ?_) ?_ ?_
              rotate_left
              · show Act.put _ (some 141) _ = _
                simp only [Act.put, List.setIfInBounds_toArray, List.set_cons_zero, List.set_cons_succ, i64_w, i32_w]
                rfl
              refine pure_ (i := 34) (N := some 142) (v := ?_) (a' := ?_) #[true, true, true, true, true, true, true, true, true, true, true, true, true, true, true, true, true, true, true, true, true, true, true, true, true, true, true, true, true, true, true, true, true, true, true, false, false, false, false, false, false, false, false] rfl rfl (any_of HT_.out (by kernel_rfl)) (fun _ _ _ h => h) (Or.inl ⟨by rfl, ?_⟩) ?_ ?_
              rotate_left
              · intro w'
                go_simp
                with_reducible rfl
              rotate_left
              · simp only [Act.put, List.setIfInBounds_toArray, List.set_cons_zero, List.set_cons_succ, i64_w, i32_w]
                rfl
              refine pure_ (i := 35) (N := some 143) (v := ?_) (a' := ?_) #[true, true, true, true, true, true, true, true, true, true, true, true, true, true, true, true, true, true, true, true, true, true, true, true, true, true, true, true, true, true, true, true, true, true, true, true, false, false, false, false, false, false, false] rfl rfl (any_of HT_.out (by kernel_rfl)) (fun _ _ _ h => h) (Or.inl ⟨by rfl, ?_⟩) ?_ ?_
              rotate_left
              · intro w'
                go_simp
                with_reducible rfl
              rotate_left
              · simp only [Act.put, List.setIfInBounds_toArray, List.set_cons_zero, List.set_cons_succ, i64_w, i32_w]
                rfl
              refine pure_ (i := 36) (N := some 144) (v := ?_) (a' := ?_) #[true, true, true, true, true, true, true, true, true, true, true, true, true, true, true, true, true, true, true, true, true, true, true, true, true, true, true, true, true, true, true, true, true, true, true, true, true, false, false, false, false, false, false] rfl rfl (any_of HT_.out (by kernel_rfl)) (fun _ _ _ h => h) (Or.inl ⟨by rfl, ?_⟩) ?_ ?_
              rotate_left
              · intro w'
                go_simp
                with_reducible rfl
              rotate_left
              · simp only [Act.put, List.setIfInBounds_toArray, List.set_cons_zero, List.set_cons_succ, i64_w, i32_w]
                rfl
              refine take_ (i := 37) (N := some 145) (v := ?_) (a' := ?_) #[true, true, true, true, true, true, true, true, true, true, true, true, true, true, true, true, true, true, true, true, true, true, true, true, true, true, true, true, true, true, true, true, true, true, true, true, true, true, false, false, false, false, false] rfl rfl (take_ofW HT_.out HW_.out (by kernel_rfl)) (fun _ _ _ h => h) (Or.inl ⟨by rfl, ?_⟩) hHeld ?_ ?_
              rotate_left
              · intro w' HS_
                have t_ := HS_.h5.cell 0
                simp at t_
                go_simp
                with_reducible rfl
              rotate_left
              · simp only [Act.put, List.setIfInBounds_toArray, List.set_cons_zero, List.set_cons_succ, i64_w, i32_w]
                rfl
              refine pure_ (i := 38) (N := some 146) (v := ?_) (a' := ?_) #[true, true, true, true, true, true, true, true, true, true, true, true, true, true, true, true, true, true, true, true, true, true, true, true, true, true, true, true, true, true, true, true, true, true, true, true, true, true, true, false, false, false, false] rfl rfl (any_of HT_.out (by kernel_rfl)) (fun _ _ _ h => h) (Or.inl ⟨by rfl, ?_⟩) ?_ ?_
              rotate_left
              · intro w'
                go_simp
                with_reducible rfl
              rotate_left
              · simp only [Act.put, List.setIfInBounds_toArray, List.set_cons_zero, List.set_cons_succ, i64_w, i32_w]
                rfl
              refine take_ (i := 39) (N := some 147) (v := ?_) (a' := ?_) #[true, true, true, true, true, true, true, true, true, true, true, true, true, true, true, true, true, true, true, true, true, true, true, true, true, true, true, true, true, true, true, true, true, true, true, true, true, true, true, true, false, false, false] rfl rfl (take_ofW HT_.out HW_.out (by kernel_rfl)) (fun _ _ _ h => h) (Or.inl ⟨by rfl, ?_⟩) hHeld ?_ ?_
              rotate_left
              · intro w' HS_
                have t_ := HS_.X.cell 0
                simp at t_
                go_simp
                with_reducible rfl
              rotate_left
              · simp only [Act.put, List.setIfInBounds_toArray, List.set_cons_zero, List.set_cons_succ, i64_w, i32_w]
                rfl
              refine pure_ (i := 40) (N := some 148) (v := ?_) (a' := ?_) #[true, true, true, true, true, true, true, true, true, true, true, true, true, true, true, true, true, true, true, true, true, true, true, true, true, true, true, true, true, true, true, true, true, true, true, true, true, true, true, true, true, false, false] rfl rfl (any_of HT_.out (by kernel_rfl)) (fun _ _ _ h => h) (Or.inl ⟨by rfl, ?_⟩) ?_ ?_
              rotate_left
              · intro w'
                go_simp
                with_reducible rfl
              rotate_left
              · simp only [Act.put, List.setIfInBounds_toArray, List.set_cons_zero, List.set_cons_succ, i64_w, i32_w]
                rfl
              refine pure_ (i := 41) (N := some 149) (v := ?_) (a' := ?_) #[true, true, true, true, true, true, true, true, true, true, true, true, true, true, true, true, true, true, true, true, true, true, true, true, true, true, true, true, true, true, true, true, true, true, true, true, true, true, true, true, true, true, false] rfl rfl (any_of HT_.out (by kernel_rfl)) (fun _ _ _ h => h) (Or.inl ⟨by rfl, ?_⟩) ?_ ?_
              rotate_left
              · intro w'
                go_simp
                with_reducible rfl
              rotate_left
              · simp only [Act.put, List.setIfInBounds_toArray, List.set_cons_zero, List.set_cons_succ, i64_w, i32_w]
                rfl
              refine pure_ (i := 42) (N := some 4) (v := ?_) (a' := ?_) #[true, true, true, true, true, true, true, true, true, true, true, true, true, true, true, true, true, true, true, true, true, true, true, true, true, true, true, true, true, true, true, true, true, true, true, true, true, true, true, true, true, true, true] rfl rfl (any_of HT_.out (by kernel_rfl)) (fun _ _ _ h => h) (Or.inl ⟨by rfl, ?_⟩) ?_ ?_
              rotate_left
              · intro w'
                go_simp
                with_reducible rfl
              rotate_left
              · simp only [Act.put, List.setIfInBounds_toArray, List.set_cons_zero, List.set_cons_succ, i64_w, i32_w]
                rfl
              refine done_ (done_of HT_.out (by kernel_rfl)) ?_
              go_wp2_with fail
              go_ret
              exact ⟨rfl, hHeld.b⟩
end Go.Proofs.Ytfflfhkbnmoalaa.Way
