/- wire.part, wire.ReadValue. -/
import Derived.Test.YtlbfnnngemonoaaWirWord
import Derived.WalkMore
import Derived.ScopeJumps
namespace Go.Proofs.Ytlbfnnngemonoaa.Wir
open Go.RowKit Go.Proofs.Ytlbfnnngemonoaa.PWireReads
open Go.Proofs.Ytlbfnnngemonoaa.Fat (Blk Chg Off)
open Go.Proofs.YtlbfnnngemonoaaW.PrintWords Go.Proofs.YtlbfnnngemonoaaW.PrintLast Go.Proofs.YtlbfnnngemonoaaW.PrintMore
set_option linter.unusedVariables false
set_option linter.unusedSimpArgs false
attribute [local go_sem] run_store_float run_store_complex

def fineB (x : Nat) : Bool := (FloatKind.f64.format.order x x == some .eq) || (x == none64)
theorem fine_of {x : Nat} (h : fineB x = true) : fine x := by
  unfold fineB at h
  simp only [Bool.or_eq_true, beq_iff_eq] at h
  exact h
theorem num8 (l : List Int) (h : By l) (h8 : 8 ≤ l.length) : 0 ≤ num (l.take 8) ∧ num (l.take 8) < 18446744073709551616 := num_bound l h 8 h8
set_option maxRecDepth 20000 in
set_option maxHeartbeats 1000000 in
theorem part_any (A : Option Addr) (c : Nat) (l : List Int) (w : World) (hC : Kd.C (Kd.int .u8) w A l.length l) (hc : l.length ≤ c) (hB : By l) (h8 : 8 ≤ l.length) :
    Calls Try.prog 53 #[.slice A l.length c] w fun e w' => e = .returned (.tuple #[.float .f64 (num (l.take 8)).toNat, .bool (fineB (num (l.take 8)).toNat)]) ∧ w' = w := by
  have HW := Lib.hid (word_any A c l w hC hc hB h8)
  obtain ⟨h0, _⟩ := num8 l hB h8
  have h74 := run74
  clear hC hB
  generalize num (l.take 8) = n at HW h0 ⊢
  have he : (n == 9221120237041090561) = (n.toNat == none64) := by
    unfold none64
    by_cases h : n = 9221120237041090561
    · subst h; rfl
    · have h2 : ¬ n.toNat = 9221120237041090561 := by omega
      rw [beq_eq_false_iff_ne.2 h, beq_eq_false_iff_ne.2 h2]
  have hf : fineB n.toNat = ((FloatKind.f64.format.order n.toNat n.toNat == some .eq) || (n == 9221120237041090561)) := by rw [he]; rfl
  rw [hf]
  clear he hf h0
  cases hx : (FloatKind.f64.format.order n.toNat n.toNat == some .eq)
  all_goals
    go_enter Try.func53, Try.ntmps53
    go_wp2_with fail
    refine HW.out.mono ?_
    rintro e w1 ⟨rfl, rfl⟩
    go_wp2_with fail
    go_ret2
    exact ⟨by simp, rfl⟩

/-- A scope with jumps forward: what stands behind the label is walked at each jump. -/
theorem wp_scope_fwd {P : Program} {a : Act} {w : World} {Q : Exit → Act → World → Prop} {c rest : Code} (l : Nat) (hf : findLabel c l = some rest)
    (first : c.wp P (Exit.jump l (fun a w => rest.wp P (Exit.jump l (fun _ _ => False) Q) a w) Q) a w) : (Code.scope c).wp P Q a w :=
  wp_scope_jumps l _ (fun _ _ => 0) hf first (fun a w h => Code.wp_mono (fun e a w h => by
    cases e with
    | goto l' => exact ⟨h.1, h.2.elim⟩
    | normal => exact h
    | exit id => exact h
    | ret => exact h
    | panic ch => exact h
    | outgrown => exact h) h)

theorem cutBy (A : Option Addr) (c : Nat) (l : List Int) (w : World) (hC : Kd.C (Kd.int .u8) w A l.length l) (hc : l.length ≤ c) (j : Nat) (hj : j ≤ l.length) :
    ∃ A1 c1, (∀ W : World, (Instr.slice 45 (.slice A l.length c) (some (.int .i64 j)) none none).run Try.prog W = .ok (.slice A1 (l.drop j).length c1) W) ∧ (l.drop j).length ≤ c1 ∧ Kd.C (Kd.int .u8) w A1 (l.drop j).length (l.drop j) := by
  refine ⟨_, c - j, fun W => ?_, by rw [List.length_drop]; omega, Kd.C_drop hC hj hc⟩
  rw [cutFrom A l.length c j (by omega) (by omega) W, Int.toNat_natCast, List.length_drop]
  rfl
theorem cutMid (A : Option Addr) (c : Nat) (l : List Int) (w : World) (hC : Kd.C (Kd.int .u8) w A l.length l) (hc : l.length ≤ c) (lo hi : Nat) (h1 : lo ≤ hi) (h2 : hi ≤ l.length) :
    ∃ A1 c1, (∀ W : World, (Instr.slice 45 (.slice A l.length c) (some (.int .i64 lo)) (some (.int .i64 hi)) none).run Try.prog W = .ok (.slice A1 ((l.take hi).drop lo).length c1) W) ∧ ((l.take hi).drop lo).length ≤ c1 ∧ Kd.C (Kd.int .u8) w A1 ((l.take hi).drop lo).length ((l.take hi).drop lo) := by
  have hlen : ((l.take hi).drop lo).length = hi - lo := by rw [List.length_drop, List.length_take, Nat.min_eq_left h2]
  refine ⟨_, c - lo, fun W => ?_, by rw [hlen]; omega, Kd.C_mid hC h1 h2 hc⟩
  obtain ⟨i, hi0, hs⟩ := inf5
  rw [cut_mid (P := Try.prog) 45 5 .i64 .i64 Try.underlying45 hi0 1 hs A l.length c lo hi (by omega) (by omega) (by omega) hc W, Int.toNat_natCast, Int.toNat_natCast, hlen]
  rfl
set_option maxRecDepth 20000 in
set_option maxHeartbeats 4000000 in
theorem readV_short (A : Option Addr) (c : Nat) (l : List Int) (w : World) (hs : l.length < 3) :
    Calls Try.prog 18 #[.slice A l.length c] w fun e w' => e = .returned (.tuple #[ag zV, .int .i64 0, .int .i64 110]) ∧ Below w.heap.size w w' := by
  have b0 : decide ((l.length : Int) < 3) = true := by simp; omega
  generalize l.length = n at b0 ⊢
  clear hs
  go_enter Try.func18, Try.ntmps18
  go_wp2_with fail
  refine wp_scope_fwd 0 (by rfl) ?_
  go_wp2_with fail
  go_step3
  refine And.intro rfl ?_
  go_wp2_with fail
  simp only [Exit.jump]
  refine bodyPost_ret (results_ctt rfl _ _ w.heap.size 50 #[.int .i64 0, .int .i64 0, .float .f64 0, .complex .f64 0 0, .string { data := #[] }] (0, 0) _ rfl (show Blk _ w.heap.size 50 #[.int .i64 0, .int .i64 0, .float .f64 0, .complex .f64 0 0, .string { data := #[] }] from (two_new w _ _ _ _).1) Try.underlying50 rfl (by kernel_rfl)) rfl ?_
  exact ⟨rfl, (two_new w _ _ _ _).2.2⟩
set_option maxRecDepth 20000 in
set_option maxHeartbeats 4000000 in
theorem readV_int (A : Option Addr) (c : Nat) (l : List Int) (w : World) (hC : Kd.C (Kd.int .u8) w A l.length l) (hc : l.length ≤ c) (hB : By l) (h9 : 9 ≤ l.length) (hk : l.getD 0 0 = 1) :
    Calls Try.prog 18 #[.slice A l.length c] w fun e w' => e = .returned (.tuple #[ag (vI (wrap64 (num ((l.drop 1).take 8)))), .int .i64 9, .int .i64 0]) ∧ Below w.heap.size w w' := by
  have b0 : decide ((l.length : Int) < 3) = false := by simp; omega
  have b9 : decide (9 > (l.length : Int)) = false := by simp; omega
  obtain ⟨ad, hA, x0⟩ := byte_at hC 0 (by omega)
  rw [hk, show ad.add 0 = ad from by simp [Addr.add]] at x0
  subst hA
  have hlt := World.block_lt_of_cell? w _ x0
  have X0 := fun o1 o2 : Obj => (World.cell?_of_block ((((Below.refl w.heap.size w).alloc (Nat.le_refl _) o1).alloc (by simp) o2).block _ hlt)).trans x0
  obtain ⟨A1, c1, hcut0, hcut1, hcutC⟩ := cutBy (some ad) c l w hC hc 1 (by omega)
  have hcut : ∀ W : World, (Instr.slice 45 (.slice (some ad) l.length c) (some (.int .i64 1)) none none).run Try.prog W = .ok (.slice A1 (l.drop 1).length c1) W := hcut0
  have HW := Lib.hid (fun o1 o2 : Obj => word_any A1 c1 (l.drop 1) ((w.alloc o1).alloc o2) (Kd.C_alloc (Kd.C_alloc hcutC o1) o2) hcut1 (hB.drop 1) (by rw [List.length_drop]; omega))
  have h1l : (1 : Int) ≤ (l.length : Int) := by omega
  clear hcut0 hcut1 hcutC
  clear hC hB hk x0
  generalize num ((l.drop 1).take 8) = v at HW ⊢
  generalize (l.drop 1).length = m1 at hcut HW
  have hG : Good (vI (wrap64 v)) := .inl ⟨_, rfl⟩
  have HM : Hid (∀ W : World, Calls Try.prog 54 #[.agg #[.int .i64 1, .int .i64 (wrap64 v), .float .f64 0, .complex .f64 0 0, .string { data := #[] }]] W fun e w' => e = .returned (.bool true) ∧ Below W.heap.size W w') := Lib.hid (fun W => by
    have h := may_any (vI (wrap64 v)) hG.shp W
    rw [hG.may] at h
    exact h)
  have HP : Hid (∀ W : World, Calls Try.prog 32 #[.agg #[.int .i64 1, .int .i64 (wrap64 v), .float .f64 0, .complex .f64 0 0, .string { data := #[] }]] W fun e w' => e = .returned (.agg #[.int .i64 1, .int .i64 (wrap64 v), .float .f64 0, .complex .f64 0 0, .string { data := #[] }]) ∧ Below W.heap.size W w') := Lib.hid (fun W => plain_any (vI (wrap64 v)) hG W)
  clear hG
  show Calls Try.prog 18 #[.slice (some ad) l.length c] w fun e w' => e = .returned (.tuple #[.agg #[.int .i64 1, .int .i64 (wrap64 v), .float .f64 0, .complex .f64 0 0, .string { data := #[] }], .int .i64 9, .int .i64 0]) ∧ Below w.heap.size w w'
  go_enter Try.func18, Try.ntmps18
  go_wp2_with fail
  refine wp_scope_fwd 0 (by rfl) ?_
  go_wp2_with fail
  refine (HW.out _ _).mono ?_
  rintro e w1 ⟨rfl, rfl⟩
  go_wp2_with fail
  refine (HM.out _).mono ?_
  rintro e w1 ⟨rfl, hb1⟩
  obtain ⟨a0, a1, hb0⟩ := two_new w #[.int .i64 0, .int .i64 0, .float .f64 0, .complex .f64 0 0, .string { data := #[] }] #[.int .i64 1, .int .i64 (wrap64 v), .float .f64 0, .complex .f64 0 0, .string { data := #[] }] 50 50
  have b0 := a0.below hb1 a0.lt
  have b1 := a1.below hb1 a1.lt
  have hb := hb0.trans (hb1.mono hb0.size)
  have y0 := b1.cell 0
  have y1 := b1.cell 1
  have y2 := b1.cell 2
  have y3 := b1.cell 3
  have y4 := b1.cell 4
  simp at y0 y1 y2 y3 y4
  clear a0 a1 hb0 hb1
  go_wp2_with fail
  refine (HP.out _).mono ?_
  rintro e w2 ⟨rfl, hb2⟩
  have c0 := b0.below hb2 b0.lt
  have hbb := hb.trans (hb2.mono hb.size)
  have r0 := c0.cell 0
  have rf0 := c0.frozen 0
  have r1 := c0.cell 1
  have rf1 := c0.frozen 1
  have r2 := c0.cell 2
  have rf2 := c0.frozen 2
  have r3 := c0.cell 3
  have rf3 := c0.frozen 3
  have r4 := c0.cell 4
  have rf4 := c0.frozen 4
  simp at r0 r1 r2 r3 r4
  clear y0 y1 y2 y3 y4
  go_wp2_with fail
  simp only [Exit.inBlock, Exit.then, Exit.jump]
  refine bodyPost_ret (results_ctt rfl _ _ w.heap.size 50 #[.int .i64 1, .int .i64 (wrap64 v), .float .f64 0, .complex .f64 0 0, .string { data := #[] }] (0, 0) _ rfl (show Blk _ w.heap.size 50 #[.int .i64 1, .int .i64 (wrap64 v), .float .f64 0, .complex .f64 0 0, .string { data := #[] }] from ((((c0.set_ 0 _).set_ 1 _).set_ 2 _).set_ 3 _).set_ 4 _) Try.underlying50 rfl (by kernel_rfl)) rfl ?_
  exact ⟨rfl, below_set (below_set (below_set (below_set (below_set hbb (Nat.le_refl _)) (Nat.le_refl _)) (Nat.le_refl _)) (Nat.le_refl _)) (Nat.le_refl _)⟩
set_option maxRecDepth 20000 in
set_option maxHeartbeats 4000000 in
theorem readV_real (A : Option Addr) (c : Nat) (l : List Int) (w : World) (hC : Kd.C (Kd.int .u8) w A l.length l) (hc : l.length ≤ c) (hB : By l) (h9 : 9 ≤ l.length) (hk : l.getD 0 0 = 2) (hf : fineB (num ((l.drop 1).take 8)).toNat = true) :
    Calls Try.prog 18 #[.slice A l.length c] w fun e w' => e = .returned (.tuple #[ag (vR (num ((l.drop 1).take 8)).toNat), .int .i64 9, .int .i64 0]) ∧ Below w.heap.size w w' := by
  have b0 : decide ((l.length : Int) < 3) = false := by simp; omega
  have b9 : decide (9 > (l.length : Int)) = false := by simp; omega
  obtain ⟨ad, hA, x0⟩ := byte_at hC 0 (by omega)
  rw [hk, show ad.add 0 = ad from by simp [Addr.add]] at x0
  subst hA
  have hlt := World.block_lt_of_cell? w _ x0
  have X0 := fun o1 o2 : Obj => (World.cell?_of_block ((((Below.refl w.heap.size w).alloc (Nat.le_refl _) o1).alloc (by simp) o2).block _ hlt)).trans x0
  obtain ⟨A1, c1, hcut0, hcut1, hcutC⟩ := cutBy (some ad) c l w hC hc 1 (by omega)
  have hcut : ∀ W : World, (Instr.slice 45 (.slice (some ad) l.length c) (some (.int .i64 1)) none none).run Try.prog W = .ok (.slice A1 (l.drop 1).length c1) W := hcut0
  have HW := Lib.hid (fun o1 o2 : Obj => part_any A1 c1 (l.drop 1) ((w.alloc o1).alloc o2) (Kd.C_alloc (Kd.C_alloc hcutC o1) o2) hcut1 (hB.drop 1) (by rw [List.length_drop]; omega))
  have h1l : (1 : Int) ≤ (l.length : Int) := by omega
  clear hcut0 hcut1 hcutC
  clear hC hB hk x0
  have hx := fine_of hf
  rw [hf] at HW
  clear hf
  generalize (num ((l.drop 1).take 8)).toNat = x at HW hx ⊢
  generalize (l.drop 1).length = m1 at hcut HW
  have hG : Good (vR x) := .inr (.inl ⟨x, hx, rfl⟩)
  have HM : Hid (∀ W : World, Calls Try.prog 54 #[.agg #[.int .i64 2, .int .i64 0, .float .f64 x, .complex .f64 0 0, .string { data := #[] }]] W fun e w' => e = .returned (.bool true) ∧ Below W.heap.size W w') := Lib.hid (fun W => by
    have h := may_any (vR x) hG.shp W
    rw [hG.may] at h
    exact h)
  have HP : Hid (∀ W : World, Calls Try.prog 32 #[.agg #[.int .i64 2, .int .i64 0, .float .f64 x, .complex .f64 0 0, .string { data := #[] }]] W fun e w' => e = .returned (.agg #[.int .i64 2, .int .i64 0, .float .f64 x, .complex .f64 0 0, .string { data := #[] }]) ∧ Below W.heap.size W w') := Lib.hid (fun W => plain_any (vR x) hG W)
  clear hG
  show Calls Try.prog 18 #[.slice (some ad) l.length c] w fun e w' => e = .returned (.tuple #[.agg #[.int .i64 2, .int .i64 0, .float .f64 x, .complex .f64 0 0, .string { data := #[] }], .int .i64 9, .int .i64 0]) ∧ Below w.heap.size w w'
  go_enter Try.func18, Try.ntmps18
  go_wp2_with fail
  refine wp_scope_fwd 0 (by rfl) ?_
  go_wp2_with fail
  refine (HW.out _ _).mono ?_
  rintro e w1 ⟨rfl, rfl⟩
  go_wp2_with fail
  refine (HM.out _).mono ?_
  rintro e w1 ⟨rfl, hb1⟩
  obtain ⟨a0, a1, hb0⟩ := two_new w #[.int .i64 0, .int .i64 0, .float .f64 0, .complex .f64 0 0, .string { data := #[] }] #[.int .i64 2, .int .i64 0, .float .f64 x, .complex .f64 0 0, .string { data := #[] }] 50 50
  have b0 := a0.below hb1 a0.lt
  have b1 := a1.below hb1 a1.lt
  have hb := hb0.trans (hb1.mono hb0.size)
  have y0 := b1.cell 0
  have y1 := b1.cell 1
  have y2 := b1.cell 2
  have y3 := b1.cell 3
  have y4 := b1.cell 4
  simp at y0 y1 y2 y3 y4
  clear a0 a1 hb0 hb1
  go_wp2_with fail
  refine (HP.out _).mono ?_
  rintro e w2 ⟨rfl, hb2⟩
  have c0 := b0.below hb2 b0.lt
  have hbb := hb.trans (hb2.mono hb.size)
  have r0 := c0.cell 0
  have rf0 := c0.frozen 0
  have r1 := c0.cell 1
  have rf1 := c0.frozen 1
  have r2 := c0.cell 2
  have rf2 := c0.frozen 2
  have r3 := c0.cell 3
  have rf3 := c0.frozen 3
  have r4 := c0.cell 4
  have rf4 := c0.frozen 4
  simp at r0 r1 r2 r3 r4
  clear y0 y1 y2 y3 y4
  go_wp2_with fail
  simp only [Exit.inBlock, Exit.then, Exit.jump]
  refine bodyPost_ret (results_ctt rfl _ _ w.heap.size 50 #[.int .i64 2, .int .i64 0, .float .f64 x, .complex .f64 0 0, .string { data := #[] }] (0, 0) _ rfl (show Blk _ w.heap.size 50 #[.int .i64 2, .int .i64 0, .float .f64 x, .complex .f64 0 0, .string { data := #[] }] from ((((c0.set_ 0 _).set_ 1 _).set_ 2 _).set_ 3 _).set_ 4 _) Try.underlying50 rfl (by kernel_rfl)) rfl ?_
  exact ⟨rfl, below_set (below_set (below_set (below_set (below_set hbb (Nat.le_refl _)) (Nat.le_refl _)) (Nat.le_refl _)) (Nat.le_refl _)) (Nat.le_refl _)⟩
set_option maxRecDepth 20000 in
set_option maxHeartbeats 4000000 in
theorem readV_real_bad (A : Option Addr) (c : Nat) (l : List Int) (w : World) (hC : Kd.C (Kd.int .u8) w A l.length l) (hc : l.length ≤ c) (hB : By l) (h9 : 9 ≤ l.length) (hk : l.getD 0 0 = 2) (hf : fineB (num ((l.drop 1).take 8)).toNat = false) :
    Calls Try.prog 18 #[.slice A l.length c] w fun e w' => e = .returned (.tuple #[ag zV, .int .i64 0, .int .i64 110]) ∧ Below w.heap.size w w' := by
  have b0 : decide ((l.length : Int) < 3) = false := by simp; omega
  have b9 : decide (9 > (l.length : Int)) = false := by simp; omega
  obtain ⟨ad, hA, x0⟩ := byte_at hC 0 (by omega)
  rw [hk, show ad.add 0 = ad from by simp [Addr.add]] at x0
  subst hA
  have hlt := World.block_lt_of_cell? w _ x0
  have X0 := fun o1 o2 : Obj => (World.cell?_of_block ((((Below.refl w.heap.size w).alloc (Nat.le_refl _) o1).alloc (by simp) o2).block _ hlt)).trans x0
  obtain ⟨A1, c1, hcut0, hcut1, hcutC⟩ := cutBy (some ad) c l w hC hc 1 (by omega)
  have hcut : ∀ W : World, (Instr.slice 45 (.slice (some ad) l.length c) (some (.int .i64 1)) none none).run Try.prog W = .ok (.slice A1 (l.drop 1).length c1) W := hcut0
  have HW := Lib.hid (fun o1 o2 : Obj => part_any A1 c1 (l.drop 1) ((w.alloc o1).alloc o2) (Kd.C_alloc (Kd.C_alloc hcutC o1) o2) hcut1 (hB.drop 1) (by rw [List.length_drop]; omega))
  have h1l : (1 : Int) ≤ (l.length : Int) := by omega
  clear hcut0 hcut1 hcutC
  clear hC hB hk x0
  rw [hf] at HW
  clear hf
  generalize (num ((l.drop 1).take 8)).toNat = x at HW
  generalize (l.drop 1).length = m1 at hcut HW
  go_enter Try.func18, Try.ntmps18
  go_wp2_with fail
  refine wp_scope_fwd 0 (by rfl) ?_
  go_wp2_with fail
  refine (HW.out _ _).mono ?_
  rintro e w1 ⟨rfl, rfl⟩
  go_wp2_with fail
  go_step3
  refine And.intro rfl ?_
  go_wp2_with fail
  simp only [Exit.jump]
  refine bodyPost_ret (results_ctt rfl _ _ w.heap.size 50 #[.int .i64 0, .int .i64 0, .float .f64 0, .complex .f64 0 0, .string { data := #[] }] (0, 0) _ rfl (show Blk _ w.heap.size 50 #[.int .i64 0, .int .i64 0, .float .f64 0, .complex .f64 0 0, .string { data := #[] }] from (two_new w _ _ _ _).1) Try.underlying50 rfl (by kernel_rfl)) rfl ?_
  exact ⟨rfl, (two_new w _ _ _ _).2.2⟩
set_option maxRecDepth 20000 in
set_option maxHeartbeats 4000000 in
theorem readV_comp (A : Option Addr) (c : Nat) (l : List Int) (w : World) (hC : Kd.C (Kd.int .u8) w A l.length l) (hc : l.length ≤ c) (hB : By l) (h9 : 17 ≤ l.length) (hk : l.getD 0 0 = 3) (hf : fineB (num ((l.drop 1).take 8)).toNat = true) (hg : fineB (num ((l.drop 9).take 8)).toNat = true) :
    Calls Try.prog 18 #[.slice A l.length c] w fun e w' => e = .returned (.tuple #[ag (vC (num ((l.drop 1).take 8)).toNat (num ((l.drop 9).take 8)).toNat), .int .i64 17, .int .i64 0]) ∧ Below w.heap.size w w' := by
  have b0 : decide ((l.length : Int) < 3) = false := by simp; omega
  have b9 : decide (17 > (l.length : Int)) = false := by simp; omega
  obtain ⟨ad, hA, x0⟩ := byte_at hC 0 (by omega)
  rw [hk, show ad.add 0 = ad from by simp [Addr.add]] at x0
  subst hA
  have hlt := World.block_lt_of_cell? w _ x0
  have X0 := fun o1 o2 : Obj => (World.cell?_of_block ((((Below.refl w.heap.size w).alloc (Nat.le_refl _) o1).alloc (by simp) o2).block _ hlt)).trans x0
  obtain ⟨A1, c1, hcut0, hcut1, hcutC⟩ := cutBy (some ad) c l w hC hc 1 (by omega)
  have hcut : ∀ W : World, (Instr.slice 45 (.slice (some ad) l.length c) (some (.int .i64 1)) none none).run Try.prog W = .ok (.slice A1 (l.drop 1).length c1) W := hcut0
  have HW := Lib.hid (fun o1 o2 : Obj => part_any A1 c1 (l.drop 1) ((w.alloc o1).alloc o2) (Kd.C_alloc (Kd.C_alloc hcutC o1) o2) hcut1 (hB.drop 1) (by rw [List.length_drop]; omega))
  have h1l : (1 : Int) ≤ (l.length : Int) := by omega
  clear hcut0 hcut1 hcutC
  obtain ⟨A2, c2, hcutb0, hcutb1, hcutbC⟩ := cutBy (some ad) c l w hC hc 9 (by omega)
  have hcutb : ∀ W : World, (Instr.slice 45 (.slice (some ad) l.length c) (some (.int .i64 9)) none none).run Try.prog W = .ok (.slice A2 (l.drop 9).length c2) W := hcutb0
  have HW2 := Lib.hid (fun o1 o2 : Obj => part_any A2 c2 (l.drop 9) ((w.alloc o1).alloc o2) (Kd.C_alloc (Kd.C_alloc hcutbC o1) o2) hcutb1 (hB.drop 9) (by rw [List.length_drop]; omega))
  have h9l : (9 : Int) ≤ (l.length : Int) := by omega
  clear hcutb0 hcutb1 hcutbC
  clear hC hB hk x0
  have hx := fine_of hf
  have hy := fine_of hg
  rw [hf] at HW
  rw [hg] at HW2
  clear hf hg
  generalize (num ((l.drop 1).take 8)).toNat = x at HW hx ⊢
  generalize (num ((l.drop 9).take 8)).toNat = y at HW2 hy ⊢
  generalize (l.drop 1).length = m1 at hcut HW
  generalize (l.drop 9).length = m2 at hcutb HW2
  have hG : Good (vC x y) := .inr (.inr (.inl ⟨x, y, hx, hy, rfl⟩))
  have HM : Hid (∀ W : World, Calls Try.prog 54 #[.agg #[.int .i64 3, .int .i64 0, .float .f64 0, .complex .f64 x y, .string { data := #[] }]] W fun e w' => e = .returned (.bool true) ∧ Below W.heap.size W w') := Lib.hid (fun W => by
    have h := may_any (vC x y) hG.shp W
    rw [hG.may] at h
    exact h)
  have HP : Hid (∀ W : World, Calls Try.prog 32 #[.agg #[.int .i64 3, .int .i64 0, .float .f64 0, .complex .f64 x y, .string { data := #[] }]] W fun e w' => e = .returned (.agg #[.int .i64 3, .int .i64 0, .float .f64 0, .complex .f64 x y, .string { data := #[] }]) ∧ Below W.heap.size W w') := Lib.hid (fun W => plain_any (vC x y) hG W)
  clear hG
  show Calls Try.prog 18 #[.slice (some ad) l.length c] w fun e w' => e = .returned (.tuple #[.agg #[.int .i64 3, .int .i64 0, .float .f64 0, .complex .f64 x y, .string { data := #[] }], .int .i64 17, .int .i64 0]) ∧ Below w.heap.size w w'
  go_enter Try.func18, Try.ntmps18
  go_wp2_with fail
  refine wp_scope_fwd 0 (by rfl) ?_
  go_wp2_with fail
  refine (HW.out _ _).mono ?_
  rintro e w1 ⟨rfl, rfl⟩
  go_wp2_with fail
  refine (HW2.out _ _).mono ?_
  rintro e w1 ⟨rfl, rfl⟩
  go_wp2_with fail
  refine (HM.out _).mono ?_
  rintro e w1 ⟨rfl, hb1⟩
  obtain ⟨a0, a1, hb0⟩ := two_new w #[.int .i64 0, .int .i64 0, .float .f64 0, .complex .f64 0 0, .string { data := #[] }] #[.int .i64 3, .int .i64 0, .float .f64 0, .complex .f64 x y, .string { data := #[] }] 50 50
  have b0 := a0.below hb1 a0.lt
  have b1 := a1.below hb1 a1.lt
  have hb := hb0.trans (hb1.mono hb0.size)
  have y0 := b1.cell 0
  have y1 := b1.cell 1
  have y2 := b1.cell 2
  have y3 := b1.cell 3
  have y4 := b1.cell 4
  simp at y0 y1 y2 y3 y4
  clear a0 a1 hb0 hb1
  go_wp2_with fail
  refine (HP.out _).mono ?_
  rintro e w2 ⟨rfl, hb2⟩
  have c0 := b0.below hb2 b0.lt
  have hbb := hb.trans (hb2.mono hb.size)
  have r0 := c0.cell 0
  have rf0 := c0.frozen 0
  have r1 := c0.cell 1
  have rf1 := c0.frozen 1
  have r2 := c0.cell 2
  have rf2 := c0.frozen 2
  have r3 := c0.cell 3
  have rf3 := c0.frozen 3
  have r4 := c0.cell 4
  have rf4 := c0.frozen 4
  simp at r0 r1 r2 r3 r4
  clear y0 y1 y2 y3 y4
  go_wp2_with fail
  simp only [Exit.inBlock, Exit.then, Exit.jump]
  refine bodyPost_ret (results_ctt rfl _ _ w.heap.size 50 #[.int .i64 3, .int .i64 0, .float .f64 0, .complex .f64 x y, .string { data := #[] }] (0, 0) _ rfl (show Blk _ w.heap.size 50 #[.int .i64 3, .int .i64 0, .float .f64 0, .complex .f64 x y, .string { data := #[] }] from ((((c0.set_ 0 _).set_ 1 _).set_ 2 _).set_ 3 _).set_ 4 _) Try.underlying50 rfl (by kernel_rfl)) rfl ?_
  exact ⟨rfl, below_set (below_set (below_set (below_set (below_set hbb (Nat.le_refl _)) (Nat.le_refl _)) (Nat.le_refl _)) (Nat.le_refl _)) (Nat.le_refl _)⟩
set_option maxRecDepth 20000 in
set_option maxHeartbeats 4000000 in
theorem readV_comp_bad (A : Option Addr) (c : Nat) (l : List Int) (w : World) (hC : Kd.C (Kd.int .u8) w A l.length l) (hc : l.length ≤ c) (hB : By l) (h9 : 17 ≤ l.length) (hk : l.getD 0 0 = 3) (hf : fineB (num ((l.drop 1).take 8)).toNat = false ∨ fineB (num ((l.drop 9).take 8)).toNat = false) :
    Calls Try.prog 18 #[.slice A l.length c] w fun e w' => e = .returned (.tuple #[ag zV, .int .i64 0, .int .i64 110]) ∧ Below w.heap.size w w' := by
  have b0 : decide ((l.length : Int) < 3) = false := by simp; omega
  have b9 : decide (17 > (l.length : Int)) = false := by simp; omega
  obtain ⟨ad, hA, x0⟩ := byte_at hC 0 (by omega)
  rw [hk, show ad.add 0 = ad from by simp [Addr.add]] at x0
  subst hA
  have hlt := World.block_lt_of_cell? w _ x0
  have X0 := fun o1 o2 : Obj => (World.cell?_of_block ((((Below.refl w.heap.size w).alloc (Nat.le_refl _) o1).alloc (by simp) o2).block _ hlt)).trans x0
  obtain ⟨A1, c1, hcut0, hcut1, hcutC⟩ := cutBy (some ad) c l w hC hc 1 (by omega)
  have hcut : ∀ W : World, (Instr.slice 45 (.slice (some ad) l.length c) (some (.int .i64 1)) none none).run Try.prog W = .ok (.slice A1 (l.drop 1).length c1) W := hcut0
  have HW := Lib.hid (fun o1 o2 : Obj => part_any A1 c1 (l.drop 1) ((w.alloc o1).alloc o2) (Kd.C_alloc (Kd.C_alloc hcutC o1) o2) hcut1 (hB.drop 1) (by rw [List.length_drop]; omega))
  have h1l : (1 : Int) ≤ (l.length : Int) := by omega
  clear hcut0 hcut1 hcutC
  obtain ⟨A2, c2, hcutb0, hcutb1, hcutbC⟩ := cutBy (some ad) c l w hC hc 9 (by omega)
  have hcutb : ∀ W : World, (Instr.slice 45 (.slice (some ad) l.length c) (some (.int .i64 9)) none none).run Try.prog W = .ok (.slice A2 (l.drop 9).length c2) W := hcutb0
  have HW2 := Lib.hid (fun o1 o2 : Obj => part_any A2 c2 (l.drop 9) ((w.alloc o1).alloc o2) (Kd.C_alloc (Kd.C_alloc hcutbC o1) o2) hcutb1 (hB.drop 9) (by rw [List.length_drop]; omega))
  have h9l : (9 : Int) ≤ (l.length : Int) := by omega
  clear hcutb0 hcutb1 hcutbC
  clear hC hB hk x0
  generalize fineB (num ((l.drop 1).take 8)).toNat = f1 at HW hf
  generalize fineB (num ((l.drop 9).take 8)).toNat = f2 at HW2 hf
  generalize (num ((l.drop 1).take 8)).toNat = x at HW
  generalize (num ((l.drop 9).take 8)).toNat = y at HW2
  generalize (l.drop 1).length = m1 at hcut HW
  generalize (l.drop 9).length = m2 at hcutb HW2
  cases f1 with
  | false =>
    go_enter Try.func18, Try.ntmps18
    go_wp2_with fail
    refine wp_scope_fwd 0 (by rfl) ?_
    go_wp2_with fail
    refine (HW.out _ _).mono ?_
    rintro e w1 ⟨rfl, rfl⟩
    go_wp2_with fail
    refine (HW2.out _ _).mono ?_
    rintro e w1 ⟨rfl, rfl⟩
    go_wp2_with fail
    go_step3
    refine And.intro rfl ?_
    go_wp2_with fail
    simp only [Exit.jump]
    refine bodyPost_ret (results_ctt rfl _ _ w.heap.size 50 #[.int .i64 0, .int .i64 0, .float .f64 0, .complex .f64 0 0, .string { data := #[] }] (0, 0) _ rfl (show Blk _ w.heap.size 50 #[.int .i64 0, .int .i64 0, .float .f64 0, .complex .f64 0 0, .string { data := #[] }] from (two_new w _ _ _ _).1) Try.underlying50 rfl (by kernel_rfl)) rfl ?_
    exact ⟨rfl, (two_new w _ _ _ _).2.2⟩
  | true =>
    obtain rfl : f2 = false := by simpa using hf
    clear hf
    go_enter Try.func18, Try.ntmps18
    go_wp2_with fail
    refine wp_scope_fwd 0 (by rfl) ?_
    go_wp2_with fail
    refine (HW.out _ _).mono ?_
    rintro e w1 ⟨rfl, rfl⟩
    go_wp2_with fail
    refine (HW2.out _ _).mono ?_
    rintro e w1 ⟨rfl, rfl⟩
    go_wp2_with fail
    go_step3
    refine And.intro rfl ?_
    go_wp2_with fail
    simp only [Exit.jump]
    refine bodyPost_ret (results_ctt rfl _ _ w.heap.size 50 #[.int .i64 0, .int .i64 0, .float .f64 0, .complex .f64 0 0, .string { data := #[] }] (0, 0) _ rfl (show Blk _ w.heap.size 50 #[.int .i64 0, .int .i64 0, .float .f64 0, .complex .f64 0 0, .string { data := #[] }] from (two_new w _ _ _ _).1) Try.underlying50 rfl (by kernel_rfl)) rfl ?_
    exact ⟨rfl, (two_new w _ _ _ _).2.2⟩
set_option maxRecDepth 20000 in
set_option maxHeartbeats 4000000 in
theorem readV_text_cut (A : Option Addr) (c : Nat) (l : List Int) (w : World) (hC : Kd.C (Kd.int .u8) w A l.length l) (hc : l.length ≤ c) (hB : By l) (B1 B2 : Nat) (hB1 : l.getD 1 0 = B1) (hB2 : l.getD 2 0 = B2) (hb1 : B1 < 256) (hb2 : B2 < 256) (h3 : 3 ≤ l.length) (hk : l.getD 0 0 = 4) (hn : l.length < 3 + B1 * 256 + B2) :
    Calls Try.prog 18 #[.slice A l.length c] w fun e w' => e = .returned (.tuple #[ag zV, .int .i64 0, .int .i64 110]) ∧ Below w.heap.size w w' := by
  have b0 : decide ((l.length : Int) < 3) = false := by simp; omega
  obtain ⟨ad, hA, x0⟩ := byte_at hC 0 (by omega)
  rw [hk, show ad.add 0 = ad from by simp [Addr.add]] at x0
  subst hA
  have hlt := World.block_lt_of_cell? w _ x0
  have X0 := fun o1 o2 : Obj => (World.cell?_of_block ((((Below.refl w.heap.size w).alloc (Nat.le_refl _) o1).alloc (by simp) o2).block _ hlt)).trans x0
  obtain ⟨ad1, hA1, x1⟩ := byte_at hC 1 (by omega)
  obtain rfl := Option.some.inj hA1
  rw [show ad.add 1 = ⟨ad.block, ad.off + 1, none⟩ from rfl] at x1
  obtain ⟨ad2, hA2, x2⟩ := byte_at hC 2 (by omega)
  obtain rfl := Option.some.inj hA2
  rw [show ad.add 2 = ⟨ad.block, ad.off + 2, none⟩ from rfl] at x2
  have X1 := fun o1 o2 : Obj => (World.cell?_of_block ((((Below.refl w.heap.size w).alloc (Nat.le_refl _) o1).alloc (by simp) o2).block _ (World.block_lt_of_cell? w _ x1))).trans x1
  have X2 := fun o1 o2 : Obj => (World.cell?_of_block ((((Below.refl w.heap.size w).alloc (Nat.le_refl _) o1).alloc (by simp) o2).block _ (World.block_lt_of_cell? w _ x2))).trans x2
  rw [hB1] at X1 x1
  rw [hB2] at X2 x2
  have s1 : IntKind.i64.wrap ((B1 : Int) * 256) = (B1 : Int) * 256 := by rw [IntKind.wrap_i64]; omega
  have s2 : IntKind.i64.wrap (3 + (B1 : Int) * 256) = 3 + (B1 : Int) * 256 := by rw [IntKind.wrap_i64]; omega
  have s3 : IntKind.i64.wrap (3 + (B1 : Int) * 256 + (B2 : Int)) = 3 + (B1 : Int) * 256 + (B2 : Int) := by rw [IntKind.wrap_i64]; omega
  have hl1 : (1 : Int) < (l.length : Int) := by omega
  have hl2 : (2 : Int) < (l.length : Int) := by omega
  have b9 : decide (3 + (B1 : Int) * 256 + (B2 : Int) > (l.length : Int)) = true := by simp; omega
  clear hC hB hk x0 x1 x2
  go_enter Try.func18, Try.ntmps18
  go_wp2_with fail
  refine wp_scope_fwd 0 (by rfl) ?_
  go_wp2_with fail
  go_upto_region 9 with fail
  have Y0 := X0 (.cells #[.int .i64 0, .int .i64 0, .float .f64 0, .complex .f64 0 0, .string { data := #[] }] 50) (.cells #[.int .i64 4, .int .i64 0, .float .f64 0, .complex .f64 0 0, .string { data := #[] }] 50)
  have Y1 := X1 (.cells #[.int .i64 0, .int .i64 0, .float .f64 0, .complex .f64 0 0, .string { data := #[] }] 50) (.cells #[.int .i64 4, .int .i64 0, .float .f64 0, .complex .f64 0 0, .string { data := #[] }] 50)
  have Y2 := X2 (.cells #[.int .i64 0, .int .i64 0, .float .f64 0, .complex .f64 0 0, .string { data := #[] }] 50) (.cells #[.int .i64 4, .int .i64 0, .float .f64 0, .complex .f64 0 0, .string { data := #[] }] 50)
  obtain ⟨a0, a1, hbq⟩ := two_new w #[.int .i64 0, .int .i64 0, .float .f64 0, .complex .f64 0 0, .string { data := #[] }] #[.int .i64 4, .int .i64 0, .float .f64 0, .complex .f64 0 0, .string { data := #[] }] 50 50
  generalize hWg : ((w.alloc (.cells #[.int .i64 0, .int .i64 0, .float .f64 0, .complex .f64 0 0, .string { data := #[] }] 50)).alloc (.cells #[.int .i64 4, .int .i64 0, .float .f64 0, .complex .f64 0 0, .string { data := #[] }] 50)) = W4 at a0 a1 hbq Y0 Y1 Y2 ⊢
  clear hWg X0 X1 X2
  go_quiet (fail)
  clear Y1 Y2
  have r0 := a0.cell 0
  have rf0 := a0.frozen 0
  have r1 := a0.cell 1
  have rf1 := a0.frozen 1
  have r2 := a0.cell 2
  have rf2 := a0.frozen 2
  have r3 := a0.cell 3
  have rf3 := a0.frozen 3
  have r4 := a0.cell 4
  have rf4 := a0.frozen 4
  simp at r0 r1 r2 r3 r4
  go_wp2_with fail
  go_step3
  refine And.intro rfl ?_
  go_wp2_with fail
  simp only [Exit.jump]
  refine bodyPost_ret (results_ctt rfl _ _ w.heap.size 50 #[.int .i64 0, .int .i64 0, .float .f64 0, .complex .f64 0 0, .string { data := #[] }] (0, 0) _ rfl (show Blk _ w.heap.size 50 #[.int .i64 0, .int .i64 0, .float .f64 0, .complex .f64 0 0, .string { data := #[] }] from (((((a0.drewN nq).set_ 0 _).set_ 1 _).set_ 2 _).set_ 3 _).set_ 4 _) Try.underlying50 rfl (by kernel_rfl)) rfl ?_
  exact ⟨rfl, below_set (below_set (below_set (below_set (below_set (pw_below_drewN hbq nq) (Nat.le_refl _)) (Nat.le_refl _)) (Nat.le_refl _)) (Nat.le_refl _)) (Nat.le_refl _)⟩
set_option maxRecDepth 20000 in
set_option maxHeartbeats 4000000 in
theorem readV_text (A : Option Addr) (c : Nat) (l : List Int) (w : World) (hC : Kd.C (Kd.int .u8) w A l.length l) (hc : l.length ≤ c) (hB : By l) (B1 B2 : Nat) (hB1 : l.getD 1 0 = B1) (hB2 : l.getD 2 0 = B2) (hb1 : B1 < 256) (hb2 : B2 < 256) (h3 : 3 ≤ l.length) (hk : l.getD 0 0 = 4) (hn : 3 + B1 * 256 + B2 ≤ l.length) (h256 : B1 * 256 + B2 ≤ 256) :
    Calls Try.prog 18 #[.slice A l.length c] w fun e w' => e = .returned (.tuple #[ag (vT (strOfNums ((l.take (3 + B1 * 256 + B2)).drop 3))), .int .i64 (3 + (B1 : Int) * 256 + (B2 : Int)), .int .i64 0]) ∧ Below w.heap.size w w' := by
  have b0 : decide ((l.length : Int) < 3) = false := by simp; omega
  obtain ⟨ad, hA, x0⟩ := byte_at hC 0 (by omega)
  rw [hk, show ad.add 0 = ad from by simp [Addr.add]] at x0
  subst hA
  have hlt := World.block_lt_of_cell? w _ x0
  have X0 := fun o1 o2 : Obj => (World.cell?_of_block ((((Below.refl w.heap.size w).alloc (Nat.le_refl _) o1).alloc (by simp) o2).block _ hlt)).trans x0
  obtain ⟨ad1, hA1, x1⟩ := byte_at hC 1 (by omega)
  obtain rfl := Option.some.inj hA1
  rw [show ad.add 1 = ⟨ad.block, ad.off + 1, none⟩ from rfl] at x1
  obtain ⟨ad2, hA2, x2⟩ := byte_at hC 2 (by omega)
  obtain rfl := Option.some.inj hA2
  rw [show ad.add 2 = ⟨ad.block, ad.off + 2, none⟩ from rfl] at x2
  have X1 := fun o1 o2 : Obj => (World.cell?_of_block ((((Below.refl w.heap.size w).alloc (Nat.le_refl _) o1).alloc (by simp) o2).block _ (World.block_lt_of_cell? w _ x1))).trans x1
  have X2 := fun o1 o2 : Obj => (World.cell?_of_block ((((Below.refl w.heap.size w).alloc (Nat.le_refl _) o1).alloc (by simp) o2).block _ (World.block_lt_of_cell? w _ x2))).trans x2
  rw [hB1] at X1 x1
  rw [hB2] at X2 x2
  have s1 : IntKind.i64.wrap ((B1 : Int) * 256) = (B1 : Int) * 256 := by rw [IntKind.wrap_i64]; omega
  have s2 : IntKind.i64.wrap (3 + (B1 : Int) * 256) = 3 + (B1 : Int) * 256 := by rw [IntKind.wrap_i64]; omega
  have s3 : IntKind.i64.wrap (3 + (B1 : Int) * 256 + (B2 : Int)) = 3 + (B1 : Int) * 256 + (B2 : Int) := by rw [IntKind.wrap_i64]; omega
  have hl1 : (1 : Int) < (l.length : Int) := by omega
  have hl2 : (2 : Int) < (l.length : Int) := by omega
  obtain ⟨A1, c1, hcut0, hcut1, hcutC⟩ := cutMid (some ad) c l w hC hc 3 (3 + B1 * 256 + B2) (by omega) (by omega)
  have hcut : ∀ W : World, (Instr.slice 45 (.slice (some ad) l.length c) (some (.int .i64 3)) (some (.int .i64 (3 + (B1 : Int) * 256 + (B2 : Int)))) none).run Try.prog W = .ok (.slice A1 ((l.take (3 + B1 * 256 + B2)).drop 3).length c1) W := by
    intro W
    rw [show (3 + (B1 : Int) * 256 + (B2 : Int)) = ((3 + B1 * 256 + B2 : Nat) : Int) from by omega]
    exact hcut0 W
  have hsz : ((l.take (3 + B1 * 256 + B2)).drop 3).length = B1 * 256 + B2 := by rw [List.length_drop, List.length_take]; omega
  have b9 : decide (3 + (B1 : Int) * 256 + (B2 : Int) > (l.length : Int)) = false := by simp; omega
  have HCC := Lib.hid hcutC
  clear hC hB hk x0 x1 x2 hcut0 hcut1 hcutC
  have hs : (strOfNums ((l.take (3 + B1 * 256 + B2)).drop 3)).size ≤ 256 := by rw [strOfNums_size, hsz]; exact h256
  generalize hsd : strOfNums ((l.take (3 + B1 * 256 + B2)).drop 3) = s at hs ⊢
  have hG : Good (vT s) := .inr (.inr (.inr ⟨s, hs, rfl⟩))
  have HM : Hid (∀ W : World, Calls Try.prog 54 #[.agg #[.int .i64 4, .int .i64 0, .float .f64 0, .complex .f64 0 0, .string s]] W fun e w' => e = .returned (.bool true) ∧ Below W.heap.size W w') := Lib.hid (fun W => by
    have h := may_any (vT s) hG.shp W
    rw [hG.may] at h
    exact h)
  have HP : Hid (∀ W : World, Calls Try.prog 32 #[.agg #[.int .i64 4, .int .i64 0, .float .f64 0, .complex .f64 0 0, .string s]] W fun e w' => e = .returned (.agg #[.int .i64 4, .int .i64 0, .float .f64 0, .complex .f64 0 0, .string s]) ∧ Below W.heap.size W w') := Lib.hid (fun W => plain_any (vT s) hG W)
  clear hG
  show Calls Try.prog 18 #[.slice (some ad) l.length c] w fun e w' => e = .returned (.tuple #[.agg #[.int .i64 4, .int .i64 0, .float .f64 0, .complex .f64 0 0, .string s], .int .i64 (3 + (B1 : Int) * 256 + (B2 : Int)), .int .i64 0]) ∧ Below w.heap.size w w'
  go_enter Try.func18, Try.ntmps18
  go_wp2_with fail
  refine wp_scope_fwd 0 (by rfl) ?_
  go_wp2_with fail
  go_upto_region 9 with fail
  have Y0 := X0 (.cells #[.int .i64 0, .int .i64 0, .float .f64 0, .complex .f64 0 0, .string { data := #[] }] 50) (.cells #[.int .i64 4, .int .i64 0, .float .f64 0, .complex .f64 0 0, .string { data := #[] }] 50)
  have Y1 := X1 (.cells #[.int .i64 0, .int .i64 0, .float .f64 0, .complex .f64 0 0, .string { data := #[] }] 50) (.cells #[.int .i64 4, .int .i64 0, .float .f64 0, .complex .f64 0 0, .string { data := #[] }] 50)
  have Y2 := X2 (.cells #[.int .i64 0, .int .i64 0, .float .f64 0, .complex .f64 0 0, .string { data := #[] }] 50) (.cells #[.int .i64 4, .int .i64 0, .float .f64 0, .complex .f64 0 0, .string { data := #[] }] 50)
  obtain ⟨a0, a1, hbq⟩ := two_new w #[.int .i64 0, .int .i64 0, .float .f64 0, .complex .f64 0 0, .string { data := #[] }] #[.int .i64 4, .int .i64 0, .float .f64 0, .complex .f64 0 0, .string { data := #[] }] 50 50
  generalize hWg : ((w.alloc (.cells #[.int .i64 0, .int .i64 0, .float .f64 0, .complex .f64 0 0, .string { data := #[] }] 50)).alloc (.cells #[.int .i64 4, .int .i64 0, .float .f64 0, .complex .f64 0 0, .string { data := #[] }] 50)) = W4 at a0 a1 hbq Y0 Y1 Y2 ⊢
  clear hWg X0 X1 X2
  go_quiet (fail)
  clear Y1 Y2
  have r0 := a0.cell 0
  have rf0 := a0.frozen 0
  have r1 := a0.cell 1
  have rf1 := a0.frozen 1
  have r2 := a0.cell 2
  have rf2 := a0.frozen 2
  have r3 := a0.cell 3
  have rf3 := a0.frozen 3
  have r4 := a0.cell 4
  have rf4 := a0.frozen 4
  simp at r0 r1 r2 r3 r4
  have hstr := Kd.C_string (P := Try.prog) (src := 45) (dst := 9) (c := c1) Try.underlying45 Try.underlying5 Try.underlying9 (Kd.C_drewN (Kd.C_below HCC.out hbq) nq)
  have HSZ := Lib.hid hsz
  clear hsz
  generalize ((l.take (3 + B1 * 256 + B2)).drop 3).length = m1 at hcut hstr HSZ HCC
  have y0 := a1.cell 0
  have yf0 := a1.frozen 0
  have y1 := a1.cell 1
  have yf1 := a1.frozen 1
  have y2 := a1.cell 2
  have yf2 := a1.frozen 2
  have y3 := a1.cell 3
  have yf3 := a1.frozen 3
  have y4 := a1.cell 4
  have yf4 := a1.frozen 4
  simp at y0 y1 y2 y3 y4
  rw [hsd] at hstr
  clear hsd r0 r1 r2 r3 r4 rf0 rf1 rf2 rf3 rf4 hs
  go_wp2_with fail
  refine (HM.out _).mono ?_
  rintro e w1 ⟨rfl, hb1⟩
  have a0 := (a0.drewN nq).far (show w.heap.size ≠ w.heap.size + 1 from by omega) (p := ⟨w.heap.size + 1, 4, none⟩) (.string s)
  have a1 : Blk _ (w.heap.size + 1) 50 #[.int .i64 4, .int .i64 0, .float .f64 0, .complex .f64 0 0, .string s] := (a1.drewN nq).set_ 4 (.string s)
  have hb0 := below_set (j := 4) (v := .string s) (pw_below_drewN hbq nq) (Nat.le_succ _)
  clear y0 y1 y2 y3 y4 yf0 yf1 yf2 yf3 yf4
  have b0 := a0.below hb1 a0.lt
  have b1 := a1.below hb1 a1.lt
  have hb := hb0.trans (hb1.mono hb0.size)
  have y0 := b1.cell 0
  have y1 := b1.cell 1
  have y2 := b1.cell 2
  have y3 := b1.cell 3
  have y4 := b1.cell 4
  simp at y0 y1 y2 y3 y4
  clear a0 a1 hb0 hb1
  go_wp2_with fail
  refine (HP.out _).mono ?_
  rintro e w2 ⟨rfl, hb2⟩
  have c0 := b0.below hb2 b0.lt
  have hbb := hb.trans (hb2.mono hb.size)
  have r0 := c0.cell 0
  have rf0 := c0.frozen 0
  have r1 := c0.cell 1
  have rf1 := c0.frozen 1
  have r2 := c0.cell 2
  have rf2 := c0.frozen 2
  have r3 := c0.cell 3
  have rf3 := c0.frozen 3
  have r4 := c0.cell 4
  have rf4 := c0.frozen 4
  simp at r0 r1 r2 r3 r4
  clear y0 y1 y2 y3 y4
  go_wp2_with fail
  simp only [Exit.inBlock, Exit.then, Exit.jump]
  refine bodyPost_ret (results_ctt rfl _ _ w.heap.size 50 #[.int .i64 4, .int .i64 0, .float .f64 0, .complex .f64 0 0, .string s] (0, 0) _ rfl (show Blk _ w.heap.size 50 #[.int .i64 4, .int .i64 0, .float .f64 0, .complex .f64 0 0, .string s] from ((((c0.set_ 0 _).set_ 1 _).set_ 2 _).set_ 3 _).set_ 4 _) Try.underlying50 rfl (by kernel_rfl)) rfl ?_
  exact ⟨rfl, below_set (below_set (below_set (below_set (below_set hbb (Nat.le_refl _)) (Nat.le_refl _)) (Nat.le_refl _)) (Nat.le_refl _)) (Nat.le_refl _)⟩
set_option maxRecDepth 20000 in
set_option maxHeartbeats 4000000 in
theorem readV_text_long (A : Option Addr) (c : Nat) (l : List Int) (w : World) (hC : Kd.C (Kd.int .u8) w A l.length l) (hc : l.length ≤ c) (hB : By l) (B1 B2 : Nat) (hB1 : l.getD 1 0 = B1) (hB2 : l.getD 2 0 = B2) (hb1 : B1 < 256) (hb2 : B2 < 256) (h3 : 3 ≤ l.length) (hk : l.getD 0 0 = 4) (hn : 3 + B1 * 256 + B2 ≤ l.length) (h256 : 256 < B1 * 256 + B2) :
    Calls Try.prog 18 #[.slice A l.length c] w fun e w' => e = .returned (.tuple #[ag zV, .int .i64 0, .int .i64 110]) ∧ Below w.heap.size w w' := by
  have b0 : decide ((l.length : Int) < 3) = false := by simp; omega
  obtain ⟨ad, hA, x0⟩ := byte_at hC 0 (by omega)
  rw [hk, show ad.add 0 = ad from by simp [Addr.add]] at x0
  subst hA
  have hlt := World.block_lt_of_cell? w _ x0
  have X0 := fun o1 o2 : Obj => (World.cell?_of_block ((((Below.refl w.heap.size w).alloc (Nat.le_refl _) o1).alloc (by simp) o2).block _ hlt)).trans x0
  obtain ⟨ad1, hA1, x1⟩ := byte_at hC 1 (by omega)
  obtain rfl := Option.some.inj hA1
  rw [show ad.add 1 = ⟨ad.block, ad.off + 1, none⟩ from rfl] at x1
  obtain ⟨ad2, hA2, x2⟩ := byte_at hC 2 (by omega)
  obtain rfl := Option.some.inj hA2
  rw [show ad.add 2 = ⟨ad.block, ad.off + 2, none⟩ from rfl] at x2
  have X1 := fun o1 o2 : Obj => (World.cell?_of_block ((((Below.refl w.heap.size w).alloc (Nat.le_refl _) o1).alloc (by simp) o2).block _ (World.block_lt_of_cell? w _ x1))).trans x1
  have X2 := fun o1 o2 : Obj => (World.cell?_of_block ((((Below.refl w.heap.size w).alloc (Nat.le_refl _) o1).alloc (by simp) o2).block _ (World.block_lt_of_cell? w _ x2))).trans x2
  rw [hB1] at X1 x1
  rw [hB2] at X2 x2
  have s1 : IntKind.i64.wrap ((B1 : Int) * 256) = (B1 : Int) * 256 := by rw [IntKind.wrap_i64]; omega
  have s2 : IntKind.i64.wrap (3 + (B1 : Int) * 256) = 3 + (B1 : Int) * 256 := by rw [IntKind.wrap_i64]; omega
  have s3 : IntKind.i64.wrap (3 + (B1 : Int) * 256 + (B2 : Int)) = 3 + (B1 : Int) * 256 + (B2 : Int) := by rw [IntKind.wrap_i64]; omega
  have hl1 : (1 : Int) < (l.length : Int) := by omega
  have hl2 : (2 : Int) < (l.length : Int) := by omega
  obtain ⟨A1, c1, hcut0, hcut1, hcutC⟩ := cutMid (some ad) c l w hC hc 3 (3 + B1 * 256 + B2) (by omega) (by omega)
  have hcut : ∀ W : World, (Instr.slice 45 (.slice (some ad) l.length c) (some (.int .i64 3)) (some (.int .i64 (3 + (B1 : Int) * 256 + (B2 : Int)))) none).run Try.prog W = .ok (.slice A1 ((l.take (3 + B1 * 256 + B2)).drop 3).length c1) W := by
    intro W
    rw [show (3 + (B1 : Int) * 256 + (B2 : Int)) = ((3 + B1 * 256 + B2 : Nat) : Int) from by omega]
    exact hcut0 W
  have hsz : ((l.take (3 + B1 * 256 + B2)).drop 3).length = B1 * 256 + B2 := by rw [List.length_drop, List.length_take]; omega
  have b9 : decide (3 + (B1 : Int) * 256 + (B2 : Int) > (l.length : Int)) = false := by simp; omega
  have HCC := Lib.hid hcutC
  clear hC hB hk x0 x1 x2 hcut0 hcut1 hcutC
  have hs : 256 < (strOfNums ((l.take (3 + B1 * 256 + B2)).drop 3)).size := by rw [strOfNums_size, hsz]; exact h256
  generalize hsd : strOfNums ((l.take (3 + B1 * 256 + B2)).drop 3) = s at hs ⊢
  have HM : Hid (∀ W : World, Calls Try.prog 54 #[.agg #[.int .i64 4, .int .i64 0, .float .f64 0, .complex .f64 0 0, .string s]] W fun e w' => e = .returned (.bool false) ∧ Below W.heap.size W w') := Lib.hid (fun W => by
    have h := may_any (vT s) (.inr (.inr (.inr ⟨s, rfl⟩))) W
    have hm : mayB (vT s) = false := by unfold mayB vT; simp; omega
    rw [hm] at h
    exact h)
  go_enter Try.func18, Try.ntmps18
  go_wp2_with fail
  refine wp_scope_fwd 0 (by rfl) ?_
  go_wp2_with fail
  go_upto_region 9 with fail
  have Y0 := X0 (.cells #[.int .i64 0, .int .i64 0, .float .f64 0, .complex .f64 0 0, .string { data := #[] }] 50) (.cells #[.int .i64 4, .int .i64 0, .float .f64 0, .complex .f64 0 0, .string { data := #[] }] 50)
  have Y1 := X1 (.cells #[.int .i64 0, .int .i64 0, .float .f64 0, .complex .f64 0 0, .string { data := #[] }] 50) (.cells #[.int .i64 4, .int .i64 0, .float .f64 0, .complex .f64 0 0, .string { data := #[] }] 50)
  have Y2 := X2 (.cells #[.int .i64 0, .int .i64 0, .float .f64 0, .complex .f64 0 0, .string { data := #[] }] 50) (.cells #[.int .i64 4, .int .i64 0, .float .f64 0, .complex .f64 0 0, .string { data := #[] }] 50)
  obtain ⟨a0, a1, hbq⟩ := two_new w #[.int .i64 0, .int .i64 0, .float .f64 0, .complex .f64 0 0, .string { data := #[] }] #[.int .i64 4, .int .i64 0, .float .f64 0, .complex .f64 0 0, .string { data := #[] }] 50 50
  generalize hWg : ((w.alloc (.cells #[.int .i64 0, .int .i64 0, .float .f64 0, .complex .f64 0 0, .string { data := #[] }] 50)).alloc (.cells #[.int .i64 4, .int .i64 0, .float .f64 0, .complex .f64 0 0, .string { data := #[] }] 50)) = W4 at a0 a1 hbq Y0 Y1 Y2 ⊢
  clear hWg X0 X1 X2
  go_quiet (fail)
  clear Y1 Y2
  have r0 := a0.cell 0
  have rf0 := a0.frozen 0
  have r1 := a0.cell 1
  have rf1 := a0.frozen 1
  have r2 := a0.cell 2
  have rf2 := a0.frozen 2
  have r3 := a0.cell 3
  have rf3 := a0.frozen 3
  have r4 := a0.cell 4
  have rf4 := a0.frozen 4
  simp at r0 r1 r2 r3 r4
  have hstr := Kd.C_string (P := Try.prog) (src := 45) (dst := 9) (c := c1) Try.underlying45 Try.underlying5 Try.underlying9 (Kd.C_drewN (Kd.C_below HCC.out hbq) nq)
  have HSZ := Lib.hid hsz
  clear hsz
  generalize ((l.take (3 + B1 * 256 + B2)).drop 3).length = m1 at hcut hstr HSZ HCC
  have y0 := a1.cell 0
  have yf0 := a1.frozen 0
  have y1 := a1.cell 1
  have yf1 := a1.frozen 1
  have y2 := a1.cell 2
  have yf2 := a1.frozen 2
  have y3 := a1.cell 3
  have yf3 := a1.frozen 3
  have y4 := a1.cell 4
  have yf4 := a1.frozen 4
  simp at y0 y1 y2 y3 y4
  rw [hsd] at hstr
  clear hsd r0 r1 r2 r3 r4 rf0 rf1 rf2 rf3 rf4 hs
  go_wp2_with fail
  refine (HM.out _).mono ?_
  rintro e w1 ⟨rfl, hb1⟩
  have a0 := (a0.drewN nq).far (show w.heap.size ≠ w.heap.size + 1 from by omega) (p := ⟨w.heap.size + 1, 4, none⟩) (.string s)
  have a1 : Blk _ (w.heap.size + 1) 50 #[.int .i64 4, .int .i64 0, .float .f64 0, .complex .f64 0 0, .string s] := (a1.drewN nq).set_ 4 (.string s)
  have hb0 := below_set (j := 4) (v := .string s) (pw_below_drewN hbq nq) (Nat.le_succ _)
  clear y0 y1 y2 y3 y4 yf0 yf1 yf2 yf3 yf4
  have b0 := a0.below hb1 a0.lt
  have hb := hb0.trans (hb1.mono hb0.size)
  have r0 := b0.cell 0
  have rf0 := b0.frozen 0
  have r1 := b0.cell 1
  have rf1 := b0.frozen 1
  have r2 := b0.cell 2
  have rf2 := b0.frozen 2
  have r3 := b0.cell 3
  have rf3 := b0.frozen 3
  have r4 := b0.cell 4
  have rf4 := b0.frozen 4
  simp at r0 r1 r2 r3 r4
  go_wp2_with fail
  go_step3
  refine And.intro rfl ?_
  go_wp2_with fail
  simp only [Exit.jump]
  refine bodyPost_ret (results_ctt rfl _ _ w.heap.size 50 #[.int .i64 0, .int .i64 0, .float .f64 0, .complex .f64 0 0, .string { data := #[] }] (0, 0) _ rfl (show Blk _ w.heap.size 50 #[.int .i64 0, .int .i64 0, .float .f64 0, .complex .f64 0 0, .string { data := #[] }] from ((((b0.set_ 0 _).set_ 1 _).set_ 2 _).set_ 3 _).set_ 4 _) Try.underlying50 rfl (by kernel_rfl)) rfl ?_
  exact ⟨rfl, below_set (below_set (below_set (below_set (below_set hb (Nat.le_refl _)) (Nat.le_refl _)) (Nat.le_refl _)) (Nat.le_refl _)) (Nat.le_refl _)⟩
set_option maxRecDepth 20000 in
set_option maxHeartbeats 4000000 in
theorem readV_kind (A : Option Addr) (c : Nat) (l : List Int) (w : World) (hC : Kd.C (Kd.int .u8) w A l.length l) (hc : l.length ≤ c) (hB : By l) (h3 : 3 ≤ l.length) (hk : l.getD 0 0 ≠ 1 ∧ l.getD 0 0 ≠ 2 ∧ l.getD 0 0 ≠ 3 ∧ l.getD 0 0 ≠ 4) :
    Calls Try.prog 18 #[.slice A l.length c] w fun e w' => e = .returned (.tuple #[ag zV, .int .i64 0, .int .i64 110]) ∧ Below w.heap.size w w' := by
  have b0 : decide ((l.length : Int) < 3) = false := by simp; omega
  obtain ⟨ad, hA, x0⟩ := byte_at hC 0 (by omega)
  rw [show ad.add 0 = ad from by simp [Addr.add]] at x0
  subst hA
  have hlt := World.block_lt_of_cell? w _ x0
  have X0 := fun o1 o2 : Obj => (World.cell?_of_block ((((Below.refl w.heap.size w).alloc (Nat.le_refl _) o1).alloc (by simp) o2).block _ hlt)).trans x0
  have hq := hB.at 0
  generalize l.getD 0 0 = q at x0 X0 hk hq
  have e1 : (q == 1) = false := by simp [hk.1]
  have e2 : (q == 2) = false := by simp [hk.2.1]
  have e3 : (q == 3) = false := by simp [hk.2.2.1]
  have e4 : (q == 4) = false := by simp [hk.2.2.2]
  clear hC hB hk x0
  go_enter Try.func18, Try.ntmps18
  go_wp2_with fail
  refine wp_scope_fwd 0 (by rfl) ?_
  go_wp2_with fail
  trace_state
  go_step3
  refine And.intro rfl ?_
  go_wp2_with fail
  simp only [Exit.jump]
  refine bodyPost_ret (results_ctt rfl _ _ w.heap.size 50 #[.int .i64 0, .int .i64 0, .float .f64 0, .complex .f64 0 0, .string { data := #[] }] (0, 0) _ rfl (show Blk _ w.heap.size 50 #[.int .i64 0, .int .i64 0, .float .f64 0, .complex .f64 0 0, .string { data := #[] }] from (two_new w _ _ _ _).1) Try.underlying50 rfl (by kernel_rfl)) rfl ?_
  exact ⟨rfl, (two_new w _ _ _ _).2.2⟩
set_option maxRecDepth 20000 in
set_option maxHeartbeats 4000000 in
theorem readV_cut9a (A : Option Addr) (c : Nat) (l : List Int) (w : World) (hC : Kd.C (Kd.int .u8) w A l.length l) (hc : l.length ≤ c) (hB : By l) (h3 : 3 ≤ l.length) (hk : l.getD 0 0 = 1) (h9 : l.length < 9) :
    Calls Try.prog 18 #[.slice A l.length c] w fun e w' => e = .returned (.tuple #[ag zV, .int .i64 0, .int .i64 110]) ∧ Below w.heap.size w w' := by
  have b0 : decide ((l.length : Int) < 3) = false := by simp; omega
  have b9 : decide (9 > (l.length : Int)) = true := by simp; omega
  obtain ⟨ad, hA, x0⟩ := byte_at hC 0 (by omega)
  rw [hk, show ad.add 0 = ad from by simp [Addr.add]] at x0
  subst hA
  have hlt := World.block_lt_of_cell? w _ x0
  have X0 := fun o1 o2 : Obj => (World.cell?_of_block ((((Below.refl w.heap.size w).alloc (Nat.le_refl _) o1).alloc (by simp) o2).block _ hlt)).trans x0
  clear hC hB hk x0
  go_enter Try.func18, Try.ntmps18
  go_wp2_with fail
  refine wp_scope_fwd 0 (by rfl) ?_
  go_wp2_with fail
  go_step3
  refine And.intro rfl ?_
  go_wp2_with fail
  simp only [Exit.jump]
  refine bodyPost_ret (results_ctt rfl _ _ w.heap.size 50 #[.int .i64 0, .int .i64 0, .float .f64 0, .complex .f64 0 0, .string { data := #[] }] (0, 0) _ rfl (show Blk _ w.heap.size 50 #[.int .i64 0, .int .i64 0, .float .f64 0, .complex .f64 0 0, .string { data := #[] }] from (two_new w _ _ _ _).1) Try.underlying50 rfl (by kernel_rfl)) rfl ?_
  exact ⟨rfl, (two_new w _ _ _ _).2.2⟩
set_option maxRecDepth 20000 in
set_option maxHeartbeats 4000000 in
theorem readV_cut9b (A : Option Addr) (c : Nat) (l : List Int) (w : World) (hC : Kd.C (Kd.int .u8) w A l.length l) (hc : l.length ≤ c) (hB : By l) (h3 : 3 ≤ l.length) (hk : l.getD 0 0 = 2) (h9 : l.length < 9) :
    Calls Try.prog 18 #[.slice A l.length c] w fun e w' => e = .returned (.tuple #[ag zV, .int .i64 0, .int .i64 110]) ∧ Below w.heap.size w w' := by
  have b0 : decide ((l.length : Int) < 3) = false := by simp; omega
  have b9 : decide (9 > (l.length : Int)) = true := by simp; omega
  obtain ⟨ad, hA, x0⟩ := byte_at hC 0 (by omega)
  rw [hk, show ad.add 0 = ad from by simp [Addr.add]] at x0
  subst hA
  have hlt := World.block_lt_of_cell? w _ x0
  have X0 := fun o1 o2 : Obj => (World.cell?_of_block ((((Below.refl w.heap.size w).alloc (Nat.le_refl _) o1).alloc (by simp) o2).block _ hlt)).trans x0
  clear hC hB hk x0
  go_enter Try.func18, Try.ntmps18
  go_wp2_with fail
  refine wp_scope_fwd 0 (by rfl) ?_
  go_wp2_with fail
  go_step3
  refine And.intro rfl ?_
  go_wp2_with fail
  simp only [Exit.jump]
  refine bodyPost_ret (results_ctt rfl _ _ w.heap.size 50 #[.int .i64 0, .int .i64 0, .float .f64 0, .complex .f64 0 0, .string { data := #[] }] (0, 0) _ rfl (show Blk _ w.heap.size 50 #[.int .i64 0, .int .i64 0, .float .f64 0, .complex .f64 0 0, .string { data := #[] }] from (two_new w _ _ _ _).1) Try.underlying50 rfl (by kernel_rfl)) rfl ?_
  exact ⟨rfl, (two_new w _ _ _ _).2.2⟩
set_option maxRecDepth 20000 in
set_option maxHeartbeats 4000000 in
theorem readV_cut17 (A : Option Addr) (c : Nat) (l : List Int) (w : World) (hC : Kd.C (Kd.int .u8) w A l.length l) (hc : l.length ≤ c) (hB : By l) (h3 : 3 ≤ l.length) (hk : l.getD 0 0 = 3) (h9 : l.length < 17) :
    Calls Try.prog 18 #[.slice A l.length c] w fun e w' => e = .returned (.tuple #[ag zV, .int .i64 0, .int .i64 110]) ∧ Below w.heap.size w w' := by
  have b0 : decide ((l.length : Int) < 3) = false := by simp; omega
  have b9 : decide (17 > (l.length : Int)) = true := by simp; omega
  obtain ⟨ad, hA, x0⟩ := byte_at hC 0 (by omega)
  rw [hk, show ad.add 0 = ad from by simp [Addr.add]] at x0
  subst hA
  have hlt := World.block_lt_of_cell? w _ x0
  have X0 := fun o1 o2 : Obj => (World.cell?_of_block ((((Below.refl w.heap.size w).alloc (Nat.le_refl _) o1).alloc (by simp) o2).block _ hlt)).trans x0
  clear hC hB hk x0
  go_enter Try.func18, Try.ntmps18
  go_wp2_with fail
  refine wp_scope_fwd 0 (by rfl) ?_
  go_wp2_with fail
  go_step3
  refine And.intro rfl ?_
  go_wp2_with fail
  simp only [Exit.jump]
  refine bodyPost_ret (results_ctt rfl _ _ w.heap.size 50 #[.int .i64 0, .int .i64 0, .float .f64 0, .complex .f64 0 0, .string { data := #[] }] (0, 0) _ rfl (show Blk _ w.heap.size 50 #[.int .i64 0, .int .i64 0, .float .f64 0, .complex .f64 0 0, .string { data := #[] }] from (two_new w _ _ _ _).1) Try.underlying50 rfl (by kernel_rfl)) rfl ?_
  exact ⟨rfl, (two_new w _ _ _ _).2.2⟩
end Go.Proofs.Ytlbfnnngemonoaa.Wir
