/- Small functions on values: Plain, Size. -/
import Derived.Test.YtlbfnnngemonoaaWirBase
import Derived.StillTailTactics
namespace Go.Proofs.Ytlbfnnngemonoaa.Wir
open Go.RowKit Go.Proofs.Ytlbfnnngemonoaa.PWireReads
open Go.Proofs.Ytlbfnnngemonoaa.Fat (Blk Chg Off)
open Go.Proofs.YtlbfnnngemonoaaW.PrintWords Go.Proofs.YtlbfnnngemonoaaW.PrintLast Go.Proofs.YtlbfnnngemonoaaW.PrintMore
set_option linter.unusedVariables false
set_option linter.unusedSimpArgs false
attribute [local go_sem] run_store_float run_store_complex

def szOf (v : V) : Int := if v.k = 4 then v.s.size else if v.k = 3 then 16 else 8
theorem two_new (w : World) (cs1 cs2 : Array Value) (t1 t2 : TypeId) : Blk ((w.alloc (.cells cs1 t1)).alloc (.cells cs2 t2)) w.heap.size t1 cs1 ∧ Blk ((w.alloc (.cells cs1 t1)).alloc (.cells cs2 t2)) (w.heap.size + 1) t2 cs2 ∧ Below w.heap.size w ((w.alloc (.cells cs1 t1)).alloc (.cells cs2 t2)) := by
  refine ⟨(Blk.new w t1 cs1).alloc _, ?_, ((Below.refl _ _).alloc (Nat.le_refl _) _).alloc (by simp) _⟩
  have h := Blk.new (w.alloc (.cells cs1 t1)) t2 cs2
  have e : (w.alloc (.cells cs1 t1)).heap.size = w.heap.size + 1 := by simp
  rw [e] at h
  exact h
set_option maxRecDepth 20000 in
set_option maxHeartbeats 2000000 in
theorem plain_any (v : V) (hv : Good v) (w : World) : Calls Try.prog 32 #[ag v] w fun e w' => e = .returned (ag v) ∧ Below w.heap.size w w' := by
  rcases hv with ⟨i, rfl⟩ | ⟨x, hx, rfl⟩ | ⟨x, y, hx, hy, rfl⟩ | ⟨s, hs, rfl⟩
  · show Calls Try.prog 32 #[.agg #[.int .i64 1, .int .i64 i, .float .f64 0, .complex .f64 0 0, .string ByteArray.empty]] w fun e w' => e = .returned (.agg #[.int .i64 1, .int .i64 i, .float .f64 0, .complex .f64 0 0, .string ByteArray.empty]) ∧ Below w.heap.size w w'
    have hM : ∀ W : World, Calls Try.prog 54 #[.agg #[.int .i64 1, .int .i64 i, .float .f64 0, .complex .f64 0 0, .string ByteArray.empty]] W fun e w' => e = .returned (.bool true) ∧ Below W.heap.size W w' := fun W => by
      have h := may_any (vI i) (Good.shp (.inl ⟨i, rfl⟩)) W
      rw [Good.may (.inl ⟨i, rfl⟩)] at h
      exact h
    have HM := Lib.hid hM
    clear hM
    have HT := Lib.hid (two_new w #[.int .i64 1, .int .i64 i, .float .f64 0, .complex .f64 0 0, .string ByteArray.empty] #[.int .i64 0, .int .i64 0, .float .f64 0, .complex .f64 0 0, .string { data := #[] }] 50 50)
    go_enter Try.func32, Try.ntmps32
    go_wp2_with fail
    refine (HM.out _).mono ?_
    rintro e w1 ⟨rfl, hb1⟩
    obtain ⟨a0, a1, hb0⟩ := HT.out
    have b0 := a0.below hb1 a0.lt
    have b1 := a1.below hb1 a1.lt
    have hb := hb0.trans (hb1.mono hb0.size)
    have x0 := fun o : Obj => (b0.alloc o).cell 0
    have xw0 := b0.cell 0
    have x1 := fun o : Obj => (b0.alloc o).cell 1
    have xw1 := b0.cell 1
    have x2 := fun o : Obj => (b0.alloc o).cell 2
    have xw2 := b0.cell 2
    have x3 := fun o : Obj => (b0.alloc o).cell 3
    have xw3 := b0.cell 3
    have x4 := fun o : Obj => (b0.alloc o).cell 4
    have xw4 := b0.cell 4
    simp at x0 xw0 x1 xw1 x2 xw2 x3 xw3 x4 xw4
    have y0 := fun o : Obj => (b1.alloc o).cell 0
    have yw0 := b1.cell 0
    have y1 := fun o : Obj => (b1.alloc o).cell 1
    have yw1 := b1.cell 1
    have y2 := fun o : Obj => (b1.alloc o).cell 2
    have yw2 := b1.cell 2
    have y3 := fun o : Obj => (b1.alloc o).cell 3
    have yw3 := b1.cell 3
    have y4 := fun o : Obj => (b1.alloc o).cell 4
    have yw4 := b1.cell 4
    simp at y0 yw0 y1 yw1 y2 yw2 y3 yw3 y4 yw4
    have yf0 := fun o : Obj => (b1.alloc o).frozen 0
    have yf1 := fun o : Obj => (b1.alloc o).frozen 1
    have yf2 := fun o : Obj => (b1.alloc o).frozen 2
    have yf3 := fun o : Obj => (b1.alloc o).frozen 3
    have yf4 := fun o : Obj => (b1.alloc o).frozen 4
    clear a0 a1 hb1 hb0
    go_wp2_with fail
    try simp only [Exit.inBlock, Exit.then]
    refine bodyPost_ret (results_cell_row rfl _ _ (w.heap.size + 1) 50 #[.int .i64 1, .int .i64 i, .float .f64 0, .complex .f64 0 0, .string { data := #[] }] (0, 0) _ rfl (show Blk _ (w.heap.size + 1) 50 #[.int .i64 1, .int .i64 i, .float .f64 0, .complex .f64 0 0, .string { data := #[] }] from (((((b1.alloc _).set_ 0 _).set_ 1 _).set_ 2 _).set_ 3 _).set_ 4 _) Try.underlying50 rfl (by kernel_rfl)) rfl ?_
    exact ⟨rfl, below_set (below_set (below_set (below_set (below_set (below_alloc hb _) (Nat.le_succ _)) (Nat.le_succ _)) (Nat.le_succ _)) (Nat.le_succ _)) (Nat.le_succ _)⟩
  · show Calls Try.prog 32 #[.agg #[.int .i64 2, .int .i64 0, .float .f64 x, .complex .f64 0 0, .string ByteArray.empty]] w fun e w' => e = .returned (.agg #[.int .i64 2, .int .i64 0, .float .f64 x, .complex .f64 0 0, .string ByteArray.empty]) ∧ Below w.heap.size w w'
    have hM : ∀ W : World, Calls Try.prog 54 #[.agg #[.int .i64 2, .int .i64 0, .float .f64 x, .complex .f64 0 0, .string ByteArray.empty]] W fun e w' => e = .returned (.bool true) ∧ Below W.heap.size W w' := fun W => by
      have h := may_any (vR x) (Good.shp (.inr (.inl ⟨x, hx, rfl⟩))) W
      rw [Good.may (.inr (.inl ⟨x, hx, rfl⟩))] at h
      exact h
    have HM := Lib.hid hM
    clear hM
    have HX := Lib.hid (fun W => number_any x hx W)
    have HT := Lib.hid (two_new w #[.int .i64 2, .int .i64 0, .float .f64 x, .complex .f64 0 0, .string ByteArray.empty] #[.int .i64 0, .int .i64 0, .float .f64 0, .complex .f64 0 0, .string { data := #[] }] 50 50)
    go_enter Try.func32, Try.ntmps32
    go_wp2_with fail
    refine (HM.out _).mono ?_
    rintro e w1 ⟨rfl, hb1⟩
    obtain ⟨a0, a1, hb0⟩ := HT.out
    have b0 := a0.below hb1 a0.lt
    have b1 := a1.below hb1 a1.lt
    have hb := hb0.trans (hb1.mono hb0.size)
    have x0 := fun o : Obj => (b0.alloc o).cell 0
    have xw0 := b0.cell 0
    have x1 := fun o : Obj => (b0.alloc o).cell 1
    have xw1 := b0.cell 1
    have x2 := fun o : Obj => (b0.alloc o).cell 2
    have xw2 := b0.cell 2
    have x3 := fun o : Obj => (b0.alloc o).cell 3
    have xw3 := b0.cell 3
    have x4 := fun o : Obj => (b0.alloc o).cell 4
    have xw4 := b0.cell 4
    simp at x0 xw0 x1 xw1 x2 xw2 x3 xw3 x4 xw4
    have y0 := fun o : Obj => (b1.alloc o).cell 0
    have yw0 := b1.cell 0
    have y1 := fun o : Obj => (b1.alloc o).cell 1
    have yw1 := b1.cell 1
    have y2 := fun o : Obj => (b1.alloc o).cell 2
    have yw2 := b1.cell 2
    have y3 := fun o : Obj => (b1.alloc o).cell 3
    have yw3 := b1.cell 3
    have y4 := fun o : Obj => (b1.alloc o).cell 4
    have yw4 := b1.cell 4
    simp at y0 yw0 y1 yw1 y2 yw2 y3 yw3 y4 yw4
    have yf0 := fun o : Obj => (b1.alloc o).frozen 0
    have yf1 := fun o : Obj => (b1.alloc o).frozen 1
    have yf2 := fun o : Obj => (b1.alloc o).frozen 2
    have yf3 := fun o : Obj => (b1.alloc o).frozen 3
    have yf4 := fun o : Obj => (b1.alloc o).frozen 4
    clear a0 a1 hb1 hb0
    go_wp2_with fail
    refine (HX.out _).mono ?_
    rintro e w2 ⟨rfl, rfl⟩
    go_wp2_with fail
    try simp only [Exit.inBlock, Exit.then]
    refine bodyPost_ret (results_cell_row rfl _ _ (w.heap.size + 1) 50 #[.int .i64 2, .int .i64 0, .float .f64 x, .complex .f64 0 0, .string { data := #[] }] (0, 0) _ rfl (show Blk _ (w.heap.size + 1) 50 #[.int .i64 2, .int .i64 0, .float .f64 x, .complex .f64 0 0, .string { data := #[] }] from (((((b1.alloc _).set_ 0 _).set_ 1 _).set_ 2 _).set_ 3 _).set_ 4 _) Try.underlying50 rfl (by kernel_rfl)) rfl ?_
    exact ⟨rfl, below_set (below_set (below_set (below_set (below_set (below_alloc hb _) (Nat.le_succ _)) (Nat.le_succ _)) (Nat.le_succ _)) (Nat.le_succ _)) (Nat.le_succ _)⟩
  · show Calls Try.prog 32 #[.agg #[.int .i64 3, .int .i64 0, .float .f64 0, .complex .f64 x y, .string ByteArray.empty]] w fun e w' => e = .returned (.agg #[.int .i64 3, .int .i64 0, .float .f64 0, .complex .f64 x y, .string ByteArray.empty]) ∧ Below w.heap.size w w'
    have hM : ∀ W : World, Calls Try.prog 54 #[.agg #[.int .i64 3, .int .i64 0, .float .f64 0, .complex .f64 x y, .string ByteArray.empty]] W fun e w' => e = .returned (.bool true) ∧ Below W.heap.size W w' := fun W => by
      have h := may_any (vC x y) (Good.shp (.inr (.inr (.inl ⟨x, y, hx, hy, rfl⟩)))) W
      rw [Good.may (.inr (.inr (.inl ⟨x, y, hx, hy, rfl⟩)))] at h
      exact h
    have HM := Lib.hid hM
    clear hM
    have HX := Lib.hid (fun W => number_any x hx W)
    have HY := Lib.hid (fun W => number_any y hy W)
    have HT := Lib.hid (two_new w #[.int .i64 3, .int .i64 0, .float .f64 0, .complex .f64 x y, .string ByteArray.empty] #[.int .i64 0, .int .i64 0, .float .f64 0, .complex .f64 0 0, .string { data := #[] }] 50 50)
    go_enter Try.func32, Try.ntmps32
    go_wp2_with fail
    refine (HM.out _).mono ?_
    rintro e w1 ⟨rfl, hb1⟩
    obtain ⟨a0, a1, hb0⟩ := HT.out
    have b0 := a0.below hb1 a0.lt
    have b1 := a1.below hb1 a1.lt
    have hb := hb0.trans (hb1.mono hb0.size)
    have x0 := fun o : Obj => (b0.alloc o).cell 0
    have xw0 := b0.cell 0
    have x1 := fun o : Obj => (b0.alloc o).cell 1
    have xw1 := b0.cell 1
    have x2 := fun o : Obj => (b0.alloc o).cell 2
    have xw2 := b0.cell 2
    have x3 := fun o : Obj => (b0.alloc o).cell 3
    have xw3 := b0.cell 3
    have x4 := fun o : Obj => (b0.alloc o).cell 4
    have xw4 := b0.cell 4
    simp at x0 xw0 x1 xw1 x2 xw2 x3 xw3 x4 xw4
    have y0 := fun o : Obj => (b1.alloc o).cell 0
    have yw0 := b1.cell 0
    have y1 := fun o : Obj => (b1.alloc o).cell 1
    have yw1 := b1.cell 1
    have y2 := fun o : Obj => (b1.alloc o).cell 2
    have yw2 := b1.cell 2
    have y3 := fun o : Obj => (b1.alloc o).cell 3
    have yw3 := b1.cell 3
    have y4 := fun o : Obj => (b1.alloc o).cell 4
    have yw4 := b1.cell 4
    simp at y0 yw0 y1 yw1 y2 yw2 y3 yw3 y4 yw4
    have yf0 := fun o : Obj => (b1.alloc o).frozen 0
    have yf1 := fun o : Obj => (b1.alloc o).frozen 1
    have yf2 := fun o : Obj => (b1.alloc o).frozen 2
    have yf3 := fun o : Obj => (b1.alloc o).frozen 3
    have yf4 := fun o : Obj => (b1.alloc o).frozen 4
    clear a0 a1 hb1 hb0
    go_upto_region 11 with fail
    have c0 := b0.alloc (.cells #[.int .i64 3, .int .i64 0, .float .f64 0, .complex .f64 0 0, .string { data := #[] }] 50)
    have c1 := b1.alloc (.cells #[.int .i64 3, .int .i64 0, .float .f64 0, .complex .f64 0 0, .string { data := #[] }] 50)
    have c2 := Blk.new w1 50 #[.int .i64 3, .int .i64 0, .float .f64 0, .complex .f64 0 0, .string { data := #[] }]
    have hb2 := below_alloc hb (.cells #[.int .i64 3, .int .i64 0, .float .f64 0, .complex .f64 0 0, .string { data := #[] }] 50)
    have hne0 : w.heap.size ≠ w1.heap.size := by have := b1.lt; omega
    have hne1 : w.heap.size + 1 ≠ w1.heap.size := by have := b1.lt; omega
    have hne2 : w1.heap.size ≠ w.heap.size + 1 := by have := b1.lt; omega
    generalize w1.alloc (.cells #[.int .i64 3, .int .i64 0, .float .f64 0, .complex .f64 0 0, .string { data := #[] }] 50) = W2 at c0 c1 c2 hb2 ⊢
    clear x0 xw0 y0 yw0 yf0 x1 xw1 y1 yw1 yf1 x2 xw2 y2 yw2 yf2 x3 xw3 y3 yw3 yf3 x4 xw4 y4 yw4 yf4
    have u3 := c0.cell 3
    have p0 := c2.cell 0
    have p1 := c2.cell 1
    have p2 := c2.cell 2
    have p3 := c2.cell 3
    have p4 := c2.cell 4
    have pf3 := c2.frozen 3
    simp at u3 p0 p1 p2 p3 p4
    have r0 := c1.cell 0
    have rf0 := c1.frozen 0
    have r1 := c1.cell 1
    have rf1 := c1.frozen 1
    have r2 := c1.cell 2
    have rf2 := c1.frozen 2
    have r3 := c1.cell 3
    have rf3 := c1.frozen 3
    have r4 := c1.cell 4
    have rf4 := c1.frozen 4
    simp at r0 r1 r2 r3 r4
    refine wp_region_still_tail 10 (by kernel_rfl) (by kernel_rfl) ?_
    simp only [List.take_succ_cons, List.take_zero, List.drop_succ_cons, List.drop_zero]
    change wpStill _ _ W2.drew _ _ _
    still_step
    still_step
    still_step
    still_call (HX.out _)
    still_step
    still_step
    still_step
    still_call (HY.out _)
    still_step
    still_step
    refine wpStill_nil ?_
    change wpList _ _ _ _ _ W2.drew
    go_wp2_with fail
    try simp only [Exit.inBlock, Exit.then]
    refine bodyPost_ret (results_cell_row rfl _ _ (w.heap.size + 1) 50 #[.int .i64 3, .int .i64 0, .float .f64 0, .complex .f64 x y, .string { data := #[] }] (0, 0) _ rfl (show Blk _ (w.heap.size + 1) 50 #[.int .i64 3, .int .i64 0, .float .f64 0, .complex .f64 x y, .string { data := #[] }] from Blk.drew ((((((c1.far (show w.heap.size + 1 ≠ w1.heap.size from hne1) _).set_ 0 _).set_ 1 _).set_ 2 _).set_ 3 _).set_ 4 _)) Try.underlying50 rfl (by kernel_rfl)) rfl ?_
    exact ⟨rfl, below_drew (below_set (below_set (below_set (below_set (below_set (below_set hb2 hb.size) (Nat.le_succ _)) (Nat.le_succ _)) (Nat.le_succ _)) (Nat.le_succ _)) (Nat.le_succ _))⟩
  · show Calls Try.prog 32 #[.agg #[.int .i64 4, .int .i64 0, .float .f64 0, .complex .f64 0 0, .string s]] w fun e w' => e = .returned (.agg #[.int .i64 4, .int .i64 0, .float .f64 0, .complex .f64 0 0, .string s]) ∧ Below w.heap.size w w'
    have hM : ∀ W : World, Calls Try.prog 54 #[.agg #[.int .i64 4, .int .i64 0, .float .f64 0, .complex .f64 0 0, .string s]] W fun e w' => e = .returned (.bool true) ∧ Below W.heap.size W w' := fun W => by
      have h := may_any (vT s) (Good.shp (.inr (.inr (.inr ⟨s, hs, rfl⟩)))) W
      rw [Good.may (.inr (.inr (.inr ⟨s, hs, rfl⟩)))] at h
      exact h
    have HM := Lib.hid hM
    clear hM
    have HT := Lib.hid (two_new w #[.int .i64 4, .int .i64 0, .float .f64 0, .complex .f64 0 0, .string s] #[.int .i64 0, .int .i64 0, .float .f64 0, .complex .f64 0 0, .string { data := #[] }] 50 50)
    go_enter Try.func32, Try.ntmps32
    go_wp2_with fail
    refine (HM.out _).mono ?_
    rintro e w1 ⟨rfl, hb1⟩
    obtain ⟨a0, a1, hb0⟩ := HT.out
    have b0 := a0.below hb1 a0.lt
    have b1 := a1.below hb1 a1.lt
    have hb := hb0.trans (hb1.mono hb0.size)
    have x0 := fun o : Obj => (b0.alloc o).cell 0
    have xw0 := b0.cell 0
    have x1 := fun o : Obj => (b0.alloc o).cell 1
    have xw1 := b0.cell 1
    have x2 := fun o : Obj => (b0.alloc o).cell 2
    have xw2 := b0.cell 2
    have x3 := fun o : Obj => (b0.alloc o).cell 3
    have xw3 := b0.cell 3
    have x4 := fun o : Obj => (b0.alloc o).cell 4
    have xw4 := b0.cell 4
    simp at x0 xw0 x1 xw1 x2 xw2 x3 xw3 x4 xw4
    have y0 := fun o : Obj => (b1.alloc o).cell 0
    have yw0 := b1.cell 0
    have y1 := fun o : Obj => (b1.alloc o).cell 1
    have yw1 := b1.cell 1
    have y2 := fun o : Obj => (b1.alloc o).cell 2
    have yw2 := b1.cell 2
    have y3 := fun o : Obj => (b1.alloc o).cell 3
    have yw3 := b1.cell 3
    have y4 := fun o : Obj => (b1.alloc o).cell 4
    have yw4 := b1.cell 4
    simp at y0 yw0 y1 yw1 y2 yw2 y3 yw3 y4 yw4
    have yf0 := fun o : Obj => (b1.alloc o).frozen 0
    have yf1 := fun o : Obj => (b1.alloc o).frozen 1
    have yf2 := fun o : Obj => (b1.alloc o).frozen 2
    have yf3 := fun o : Obj => (b1.alloc o).frozen 3
    have yf4 := fun o : Obj => (b1.alloc o).frozen 4
    clear a0 a1 hb1 hb0
    go_wp2_with fail
    try simp only [Exit.inBlock, Exit.then]
    refine bodyPost_ret (results_cell_row rfl _ _ (w.heap.size + 1) 50 #[.int .i64 4, .int .i64 0, .float .f64 0, .complex .f64 0 0, .string s] (0, 0) _ rfl (show Blk _ (w.heap.size + 1) 50 #[.int .i64 4, .int .i64 0, .float .f64 0, .complex .f64 0 0, .string s] from (((((b1.alloc _).set_ 0 _).set_ 1 _).set_ 2 _).set_ 3 _).set_ 4 _) Try.underlying50 rfl (by kernel_rfl)) rfl ?_
    exact ⟨rfl, below_set (below_set (below_set (below_set (below_set (below_alloc hb _) (Nat.le_succ _)) (Nat.le_succ _)) (Nat.le_succ _)) (Nat.le_succ _)) (Nat.le_succ _)⟩
set_option maxRecDepth 20000 in
set_option maxHeartbeats 2000000 in
theorem rplain_any (v : V) (hv : Good v) (w : World) : Calls Try.prog 59 #[ag v] w fun e w' => e = .returned (ag v) ∧ Below w.heap.size w w' := by
  rcases hv with ⟨i, rfl⟩ | ⟨x, hx, rfl⟩ | ⟨x, y, hx, hy, rfl⟩ | ⟨s, hs, rfl⟩
  · show Calls Try.prog 59 #[.agg #[.int .i64 1, .int .i64 i, .float .f64 0, .complex .f64 0 0, .string ByteArray.empty]] w fun e w' => e = .returned (.agg #[.int .i64 1, .int .i64 i, .float .f64 0, .complex .f64 0 0, .string ByteArray.empty]) ∧ Below w.heap.size w w'
    have hM : ∀ W : World, Calls Try.prog 76 #[.agg #[.int .i64 1, .int .i64 i, .float .f64 0, .complex .f64 0 0, .string ByteArray.empty]] W fun e w' => e = .returned (.bool true) ∧ Below W.heap.size W w' := fun W => by
      have h := rmay_any (vI i) (Good.shp (.inl ⟨i, rfl⟩)) W
      rw [Good.may (.inl ⟨i, rfl⟩)] at h
      exact h
    have HM := Lib.hid hM
    clear hM
    have HT := Lib.hid (two_new w #[.int .i64 1, .int .i64 i, .float .f64 0, .complex .f64 0 0, .string ByteArray.empty] #[.int .i64 0, .int .i64 0, .float .f64 0, .complex .f64 0 0, .string { data := #[] }] 50 50)
    go_enter Try.func59, Try.ntmps59
    go_wp2_with fail
    refine (HM.out _).mono ?_
    rintro e w1 ⟨rfl, hb1⟩
    obtain ⟨a0, a1, hb0⟩ := HT.out
    have b0 := a0.below hb1 a0.lt
    have b1 := a1.below hb1 a1.lt
    have hb := hb0.trans (hb1.mono hb0.size)
    have x0 := fun o : Obj => (b0.alloc o).cell 0
    have xw0 := b0.cell 0
    have x1 := fun o : Obj => (b0.alloc o).cell 1
    have xw1 := b0.cell 1
    have x2 := fun o : Obj => (b0.alloc o).cell 2
    have xw2 := b0.cell 2
    have x3 := fun o : Obj => (b0.alloc o).cell 3
    have xw3 := b0.cell 3
    have x4 := fun o : Obj => (b0.alloc o).cell 4
    have xw4 := b0.cell 4
    simp at x0 xw0 x1 xw1 x2 xw2 x3 xw3 x4 xw4
    have y0 := fun o : Obj => (b1.alloc o).cell 0
    have yw0 := b1.cell 0
    have y1 := fun o : Obj => (b1.alloc o).cell 1
    have yw1 := b1.cell 1
    have y2 := fun o : Obj => (b1.alloc o).cell 2
    have yw2 := b1.cell 2
    have y3 := fun o : Obj => (b1.alloc o).cell 3
    have yw3 := b1.cell 3
    have y4 := fun o : Obj => (b1.alloc o).cell 4
    have yw4 := b1.cell 4
    simp at y0 yw0 y1 yw1 y2 yw2 y3 yw3 y4 yw4
    have yf0 := fun o : Obj => (b1.alloc o).frozen 0
    have yf1 := fun o : Obj => (b1.alloc o).frozen 1
    have yf2 := fun o : Obj => (b1.alloc o).frozen 2
    have yf3 := fun o : Obj => (b1.alloc o).frozen 3
    have yf4 := fun o : Obj => (b1.alloc o).frozen 4
    clear a0 a1 hb1 hb0
    go_wp2_with fail
    try simp only [Exit.inBlock, Exit.then]
    refine bodyPost_ret (results_cell_row rfl _ _ (w.heap.size + 1) 50 #[.int .i64 1, .int .i64 i, .float .f64 0, .complex .f64 0 0, .string { data := #[] }] (0, 0) _ rfl (show Blk _ (w.heap.size + 1) 50 #[.int .i64 1, .int .i64 i, .float .f64 0, .complex .f64 0 0, .string { data := #[] }] from (((((b1.alloc _).set_ 0 _).set_ 1 _).set_ 2 _).set_ 3 _).set_ 4 _) Try.underlying50 rfl (by kernel_rfl)) rfl ?_
    exact ⟨rfl, below_set (below_set (below_set (below_set (below_set (below_alloc hb _) (Nat.le_succ _)) (Nat.le_succ _)) (Nat.le_succ _)) (Nat.le_succ _)) (Nat.le_succ _)⟩
  · show Calls Try.prog 59 #[.agg #[.int .i64 2, .int .i64 0, .float .f64 x, .complex .f64 0 0, .string ByteArray.empty]] w fun e w' => e = .returned (.agg #[.int .i64 2, .int .i64 0, .float .f64 x, .complex .f64 0 0, .string ByteArray.empty]) ∧ Below w.heap.size w w'
    have hM : ∀ W : World, Calls Try.prog 76 #[.agg #[.int .i64 2, .int .i64 0, .float .f64 x, .complex .f64 0 0, .string ByteArray.empty]] W fun e w' => e = .returned (.bool true) ∧ Below W.heap.size W w' := fun W => by
      have h := rmay_any (vR x) (Good.shp (.inr (.inl ⟨x, hx, rfl⟩))) W
      rw [Good.may (.inr (.inl ⟨x, hx, rfl⟩))] at h
      exact h
    have HM := Lib.hid hM
    clear hM
    have HT := Lib.hid (two_new w #[.int .i64 2, .int .i64 0, .float .f64 x, .complex .f64 0 0, .string ByteArray.empty] #[.int .i64 0, .int .i64 0, .float .f64 0, .complex .f64 0 0, .string { data := #[] }] 50 50)
    go_enter Try.func59, Try.ntmps59
    go_wp2_with fail
    refine (HM.out _).mono ?_
    rintro e w1 ⟨rfl, hb1⟩
    obtain ⟨a0, a1, hb0⟩ := HT.out
    have b0 := a0.below hb1 a0.lt
    have b1 := a1.below hb1 a1.lt
    have hb := hb0.trans (hb1.mono hb0.size)
    have x0 := fun o : Obj => (b0.alloc o).cell 0
    have xw0 := b0.cell 0
    have x1 := fun o : Obj => (b0.alloc o).cell 1
    have xw1 := b0.cell 1
    have x2 := fun o : Obj => (b0.alloc o).cell 2
    have xw2 := b0.cell 2
    have x3 := fun o : Obj => (b0.alloc o).cell 3
    have xw3 := b0.cell 3
    have x4 := fun o : Obj => (b0.alloc o).cell 4
    have xw4 := b0.cell 4
    simp at x0 xw0 x1 xw1 x2 xw2 x3 xw3 x4 xw4
    have y0 := fun o : Obj => (b1.alloc o).cell 0
    have yw0 := b1.cell 0
    have y1 := fun o : Obj => (b1.alloc o).cell 1
    have yw1 := b1.cell 1
    have y2 := fun o : Obj => (b1.alloc o).cell 2
    have yw2 := b1.cell 2
    have y3 := fun o : Obj => (b1.alloc o).cell 3
    have yw3 := b1.cell 3
    have y4 := fun o : Obj => (b1.alloc o).cell 4
    have yw4 := b1.cell 4
    simp at y0 yw0 y1 yw1 y2 yw2 y3 yw3 y4 yw4
    have yf0 := fun o : Obj => (b1.alloc o).frozen 0
    have yf1 := fun o : Obj => (b1.alloc o).frozen 1
    have yf2 := fun o : Obj => (b1.alloc o).frozen 2
    have yf3 := fun o : Obj => (b1.alloc o).frozen 3
    have yf4 := fun o : Obj => (b1.alloc o).frozen 4
    clear a0 a1 hb1 hb0
    go_wp2_with fail
    try simp only [Exit.inBlock, Exit.then]
    refine bodyPost_ret (results_cell_row rfl _ _ (w.heap.size + 1) 50 #[.int .i64 2, .int .i64 0, .float .f64 x, .complex .f64 0 0, .string { data := #[] }] (0, 0) _ rfl (show Blk _ (w.heap.size + 1) 50 #[.int .i64 2, .int .i64 0, .float .f64 x, .complex .f64 0 0, .string { data := #[] }] from (((((b1.alloc _).set_ 0 _).set_ 1 _).set_ 2 _).set_ 3 _).set_ 4 _) Try.underlying50 rfl (by kernel_rfl)) rfl ?_
    exact ⟨rfl, below_set (below_set (below_set (below_set (below_set (below_alloc hb _) (Nat.le_succ _)) (Nat.le_succ _)) (Nat.le_succ _)) (Nat.le_succ _)) (Nat.le_succ _)⟩
  · show Calls Try.prog 59 #[.agg #[.int .i64 3, .int .i64 0, .float .f64 0, .complex .f64 x y, .string ByteArray.empty]] w fun e w' => e = .returned (.agg #[.int .i64 3, .int .i64 0, .float .f64 0, .complex .f64 x y, .string ByteArray.empty]) ∧ Below w.heap.size w w'
    have hM : ∀ W : World, Calls Try.prog 76 #[.agg #[.int .i64 3, .int .i64 0, .float .f64 0, .complex .f64 x y, .string ByteArray.empty]] W fun e w' => e = .returned (.bool true) ∧ Below W.heap.size W w' := fun W => by
      have h := rmay_any (vC x y) (Good.shp (.inr (.inr (.inl ⟨x, y, hx, hy, rfl⟩)))) W
      rw [Good.may (.inr (.inr (.inl ⟨x, y, hx, hy, rfl⟩)))] at h
      exact h
    have HM := Lib.hid hM
    clear hM
    have HT := Lib.hid (two_new w #[.int .i64 3, .int .i64 0, .float .f64 0, .complex .f64 x y, .string ByteArray.empty] #[.int .i64 0, .int .i64 0, .float .f64 0, .complex .f64 0 0, .string { data := #[] }] 50 50)
    go_enter Try.func59, Try.ntmps59
    go_wp2_with fail
    refine (HM.out _).mono ?_
    rintro e w1 ⟨rfl, hb1⟩
    obtain ⟨a0, a1, hb0⟩ := HT.out
    have b0 := a0.below hb1 a0.lt
    have b1 := a1.below hb1 a1.lt
    have hb := hb0.trans (hb1.mono hb0.size)
    have x0 := fun o : Obj => (b0.alloc o).cell 0
    have xw0 := b0.cell 0
    have x1 := fun o : Obj => (b0.alloc o).cell 1
    have xw1 := b0.cell 1
    have x2 := fun o : Obj => (b0.alloc o).cell 2
    have xw2 := b0.cell 2
    have x3 := fun o : Obj => (b0.alloc o).cell 3
    have xw3 := b0.cell 3
    have x4 := fun o : Obj => (b0.alloc o).cell 4
    have xw4 := b0.cell 4
    simp at x0 xw0 x1 xw1 x2 xw2 x3 xw3 x4 xw4
    have y0 := fun o : Obj => (b1.alloc o).cell 0
    have yw0 := b1.cell 0
    have y1 := fun o : Obj => (b1.alloc o).cell 1
    have yw1 := b1.cell 1
    have y2 := fun o : Obj => (b1.alloc o).cell 2
    have yw2 := b1.cell 2
    have y3 := fun o : Obj => (b1.alloc o).cell 3
    have yw3 := b1.cell 3
    have y4 := fun o : Obj => (b1.alloc o).cell 4
    have yw4 := b1.cell 4
    simp at y0 yw0 y1 yw1 y2 yw2 y3 yw3 y4 yw4
    have yf0 := fun o : Obj => (b1.alloc o).frozen 0
    have yf1 := fun o : Obj => (b1.alloc o).frozen 1
    have yf2 := fun o : Obj => (b1.alloc o).frozen 2
    have yf3 := fun o : Obj => (b1.alloc o).frozen 3
    have yf4 := fun o : Obj => (b1.alloc o).frozen 4
    clear a0 a1 hb1 hb0
    go_wp2_with fail
    try simp only [Exit.inBlock, Exit.then]
    refine bodyPost_ret (results_cell_row rfl _ _ (w.heap.size + 1) 50 #[.int .i64 3, .int .i64 0, .float .f64 0, .complex .f64 x y, .string { data := #[] }] (0, 0) _ rfl (show Blk _ (w.heap.size + 1) 50 #[.int .i64 3, .int .i64 0, .float .f64 0, .complex .f64 x y, .string { data := #[] }] from (((((b1.alloc _).set_ 0 _).set_ 1 _).set_ 2 _).set_ 3 _).set_ 4 _) Try.underlying50 rfl (by kernel_rfl)) rfl ?_
    exact ⟨rfl, below_set (below_set (below_set (below_set (below_set (below_alloc hb _) (Nat.le_succ _)) (Nat.le_succ _)) (Nat.le_succ _)) (Nat.le_succ _)) (Nat.le_succ _)⟩
  · show Calls Try.prog 59 #[.agg #[.int .i64 4, .int .i64 0, .float .f64 0, .complex .f64 0 0, .string s]] w fun e w' => e = .returned (.agg #[.int .i64 4, .int .i64 0, .float .f64 0, .complex .f64 0 0, .string s]) ∧ Below w.heap.size w w'
    have hM : ∀ W : World, Calls Try.prog 76 #[.agg #[.int .i64 4, .int .i64 0, .float .f64 0, .complex .f64 0 0, .string s]] W fun e w' => e = .returned (.bool true) ∧ Below W.heap.size W w' := fun W => by
      have h := rmay_any (vT s) (Good.shp (.inr (.inr (.inr ⟨s, hs, rfl⟩)))) W
      rw [Good.may (.inr (.inr (.inr ⟨s, hs, rfl⟩)))] at h
      exact h
    have HM := Lib.hid hM
    clear hM
    have HT := Lib.hid (two_new w #[.int .i64 4, .int .i64 0, .float .f64 0, .complex .f64 0 0, .string s] #[.int .i64 0, .int .i64 0, .float .f64 0, .complex .f64 0 0, .string { data := #[] }] 50 50)
    go_enter Try.func59, Try.ntmps59
    go_wp2_with fail
    refine (HM.out _).mono ?_
    rintro e w1 ⟨rfl, hb1⟩
    obtain ⟨a0, a1, hb0⟩ := HT.out
    have b0 := a0.below hb1 a0.lt
    have b1 := a1.below hb1 a1.lt
    have hb := hb0.trans (hb1.mono hb0.size)
    have x0 := fun o : Obj => (b0.alloc o).cell 0
    have xw0 := b0.cell 0
    have x1 := fun o : Obj => (b0.alloc o).cell 1
    have xw1 := b0.cell 1
    have x2 := fun o : Obj => (b0.alloc o).cell 2
    have xw2 := b0.cell 2
    have x3 := fun o : Obj => (b0.alloc o).cell 3
    have xw3 := b0.cell 3
    have x4 := fun o : Obj => (b0.alloc o).cell 4
    have xw4 := b0.cell 4
    simp at x0 xw0 x1 xw1 x2 xw2 x3 xw3 x4 xw4
    have y0 := fun o : Obj => (b1.alloc o).cell 0
    have yw0 := b1.cell 0
    have y1 := fun o : Obj => (b1.alloc o).cell 1
    have yw1 := b1.cell 1
    have y2 := fun o : Obj => (b1.alloc o).cell 2
    have yw2 := b1.cell 2
    have y3 := fun o : Obj => (b1.alloc o).cell 3
    have yw3 := b1.cell 3
    have y4 := fun o : Obj => (b1.alloc o).cell 4
    have yw4 := b1.cell 4
    simp at y0 yw0 y1 yw1 y2 yw2 y3 yw3 y4 yw4
    have yf0 := fun o : Obj => (b1.alloc o).frozen 0
    have yf1 := fun o : Obj => (b1.alloc o).frozen 1
    have yf2 := fun o : Obj => (b1.alloc o).frozen 2
    have yf3 := fun o : Obj => (b1.alloc o).frozen 3
    have yf4 := fun o : Obj => (b1.alloc o).frozen 4
    clear a0 a1 hb1 hb0
    go_wp2_with fail
    try simp only [Exit.inBlock, Exit.then]
    refine bodyPost_ret (results_cell_row rfl _ _ (w.heap.size + 1) 50 #[.int .i64 4, .int .i64 0, .float .f64 0, .complex .f64 0 0, .string s] (0, 0) _ rfl (show Blk _ (w.heap.size + 1) 50 #[.int .i64 4, .int .i64 0, .float .f64 0, .complex .f64 0 0, .string s] from (((((b1.alloc _).set_ 0 _).set_ 1 _).set_ 2 _).set_ 3 _).set_ 4 _) Try.underlying50 rfl (by kernel_rfl)) rfl ?_
    exact ⟨rfl, below_set (below_set (below_set (below_set (below_set (below_alloc hb _) (Nat.le_succ _)) (Nat.le_succ _)) (Nat.le_succ _)) (Nat.le_succ _)) (Nat.le_succ _)⟩
set_option maxRecDepth 20000 in
set_option maxHeartbeats 2000000 in
theorem size_any (v : V) (hv : Good v) (w : World) : Calls Try.prog 75 #[ag v] w fun e w' => e = .returned (.int .i64 (szOf v)) ∧ Below w.heap.size w w' := by
  rcases hv with ⟨i, rfl⟩ | ⟨x, hx, rfl⟩ | ⟨x, y, hx, hy, rfl⟩ | ⟨s, hs, rfl⟩
  · show Calls Try.prog 75 #[.agg #[.int .i64 1, .int .i64 i, .float .f64 0, .complex .f64 0 0, .string ByteArray.empty]] w fun e w' => e = .returned (.int .i64 8) ∧ Below w.heap.size w w'
    have hM : ∀ W : World, Calls Try.prog 54 #[.agg #[.int .i64 1, .int .i64 i, .float .f64 0, .complex .f64 0 0, .string ByteArray.empty]] W fun e w' => e = .returned (.bool true) ∧ Below W.heap.size W w' := fun W => by
      have h := may_any (vI i) (Good.shp (.inl ⟨i, rfl⟩)) W
      rw [Good.may (.inl ⟨i, rfl⟩)] at h
      exact h
    have HM := Lib.hid hM
    clear hM
    have b0 := Blk.new w 50 #[.int .i64 1, .int .i64 i, .float .f64 0, .complex .f64 0 0, .string ByteArray.empty]
    have hb0 := (Below.refl w.heap.size w).alloc (Nat.le_refl _) (.cells #[.int .i64 1, .int .i64 i, .float .f64 0, .complex .f64 0 0, .string ByteArray.empty] 50)
    have HT := Lib.hid (And.intro b0 hb0)
    clear b0 hb0
    go_enter Try.func75, Try.ntmps75
    go_wp2_with fail
    refine (HM.out _).mono ?_
    rintro e w1 ⟨rfl, hb1⟩
    obtain ⟨a0, hb0⟩ := HT.out
    have b0 := a0.below hb1 a0.lt
    have hb := hb0.trans (hb1.mono hb0.size)
    have x0 := b0.cell 0
    have x1 := b0.cell 1
    have x2 := b0.cell 2
    have x3 := b0.cell 3
    have x4 := b0.cell 4
    simp at x0 x1 x2 x3 x4
    clear a0 hb1 hb0
    go_wp2_with fail
    go_ret
    exact ⟨rfl, hb⟩
  · show Calls Try.prog 75 #[.agg #[.int .i64 2, .int .i64 0, .float .f64 x, .complex .f64 0 0, .string ByteArray.empty]] w fun e w' => e = .returned (.int .i64 8) ∧ Below w.heap.size w w'
    have hM : ∀ W : World, Calls Try.prog 54 #[.agg #[.int .i64 2, .int .i64 0, .float .f64 x, .complex .f64 0 0, .string ByteArray.empty]] W fun e w' => e = .returned (.bool true) ∧ Below W.heap.size W w' := fun W => by
      have h := may_any (vR x) (Good.shp (.inr (.inl ⟨x, hx, rfl⟩))) W
      rw [Good.may (.inr (.inl ⟨x, hx, rfl⟩))] at h
      exact h
    have HM := Lib.hid hM
    clear hM
    have b0 := Blk.new w 50 #[.int .i64 2, .int .i64 0, .float .f64 x, .complex .f64 0 0, .string ByteArray.empty]
    have hb0 := (Below.refl w.heap.size w).alloc (Nat.le_refl _) (.cells #[.int .i64 2, .int .i64 0, .float .f64 x, .complex .f64 0 0, .string ByteArray.empty] 50)
    have HT := Lib.hid (And.intro b0 hb0)
    clear b0 hb0
    go_enter Try.func75, Try.ntmps75
    go_wp2_with fail
    refine (HM.out _).mono ?_
    rintro e w1 ⟨rfl, hb1⟩
    obtain ⟨a0, hb0⟩ := HT.out
    have b0 := a0.below hb1 a0.lt
    have hb := hb0.trans (hb1.mono hb0.size)
    have x0 := b0.cell 0
    have x1 := b0.cell 1
    have x2 := b0.cell 2
    have x3 := b0.cell 3
    have x4 := b0.cell 4
    simp at x0 x1 x2 x3 x4
    clear a0 hb1 hb0
    go_wp2_with fail
    go_ret
    exact ⟨rfl, hb⟩
  · show Calls Try.prog 75 #[.agg #[.int .i64 3, .int .i64 0, .float .f64 0, .complex .f64 x y, .string ByteArray.empty]] w fun e w' => e = .returned (.int .i64 16) ∧ Below w.heap.size w w'
    have hM : ∀ W : World, Calls Try.prog 54 #[.agg #[.int .i64 3, .int .i64 0, .float .f64 0, .complex .f64 x y, .string ByteArray.empty]] W fun e w' => e = .returned (.bool true) ∧ Below W.heap.size W w' := fun W => by
      have h := may_any (vC x y) (Good.shp (.inr (.inr (.inl ⟨x, y, hx, hy, rfl⟩)))) W
      rw [Good.may (.inr (.inr (.inl ⟨x, y, hx, hy, rfl⟩)))] at h
      exact h
    have HM := Lib.hid hM
    clear hM
    have b0 := Blk.new w 50 #[.int .i64 3, .int .i64 0, .float .f64 0, .complex .f64 x y, .string ByteArray.empty]
    have hb0 := (Below.refl w.heap.size w).alloc (Nat.le_refl _) (.cells #[.int .i64 3, .int .i64 0, .float .f64 0, .complex .f64 x y, .string ByteArray.empty] 50)
    have HT := Lib.hid (And.intro b0 hb0)
    clear b0 hb0
    go_enter Try.func75, Try.ntmps75
    go_wp2_with fail
    refine (HM.out _).mono ?_
    rintro e w1 ⟨rfl, hb1⟩
    obtain ⟨a0, hb0⟩ := HT.out
    have b0 := a0.below hb1 a0.lt
    have hb := hb0.trans (hb1.mono hb0.size)
    have x0 := b0.cell 0
    have x1 := b0.cell 1
    have x2 := b0.cell 2
    have x3 := b0.cell 3
    have x4 := b0.cell 4
    simp at x0 x1 x2 x3 x4
    clear a0 hb1 hb0
    go_wp2_with fail
    go_ret
    exact ⟨rfl, hb⟩
  · show Calls Try.prog 75 #[.agg #[.int .i64 4, .int .i64 0, .float .f64 0, .complex .f64 0 0, .string s]] w fun e w' => e = .returned (.int .i64 s.size) ∧ Below w.heap.size w w'
    have hM : ∀ W : World, Calls Try.prog 54 #[.agg #[.int .i64 4, .int .i64 0, .float .f64 0, .complex .f64 0 0, .string s]] W fun e w' => e = .returned (.bool true) ∧ Below W.heap.size W w' := fun W => by
      have h := may_any (vT s) (Good.shp (.inr (.inr (.inr ⟨s, hs, rfl⟩)))) W
      rw [Good.may (.inr (.inr (.inr ⟨s, hs, rfl⟩)))] at h
      exact h
    have HM := Lib.hid hM
    clear hM
    have b0 := Blk.new w 50 #[.int .i64 4, .int .i64 0, .float .f64 0, .complex .f64 0 0, .string s]
    have hb0 := (Below.refl w.heap.size w).alloc (Nat.le_refl _) (.cells #[.int .i64 4, .int .i64 0, .float .f64 0, .complex .f64 0 0, .string s] 50)
    have HT := Lib.hid (And.intro b0 hb0)
    clear b0 hb0
    go_enter Try.func75, Try.ntmps75
    go_wp2_with fail
    refine (HM.out _).mono ?_
    rintro e w1 ⟨rfl, hb1⟩
    obtain ⟨a0, hb0⟩ := HT.out
    have b0 := a0.below hb1 a0.lt
    have hb := hb0.trans (hb1.mono hb0.size)
    have x0 := b0.cell 0
    have x1 := b0.cell 1
    have x2 := b0.cell 2
    have x3 := b0.cell 3
    have x4 := b0.cell 4
    simp at x0 x1 x2 x3 x4
    clear a0 hb1 hb0
    go_wp2_with fail
    go_ret
    exact ⟨rfl, hb⟩
set_option maxRecDepth 20000 in
set_option maxHeartbeats 2000000 in
theorem rsize_any (v : V) (hv : Good v) (w : World) : Calls Try.prog 77 #[ag v] w fun e w' => e = .returned (.int .i64 (szOf v)) ∧ Below w.heap.size w w' := by
  rcases hv with ⟨i, rfl⟩ | ⟨x, hx, rfl⟩ | ⟨x, y, hx, hy, rfl⟩ | ⟨s, hs, rfl⟩
  · show Calls Try.prog 77 #[.agg #[.int .i64 1, .int .i64 i, .float .f64 0, .complex .f64 0 0, .string ByteArray.empty]] w fun e w' => e = .returned (.int .i64 8) ∧ Below w.heap.size w w'
    have hM : ∀ W : World, Calls Try.prog 76 #[.agg #[.int .i64 1, .int .i64 i, .float .f64 0, .complex .f64 0 0, .string ByteArray.empty]] W fun e w' => e = .returned (.bool true) ∧ Below W.heap.size W w' := fun W => by
      have h := rmay_any (vI i) (Good.shp (.inl ⟨i, rfl⟩)) W
      rw [Good.may (.inl ⟨i, rfl⟩)] at h
      exact h
    have HM := Lib.hid hM
    clear hM
    have b0 := Blk.new w 50 #[.int .i64 1, .int .i64 i, .float .f64 0, .complex .f64 0 0, .string ByteArray.empty]
    have hb0 := (Below.refl w.heap.size w).alloc (Nat.le_refl _) (.cells #[.int .i64 1, .int .i64 i, .float .f64 0, .complex .f64 0 0, .string ByteArray.empty] 50)
    have HT := Lib.hid (And.intro b0 hb0)
    clear b0 hb0
    go_enter Try.func77, Try.ntmps77
    go_wp2_with fail
    refine (HM.out _).mono ?_
    rintro e w1 ⟨rfl, hb1⟩
    obtain ⟨a0, hb0⟩ := HT.out
    have b0 := a0.below hb1 a0.lt
    have hb := hb0.trans (hb1.mono hb0.size)
    have x0 := b0.cell 0
    have x1 := b0.cell 1
    have x2 := b0.cell 2
    have x3 := b0.cell 3
    have x4 := b0.cell 4
    simp at x0 x1 x2 x3 x4
    clear a0 hb1 hb0
    go_wp2_with fail
    go_ret
    exact ⟨rfl, hb⟩
  · show Calls Try.prog 77 #[.agg #[.int .i64 2, .int .i64 0, .float .f64 x, .complex .f64 0 0, .string ByteArray.empty]] w fun e w' => e = .returned (.int .i64 8) ∧ Below w.heap.size w w'
    have hM : ∀ W : World, Calls Try.prog 76 #[.agg #[.int .i64 2, .int .i64 0, .float .f64 x, .complex .f64 0 0, .string ByteArray.empty]] W fun e w' => e = .returned (.bool true) ∧ Below W.heap.size W w' := fun W => by
      have h := rmay_any (vR x) (Good.shp (.inr (.inl ⟨x, hx, rfl⟩))) W
      rw [Good.may (.inr (.inl ⟨x, hx, rfl⟩))] at h
      exact h
    have HM := Lib.hid hM
    clear hM
    have b0 := Blk.new w 50 #[.int .i64 2, .int .i64 0, .float .f64 x, .complex .f64 0 0, .string ByteArray.empty]
    have hb0 := (Below.refl w.heap.size w).alloc (Nat.le_refl _) (.cells #[.int .i64 2, .int .i64 0, .float .f64 x, .complex .f64 0 0, .string ByteArray.empty] 50)
    have HT := Lib.hid (And.intro b0 hb0)
    clear b0 hb0
    go_enter Try.func77, Try.ntmps77
    go_wp2_with fail
    refine (HM.out _).mono ?_
    rintro e w1 ⟨rfl, hb1⟩
    obtain ⟨a0, hb0⟩ := HT.out
    have b0 := a0.below hb1 a0.lt
    have hb := hb0.trans (hb1.mono hb0.size)
    have x0 := b0.cell 0
    have x1 := b0.cell 1
    have x2 := b0.cell 2
    have x3 := b0.cell 3
    have x4 := b0.cell 4
    simp at x0 x1 x2 x3 x4
    clear a0 hb1 hb0
    go_wp2_with fail
    go_ret
    exact ⟨rfl, hb⟩
  · show Calls Try.prog 77 #[.agg #[.int .i64 3, .int .i64 0, .float .f64 0, .complex .f64 x y, .string ByteArray.empty]] w fun e w' => e = .returned (.int .i64 16) ∧ Below w.heap.size w w'
    have hM : ∀ W : World, Calls Try.prog 76 #[.agg #[.int .i64 3, .int .i64 0, .float .f64 0, .complex .f64 x y, .string ByteArray.empty]] W fun e w' => e = .returned (.bool true) ∧ Below W.heap.size W w' := fun W => by
      have h := rmay_any (vC x y) (Good.shp (.inr (.inr (.inl ⟨x, y, hx, hy, rfl⟩)))) W
      rw [Good.may (.inr (.inr (.inl ⟨x, y, hx, hy, rfl⟩)))] at h
      exact h
    have HM := Lib.hid hM
    clear hM
    have b0 := Blk.new w 50 #[.int .i64 3, .int .i64 0, .float .f64 0, .complex .f64 x y, .string ByteArray.empty]
    have hb0 := (Below.refl w.heap.size w).alloc (Nat.le_refl _) (.cells #[.int .i64 3, .int .i64 0, .float .f64 0, .complex .f64 x y, .string ByteArray.empty] 50)
    have HT := Lib.hid (And.intro b0 hb0)
    clear b0 hb0
    go_enter Try.func77, Try.ntmps77
    go_wp2_with fail
    refine (HM.out _).mono ?_
    rintro e w1 ⟨rfl, hb1⟩
    obtain ⟨a0, hb0⟩ := HT.out
    have b0 := a0.below hb1 a0.lt
    have hb := hb0.trans (hb1.mono hb0.size)
    have x0 := b0.cell 0
    have x1 := b0.cell 1
    have x2 := b0.cell 2
    have x3 := b0.cell 3
    have x4 := b0.cell 4
    simp at x0 x1 x2 x3 x4
    clear a0 hb1 hb0
    go_wp2_with fail
    go_ret
    exact ⟨rfl, hb⟩
  · show Calls Try.prog 77 #[.agg #[.int .i64 4, .int .i64 0, .float .f64 0, .complex .f64 0 0, .string s]] w fun e w' => e = .returned (.int .i64 s.size) ∧ Below w.heap.size w w'
    have hM : ∀ W : World, Calls Try.prog 76 #[.agg #[.int .i64 4, .int .i64 0, .float .f64 0, .complex .f64 0 0, .string s]] W fun e w' => e = .returned (.bool true) ∧ Below W.heap.size W w' := fun W => by
      have h := rmay_any (vT s) (Good.shp (.inr (.inr (.inr ⟨s, hs, rfl⟩)))) W
      rw [Good.may (.inr (.inr (.inr ⟨s, hs, rfl⟩)))] at h
      exact h
    have HM := Lib.hid hM
    clear hM
    have b0 := Blk.new w 50 #[.int .i64 4, .int .i64 0, .float .f64 0, .complex .f64 0 0, .string s]
    have hb0 := (Below.refl w.heap.size w).alloc (Nat.le_refl _) (.cells #[.int .i64 4, .int .i64 0, .float .f64 0, .complex .f64 0 0, .string s] 50)
    have HT := Lib.hid (And.intro b0 hb0)
    clear b0 hb0
    go_enter Try.func77, Try.ntmps77
    go_wp2_with fail
    refine (HM.out _).mono ?_
    rintro e w1 ⟨rfl, hb1⟩
    obtain ⟨a0, hb0⟩ := HT.out
    have b0 := a0.below hb1 a0.lt
    have hb := hb0.trans (hb1.mono hb0.size)
    have x0 := b0.cell 0
    have x1 := b0.cell 1
    have x2 := b0.cell 2
    have x3 := b0.cell 3
    have x4 := b0.cell 4
    simp at x0 x1 x2 x3 x4
    clear a0 hb1 hb0
    go_wp2_with fail
    go_ret
    exact ⟨rfl, hb⟩
end Go.Proofs.Ytlbfnnngemonoaa.Wir
