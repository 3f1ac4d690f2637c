/- wire.ReadMessage. -/
import Derived.Test.YtlbfnnngemonoaaWirPay
namespace Go.Proofs.Ytlbfnnngemonoaa.Wir
open Go.RowKit Go.Proofs.Ytlbfnnngemonoaa.PWireReads
open Go.Proofs.Ytlbfnnngemonoaa.Fat (Blk Chg Off)
open Go.Proofs.YtlbfnnngemonoaaW.PrintWords Go.Proofs.YtlbfnnngemonoaaW.PrintLast Go.Proofs.YtlbfnnngemonoaaW.PrintMore
set_option linter.unusedVariables false
set_option linter.unusedSimpArgs false
attribute [local go_sem] run_store_float run_store_complex

structure M where
  id : Int
  tag : ByteArray
  pl : List V
def rdM (l : List Int) : Option (M × Nat) :=
  if l.length < 6 then none
  else if 1048576 ≤ num (l.take 4) ∨ l.getD 4 0 < 1 ∨ 32 < l.getD 4 0 ∨ l.length < 5 + (l.getD 4 0).toNat then none
  else match rdP (l.drop (5 + (l.getD 4 0).toNat)) with
    | none => none
    | some (vs, m) => some (⟨num (l.take 4), strOfNums ((l.take (5 + (l.getD 4 0).toNat)).drop 5), vs⟩, 5 + (l.getD 4 0).toNat + m)
def MPost (w : World) (o : Option (M × Nat)) (e : Ending) (w' : World) : Prop :=
  Below w.heap.size w w' ∧ match o with
    | some (m, n) => ∃ v, e = .returned (.tuple #[.agg #[.int .i64 m.id, .string m.tag, v], .int .i64 n, .int .i64 0]) ∧ Kd.R kV 50 w' w.heap.size (fun _ => True) v m.pl
    | none => e = .returned (.tuple #[.agg #[.int .i64 0, .string { data := #[] }, .slice none 0 0], .int .i64 0, .int .i64 110])
theorem or_hi (k : Nat) (hk : k ≤ 62) (x y : Int) (h0 : 0 ≤ x) (h1 : x < 2 ^ 62) (hx : x % 2 ^ k = 0) (h2 : 0 ≤ y) (h3 : y < 2 ^ k) (h4 : y < 2 ^ 62) : bits .or .i64 x y = x + y := by
  have hw : ∀ m : Int, 0 ≤ m → m < 2 ^ 62 → IntKind.i64.wrap m = m := fun m h1 h2 => by rw [IntKind.wrap_i64]; omega
  exact bits_join .i64 62 (by decide) hw k x y h0 hx h1 h2 h3 h4
theorem R_over {α : Type} {d : Kd α} {e : Nat} {w w' : World} {base : Nat} {v : Value} {xs : List α} {G : List Nat} (h : d.R e w base (fun _ => True) v xs) (hc : Chg G w w') (hG : ∀ x ∈ G, x < base) : d.R e w' base (fun _ => True) v xs :=
  Kd.R_mono (Kd.R_move (Kd.R_bound h) (fun k hk => hc.block k hk.2.2.1 (fun hx => by have := hG k hx; have := hk.2.1; omega))) (fun _ _ => trivial)
theorem i64ok (m : Int) (h0 : 0 ≤ m) (h1 : m < 4611686018427387904) : IntKind.i64.wrap m = m := by rw [IntKind.wrap_i64]; omega
theorem num4 (l : List Int) (h : 4 ≤ l.length) : num (l.take 4) = l.getD 0 0 * 16777216 + l.getD 1 0 * 65536 + l.getD 2 0 * 256 + l.getD 3 0 := by
  rw [num_take l 3 (by omega), num_take l 2 (by omega), num_take l 1 (by omega), num_take l 0 (by omega)]
  have : num (l.take 0) = 0 := rfl
  rw [this]
  omega
set_option maxRecDepth 20000 in
set_option maxHeartbeats 4000000 in
theorem readM_short (A : Option Addr) (c : Nat) (l : List Int) (w : World) (h6 : l.length < 6) :
    Calls Try.prog 20 #[.slice A l.length c] w (MPost w none) := by
  have b0 : decide ((l.length : Int) < 6) = true := by simp; omega
  generalize l.length = n at b0 ⊢
  clear h6
  go_enter Try.func20, Try.ntmps20
  go_wp2_with fail
  try simp only [Exit.inBlock, Exit.then]
  refine bodyPost_ret (results_ctt rfl _ _ w.heap.size 57 #[.int .i64 0, .string { data := #[] }, .slice none 0 0] (0, 0) _ rfl (show Blk _ w.heap.size 57 #[.int .i64 0, .string { data := #[] }, .slice none 0 0] from Blk.new _ _ _) Try.underlying57 rfl (by kernel_rfl)) rfl ?_
  exact ⟨(Below.refl _ _).alloc (Nat.le_refl _) _, rfl⟩
set_option maxRecDepth 20000 in
set_option maxHeartbeats 4000000 in
theorem readM_head (A : Option Addr) (c : Nat) (l : List Int) (w : World) (hC : Kd.C (Kd.int .u8) w A l.length l) (hc : l.length ≤ c) (hB : By l) (h6 : 6 ≤ l.length) (hbad : 1048576 ≤ num (l.take 4) ∨ l.getD 4 0 < 1 ∨ 32 < l.getD 4 0 ∨ l.length < 5 + (l.getD 4 0).toNat) :
    Calls Try.prog 20 #[.slice A l.length c] w (MPost w none) := by
  obtain ⟨B0, hB0⟩ : ∃ B : Nat, l.getD 0 0 = B := ⟨(l.getD 0 0).toNat, by have := (hB.at 0).1; omega⟩
  have hb0 := (hB.at 0).2
  rw [hB0] at hb0
  obtain ⟨ad, hA0, x0⟩ := byte_at hC 0 (by omega)
  subst hA0
  rw [show ad.add 0 = ad from by simp [Addr.add], hB0] at x0
  have hlt0 := World.block_lt_of_cell? w _ x0
  obtain ⟨B1, hB1⟩ : ∃ B : Nat, l.getD 1 0 = B := ⟨(l.getD 1 0).toNat, by have := (hB.at 1).1; omega⟩
  have hb1 := (hB.at 1).2
  rw [hB1] at hb1
  obtain ⟨ad1, hA1, x1⟩ := byte_at hC 1 (by omega)
  obtain rfl := Option.some.inj hA1
  rw [show ad.add 1 = ⟨ad.block, ad.off + 1, none⟩ from rfl, hB1] at x1
  have hlt1 := World.block_lt_of_cell? w _ x1
  obtain ⟨B2, hB2⟩ : ∃ B : Nat, l.getD 2 0 = B := ⟨(l.getD 2 0).toNat, by have := (hB.at 2).1; omega⟩
  have hb2 := (hB.at 2).2
  rw [hB2] at hb2
  obtain ⟨ad2, hA2, x2⟩ := byte_at hC 2 (by omega)
  obtain rfl := Option.some.inj hA2
  rw [show ad.add 2 = ⟨ad.block, ad.off + 2, none⟩ from rfl, hB2] at x2
  have hlt2 := World.block_lt_of_cell? w _ x2
  obtain ⟨B3, hB3⟩ : ∃ B : Nat, l.getD 3 0 = B := ⟨(l.getD 3 0).toNat, by have := (hB.at 3).1; omega⟩
  have hb3 := (hB.at 3).2
  rw [hB3] at hb3
  obtain ⟨ad3, hA3, x3⟩ := byte_at hC 3 (by omega)
  obtain rfl := Option.some.inj hA3
  rw [show ad.add 3 = ⟨ad.block, ad.off + 3, none⟩ from rfl, hB3] at x3
  have hlt3 := World.block_lt_of_cell? w _ x3
  obtain ⟨B4, hB4⟩ : ∃ B : Nat, l.getD 4 0 = B := ⟨(l.getD 4 0).toNat, by have := (hB.at 4).1; omega⟩
  have hb4 := (hB.at 4).2
  rw [hB4] at hb4
  obtain ⟨ad4, hA4, x4⟩ := byte_at hC 4 (by omega)
  obtain rfl := Option.some.inj hA4
  rw [show ad.add 4 = ⟨ad.block, ad.off + 4, none⟩ from rfl, hB4] at x4
  have hlt4 := World.block_lt_of_cell? w _ x4
  have hid : num (l.take 4) = (B0 : Int) * 16777216 + (B1 : Int) * 65536 + (B2 : Int) * 256 + (B3 : Int) := by rw [num4 l (by omega), hB0, hB1, hB2, hB3]
  have t0 : IntKind.i64.wrap ((B0 : Int) * 16777216) = (B0 : Int) * 16777216 := by rw [IntKind.wrap_i64]; omega
  have t1 : IntKind.i64.wrap ((B1 : Int) * 65536) = (B1 : Int) * 65536 := by rw [IntKind.wrap_i64]; omega
  have t2 : IntKind.i64.wrap ((B2 : Int) * 256) = (B2 : Int) * 256 := by rw [IntKind.wrap_i64]; omega
  have o1 : bits .or .i64 ((B0 : Int) * 16777216) ((B1 : Int) * 65536) = (B0 : Int) * 16777216 + (B1 : Int) * 65536 := or_hi 24 (by omega) _ _ (by omega) (by omega) (by omega) (by omega) (by omega) (by omega)
  have o2 : bits .or .i64 ((B0 : Int) * 16777216 + (B1 : Int) * 65536) ((B2 : Int) * 256) = (B0 : Int) * 16777216 + (B1 : Int) * 65536 + (B2 : Int) * 256 := or_hi 16 (by omega) _ _ (by omega) (by omega) (by omega) (by omega) (by omega) (by omega)
  have o3 : bits .or .i64 ((B0 : Int) * 16777216 + (B1 : Int) * 65536 + (B2 : Int) * 256) (B3 : Int) = (B0 : Int) * 16777216 + (B1 : Int) * 65536 + (B2 : Int) * 256 + (B3 : Int) := or_hi 8 (by omega) _ _ (by omega) (by omega) (by omega) (by omega) (by omega) (by omega)
  have b6 : decide ((l.length : Int) < 6) = false := by simp; omega
  have a0 := Blk.new w 57 #[.int .i64 0, .string { data := #[] }, .slice none 0 0]
  have hb := (Below.refl w.heap.size w).alloc (Nat.le_refl _) (.cells #[.int .i64 0, .string { data := #[] }, .slice none 0 0] 57)
  have X0 := (World.cell?_of_block (hb.block _ hlt0)).trans x0
  have X1 := (World.cell?_of_block (hb.block _ hlt1)).trans x1
  have X2 := (World.cell?_of_block (hb.block _ hlt2)).trans x2
  have X3 := (World.cell?_of_block (hb.block _ hlt3)).trans x3
  have X4 := (World.cell?_of_block (hb.block _ hlt4)).trans x4
  have hl1 : (1 : Int) < (l.length : Int) := by omega
  have hl2 : (2 : Int) < (l.length : Int) := by omega
  have hl3 : (3 : Int) < (l.length : Int) := by omega
  have hl4 : (4 : Int) < (l.length : Int) := by omega
  clear hC
  rw [hid, hB4] at hbad
  clear hid
  generalize hidd : (B0 : Int) * 16777216 + (B1 : Int) * 65536 + (B2 : Int) * 256 + (B3 : Int) = id at o3 hbad
  clear hidd
  by_cases c0 : 1048576 ≤ id
  · have g0 : decide (id ≥ 1048576) = true := by simp; omega
    go_enter Try.func20, Try.ntmps20
    go_upto_region 3 with fail
    generalize w.alloc (.cells #[.int .i64 0, .string { data := #[] }, .slice none 0 0] 57) = W4 at a0 hb X0 X1 X2 X3 X4 ⊢
    go_quiet (fail)
    clear X0 X1 X2 X3 t0 t1 t2 o1 o2 o3
    have r0 := a0.cell 0
    have rf0 := a0.frozen 0
    have r1 := a0.cell 1
    have rf1 := a0.frozen 1
    have r2 := a0.cell 2
    have rf2 := a0.frozen 2
    simp at r0 r1 r2
    go_wp2_with fail
    try simp only [Exit.inBlock, Exit.then]
    refine bodyPost_ret (results_ctt rfl _ _ w.heap.size 57 #[.int .i64 0, .string { data := #[] }, .slice none 0 0] (0, 0) _ rfl (show Blk _ w.heap.size 57 #[.int .i64 0, .string { data := #[] }, .slice none 0 0] from ((((a0.drewN nq).set_ 0 _).set_ 1 _).set_ 2 _)) Try.underlying57 rfl (by kernel_rfl)) rfl ?_
    exact ⟨below_set (below_set (below_set (pw_below_drewN hb nq) (Nat.le_refl _)) (Nat.le_refl _)) (Nat.le_refl _), rfl⟩
  · by_cases c1 : (B4 : Int) < 1
    · have g0 : decide (id ≥ 1048576) = false := by simp; omega
      have g1 : decide ((B4 : Int) < 1) = true := by simp; omega
      go_enter Try.func20, Try.ntmps20
      go_upto_region 3 with fail
      generalize w.alloc (.cells #[.int .i64 0, .string { data := #[] }, .slice none 0 0] 57) = W4 at a0 hb X0 X1 X2 X3 X4 ⊢
      go_quiet (fail)
      clear X0 X1 X2 X3 t0 t1 t2 o1 o2 o3
      have r0 := a0.cell 0
      have rf0 := a0.frozen 0
      have r1 := a0.cell 1
      have rf1 := a0.frozen 1
      have r2 := a0.cell 2
      have rf2 := a0.frozen 2
      simp at r0 r1 r2
      go_wp2_with fail
      try simp only [Exit.inBlock, Exit.then]
      refine bodyPost_ret (results_ctt rfl _ _ w.heap.size 57 #[.int .i64 0, .string { data := #[] }, .slice none 0 0] (0, 0) _ rfl (show Blk _ w.heap.size 57 #[.int .i64 0, .string { data := #[] }, .slice none 0 0] from ((((a0.drewN nq).set_ 0 _).set_ 1 _).set_ 2 _)) Try.underlying57 rfl (by kernel_rfl)) rfl ?_
      exact ⟨below_set (below_set (below_set (pw_below_drewN hb nq) (Nat.le_refl _)) (Nat.le_refl _)) (Nat.le_refl _), rfl⟩
    · by_cases c2 : 32 < (B4 : Int)
      · have g0 : decide (id ≥ 1048576) = false := by simp; omega
        have g1 : decide ((B4 : Int) < 1) = false := by simp; omega
        have g2 : decide ((B4 : Int) > 32) = true := by simp; omega
        go_enter Try.func20, Try.ntmps20
        go_upto_region 3 with fail
        generalize w.alloc (.cells #[.int .i64 0, .string { data := #[] }, .slice none 0 0] 57) = W4 at a0 hb X0 X1 X2 X3 X4 ⊢
        go_quiet (fail)
        clear X0 X1 X2 X3 t0 t1 t2 o1 o2 o3
        have r0 := a0.cell 0
        have rf0 := a0.frozen 0
        have r1 := a0.cell 1
        have rf1 := a0.frozen 1
        have r2 := a0.cell 2
        have rf2 := a0.frozen 2
        simp at r0 r1 r2
        go_wp2_with fail
        try simp only [Exit.inBlock, Exit.then]
        refine bodyPost_ret (results_ctt rfl _ _ w.heap.size 57 #[.int .i64 0, .string { data := #[] }, .slice none 0 0] (0, 0) _ rfl (show Blk _ w.heap.size 57 #[.int .i64 0, .string { data := #[] }, .slice none 0 0] from ((((a0.drewN nq).set_ 0 _).set_ 1 _).set_ 2 _)) Try.underlying57 rfl (by kernel_rfl)) rfl ?_
        exact ⟨below_set (below_set (below_set (pw_below_drewN hb nq) (Nat.le_refl _)) (Nat.le_refl _)) (Nat.le_refl _), rfl⟩
      · have c3 : l.length < 5 + B4 := by omega
        have g0 : decide (id ≥ 1048576) = false := by simp; omega
        have g1 : decide ((B4 : Int) < 1) = false := by simp; omega
        have g2 : decide ((B4 : Int) > 32) = false := by simp; omega
        have g3 : decide ((l.length : Int) < 5 + (B4 : Int)) = true := by simp; omega
        have w5 : IntKind.i64.wrap (5 + (B4 : Int)) = 5 + (B4 : Int) := by rw [IntKind.wrap_i64]; omega
        go_enter Try.func20, Try.ntmps20
        go_upto_region 3 with fail
        generalize w.alloc (.cells #[.int .i64 0, .string { data := #[] }, .slice none 0 0] 57) = W4 at a0 hb X0 X1 X2 X3 X4 ⊢
        go_quiet (fail)
        clear X0 X1 X2 X3 t0 t1 t2 o1 o2 o3
        have r0 := a0.cell 0
        have rf0 := a0.frozen 0
        have r1 := a0.cell 1
        have rf1 := a0.frozen 1
        have r2 := a0.cell 2
        have rf2 := a0.frozen 2
        simp at r0 r1 r2
        go_wp2_with fail
        try simp only [Exit.inBlock, Exit.then]
        refine bodyPost_ret (results_ctt rfl _ _ w.heap.size 57 #[.int .i64 0, .string { data := #[] }, .slice none 0 0] (0, 0) _ rfl (show Blk _ w.heap.size 57 #[.int .i64 0, .string { data := #[] }, .slice none 0 0] from ((((a0.drewN nq).set_ 0 _).set_ 1 _).set_ 2 _)) Try.underlying57 rfl (by kernel_rfl)) rfl ?_
        exact ⟨below_set (below_set (below_set (pw_below_drewN hb nq) (Nat.le_refl _)) (Nat.le_refl _)) (Nat.le_refl _), rfl⟩
set_option maxRecDepth 20000 in
set_option maxHeartbeats 4000000 in
theorem readM_main (A : Option Addr) (c : Nat) (l : List Int) (w : World) (hC : Kd.C (Kd.int .u8) w A l.length l) (hc : l.length ≤ c) (hB : By l) (h6 : 6 ≤ l.length) (hl : l.length ≤ 140737488355328) (hok : ¬ (1048576 ≤ num (l.take 4) ∨ l.getD 4 0 < 1 ∨ 32 < l.getD 4 0 ∨ l.length < 5 + (l.getD 4 0).toNat)) :
    Calls Try.prog 20 #[.slice A l.length c] w (MPost w (match rdP (l.drop (5 + (l.getD 4 0).toNat)) with | none => none | some (vs, m) => some (⟨num (l.take 4), strOfNums ((l.take (5 + (l.getD 4 0).toNat)).drop 5), vs⟩, 5 + (l.getD 4 0).toNat + m))) := by
  obtain ⟨B0, hB0⟩ : ∃ B : Nat, l.getD 0 0 = B := ⟨(l.getD 0 0).toNat, by have := (hB.at 0).1; omega⟩
  have hb0 := (hB.at 0).2
  rw [hB0] at hb0
  obtain ⟨ad, hA0, x0⟩ := byte_at hC 0 (by omega)
  subst hA0
  rw [show ad.add 0 = ad from by simp [Addr.add], hB0] at x0
  have hlt0 := World.block_lt_of_cell? w _ x0
  obtain ⟨B1, hB1⟩ : ∃ B : Nat, l.getD 1 0 = B := ⟨(l.getD 1 0).toNat, by have := (hB.at 1).1; omega⟩
  have hb1 := (hB.at 1).2
  rw [hB1] at hb1
  obtain ⟨ad1, hA1, x1⟩ := byte_at hC 1 (by omega)
  obtain rfl := Option.some.inj hA1
  rw [show ad.add 1 = ⟨ad.block, ad.off + 1, none⟩ from rfl, hB1] at x1
  have hlt1 := World.block_lt_of_cell? w _ x1
  obtain ⟨B2, hB2⟩ : ∃ B : Nat, l.getD 2 0 = B := ⟨(l.getD 2 0).toNat, by have := (hB.at 2).1; omega⟩
  have hb2 := (hB.at 2).2
  rw [hB2] at hb2
  obtain ⟨ad2, hA2, x2⟩ := byte_at hC 2 (by omega)
  obtain rfl := Option.some.inj hA2
  rw [show ad.add 2 = ⟨ad.block, ad.off + 2, none⟩ from rfl, hB2] at x2
  have hlt2 := World.block_lt_of_cell? w _ x2
  obtain ⟨B3, hB3⟩ : ∃ B : Nat, l.getD 3 0 = B := ⟨(l.getD 3 0).toNat, by have := (hB.at 3).1; omega⟩
  have hb3 := (hB.at 3).2
  rw [hB3] at hb3
  obtain ⟨ad3, hA3, x3⟩ := byte_at hC 3 (by omega)
  obtain rfl := Option.some.inj hA3
  rw [show ad.add 3 = ⟨ad.block, ad.off + 3, none⟩ from rfl, hB3] at x3
  have hlt3 := World.block_lt_of_cell? w _ x3
  obtain ⟨B4, hB4⟩ : ∃ B : Nat, l.getD 4 0 = B := ⟨(l.getD 4 0).toNat, by have := (hB.at 4).1; omega⟩
  have hb4 := (hB.at 4).2
  rw [hB4] at hb4
  obtain ⟨ad4, hA4, x4⟩ := byte_at hC 4 (by omega)
  obtain rfl := Option.some.inj hA4
  rw [show ad.add 4 = ⟨ad.block, ad.off + 4, none⟩ from rfl, hB4] at x4
  have hlt4 := World.block_lt_of_cell? w _ x4
  have hid : num (l.take 4) = (B0 : Int) * 16777216 + (B1 : Int) * 65536 + (B2 : Int) * 256 + (B3 : Int) := by rw [num4 l (by omega), hB0, hB1, hB2, hB3]
  have b6 : decide ((l.length : Int) < 6) = false := by simp; omega
  have a0 := Blk.new w 57 #[.int .i64 0, .string { data := #[] }, .slice none 0 0]
  have hb := (Below.refl w.heap.size w).alloc (Nat.le_refl _) (.cells #[.int .i64 0, .string { data := #[] }, .slice none 0 0] 57)
  have X0 := (World.cell?_of_block (hb.block _ hlt0)).trans x0
  have X1 := (World.cell?_of_block (hb.block _ hlt1)).trans x1
  have X2 := (World.cell?_of_block (hb.block _ hlt2)).trans x2
  have X3 := (World.cell?_of_block (hb.block _ hlt3)).trans x3
  have X4 := (World.cell?_of_block (hb.block _ hlt4)).trans x4
  have hl1 : (1 : Int) < (l.length : Int) := by omega
  have hl2 : (2 : Int) < (l.length : Int) := by omega
  have hl3 : (3 : Int) < (l.length : Int) := by omega
  have hl4 : (4 : Int) < (l.length : Int) := by omega
  have g0 : decide (num (l.take 4) ≥ 1048576) = false := by simp; omega
  have hpos : 1 ≤ B4 ∧ B4 ≤ 32 ∧ 5 + B4 ≤ l.length := by rw [hB4] at hok; omega
  rw [hB4, Int.toNat_natCast]
  clear hok
  have g1 : decide ((B4 : Int) < 1) = false := by simp; omega
  have g2 : decide ((B4 : Int) > 32) = false := by simp; omega
  have g3 : decide ((l.length : Int) < 5 + (B4 : Int)) = false := by simp; omega
  have HW5 : Hid (IntKind.i64.wrap (5 + (B4 : Int)) = 5 + (B4 : Int)) := Lib.hid (by rw [IntKind.wrap_i64]; omega)
  have hlen2 : (l.drop (5 + B4)).length ≤ 140737488355328 := by rw [List.length_drop]; omega
  obtain ⟨A1, c1, hcut0, hcut1, hcutC⟩ := cutBy (some ad) c l w hC hc (5 + B4) hpos.2.2
  have hcut : ∀ W : World, (Instr.slice 45 (.slice (some ad) l.length c) (some (.int .i64 (5 + (B4 : Int)))) none none).run Try.prog W = .ok (.slice A1 (l.drop (5 + B4)).length c1) W := by
    intro W
    rw [show (5 + (B4 : Int)) = ((5 + B4 : Nat) : Int) from by omega]
    exact hcut0 W
  obtain ⟨A2, c2, hmid0, hmid1, hmidC⟩ := cutMid (some ad) c l w hC hc 5 (5 + B4) (by omega) hpos.2.2
  have hmid : ∀ W : World, (Instr.slice 45 (.slice (some ad) l.length c) (some (.int .i64 5)) (some (.int .i64 (5 + (B4 : Int)))) none).run Try.prog W = .ok (.slice A2 ((l.take (5 + B4)).drop 5).length c2) W := by
    intro W
    rw [show (5 + (B4 : Int)) = ((5 + B4 : Nat) : Int) from by omega]
    exact hmid0 W
  rw [hid] at g0 ⊢
  have t0 : IntKind.i64.wrap ((B0 : Int) * 16777216) = (B0 : Int) * 16777216 := by rw [IntKind.wrap_i64]; omega
  have t1 : IntKind.i64.wrap ((B1 : Int) * 65536) = (B1 : Int) * 65536 := by rw [IntKind.wrap_i64]; omega
  have t2 : IntKind.i64.wrap ((B2 : Int) * 256) = (B2 : Int) * 256 := by rw [IntKind.wrap_i64]; omega
  have o1 : bits .or .i64 ((B0 : Int) * 16777216) ((B1 : Int) * 65536) = (B0 : Int) * 16777216 + (B1 : Int) * 65536 := or_hi 24 (by omega) _ _ (by omega) (by omega) (by omega) (by omega) (by omega) (by omega)
  have o2 : bits .or .i64 ((B0 : Int) * 16777216 + (B1 : Int) * 65536) ((B2 : Int) * 256) = (B0 : Int) * 16777216 + (B1 : Int) * 65536 + (B2 : Int) * 256 := or_hi 16 (by omega) _ _ (by omega) (by omega) (by omega) (by omega) (by omega) (by omega)
  have o3 : bits .or .i64 ((B0 : Int) * 16777216 + (B1 : Int) * 65536 + (B2 : Int) * 256) (B3 : Int) = (B0 : Int) * 16777216 + (B1 : Int) * 65536 + (B2 : Int) * 256 + (B3 : Int) := or_hi 8 (by omega) _ _ (by omega) (by omega) (by omega) (by omega) (by omega) (by omega)
  generalize (B0 : Int) * 16777216 + (B1 : Int) * 65536 + (B2 : Int) * 256 + (B3 : Int) = id at o3 g0 ⊢
  have HCut := Lib.hid hcutC
  have HMid := Lib.hid hmidC
  have HC1 := Lib.hid hcut1
  have HPos := Lib.hid hpos
  have HBy := Lib.hid hB
  clear hC hid hcut0 hcut1 hcutC hmid0 hmid1 hmidC hpos hB
  obtain ⟨PQ, hPQ⟩ : ∃ PQ, PQ = MPost w (match rdP (l.drop (5 + B4)) with | none => none | some (vs, m) => some (⟨id, strOfNums ((l.take (5 + B4)).drop 5), vs⟩, 5 + B4 + m)) := ⟨_, rfl⟩
  rw [← hPQ]
  have HPQ := Lib.hid hPQ
  clear hPQ
  go_enter Try.func20, Try.ntmps20
  go_upto_region 3 with fail
  generalize w.alloc (.cells #[.int .i64 0, .string { data := #[] }, .slice none 0 0] 57) = W4 at a0 hb X0 X1 X2 X3 X4 ⊢
  go_quiet (fail)
  clear X0 X1 X2 X3 t0 t1 t2 o1 o2 o3
  have r0 := a0.cell 0
  have rf0 := a0.frozen 0
  have r1 := a0.cell 1
  have rf1 := a0.frozen 1
  have r2 := a0.cell 2
  have rf2 := a0.frozen 2
  simp at r0 r1 r2
  have HQ := Lib.hid (readP_any A1 c1 (l.drop (5 + B4)) (W4.drewN nq) (Kd.C_drewN (Kd.C_below HCut.out hb) nq) HC1.out (HBy.out.drop _) hlen2)
  have hg := rdP_good (l.drop (5 + B4))
  rw [List.length_drop] at hg
  generalize rdP (l.drop (5 + B4)) = o at HQ hg HPQ
  generalize (l.drop (5 + B4)).length = m1 at hcut HQ
  cases o with
  | none =>
    clear hg
    have w5 := HW5.out
    go_wp2_with fail
    refine HQ.out.mono ?_
    rintro e w1 ⟨hb1, he⟩
    have he : e = .returned (.tuple #[.slice none 0 0, .int .i64 0, .int .i64 110]) := he
    subst he
    have c0 := (a0.drewN nq).below hb1 (a0.drewN nq).lt
    have hb2 := (pw_below_drewN hb nq).trans (hb1.mono (pw_below_drewN hb nq).size)
    clear r0 r1 r2 rf0 rf1 rf2
    have r0 := c0.cell 0
    have r1 := c0.cell 1
    have r2 := c0.cell 2
    have rf0 := c0.frozen 0
    have rf1 := c0.frozen 1
    have rf2 := c0.frozen 2
    simp at r0 r1 r2
    go_wp2_with fail
    rw [HPQ.out]
    try simp only [Exit.inBlock, Exit.then]
    refine bodyPost_ret (results_ctt rfl _ _ w.heap.size 57 #[.int .i64 0, .string { data := #[] }, .slice none 0 0] (0, 0) _ rfl (show Blk _ w.heap.size 57 #[.int .i64 0, .string { data := #[] }, .slice none 0 0] from (((c0.set_ 0 _).set_ 1 _).set_ 2 _)) Try.underlying57 rfl (by kernel_rfl)) rfl ?_
    exact ⟨below_set (below_set (below_set hb2 (Nat.le_refl _)) (Nat.le_refl _)) (Nat.le_refl _), rfl⟩
  | some p =>
    obtain ⟨vs, m⟩ := p
    obtain ⟨_, _, hm1, hm2⟩ := hg vs m rfl
    have hpos := HPos.out
    have hm62 : 5 + (B4 : Int) + (m : Int) < 4611686018427387904 := by omega
    have w6 : IntKind.i64.wrap (5 + (B4 : Int) + (m : Int)) = 5 + (B4 : Int) + (m : Int) := i64ok _ (by omega) hm62
    clear hg hpos hm62
    have w5 := HW5.out
    go_wp2_with fail
    refine HQ.out.mono ?_
    rintro e w1 ⟨hb1, he⟩
    obtain ⟨v, he, hR⟩ := he
    subst he
    obtain ⟨Av, cv, rfl⟩ := Kd.R_slice hR
    have hsz := hb.size
    have c0 := (a0.drewN nq).below hb1 (a0.drewN nq).lt
    have hb2 := (pw_below_drewN hb nq).trans (hb1.mono (pw_below_drewN hb nq).size)
    have hstr := Kd.C_string (P := Try.prog) (src := 45) (dst := 9) (c := c2) Try.underlying45 Try.underlying5 Try.underlying9 (Kd.C_below (Kd.C_drewN (Kd.C_below HMid.out hb) nq) hb1)
    generalize strOfNums ((l.take (5 + B4)).drop 5) = tg at hstr HPQ
    generalize ((l.take (5 + B4)).drop 5).length = m2 at hmid hstr
    have HR := Lib.hid hR
    clear r0 r1 r2 rf0 rf1 rf2 hR
    have r0 := c0.cell 0
    have r1 := c0.cell 1
    have r2 := c0.cell 2
    have rf0 := c0.frozen 0
    have rf1 := c0.frozen 1
    have rf2 := c0.frozen 2
    simp at r0 r1 r2
    go_wp2_with fail
    try simp only [Exit.inBlock, Exit.then]
    rw [HPQ.out]
    refine bodyPost_ret (results_ctt rfl _ _ w.heap.size 57 #[.int .i64 id, .string tg, .slice Av vs.length cv] (0, 0) _ rfl (show Blk _ w.heap.size 57 #[.int .i64 id, .string tg, .slice Av vs.length cv] from (((c0.set_ 0 _).set_ 1 _).set_ 2 _)) Try.underlying57 rfl (by kernel_rfl)) rfl ?_
    refine ⟨below_set (below_set (below_set hb2 (Nat.le_refl _)) (Nat.le_refl _)) (Nat.le_refl _), .slice Av vs.length cv, ?_, ?_⟩
    · show Ending.returned _ = _
      congr 1
    · have hlt := a0.lt
      exact Kd.R_lower (R_over HR.out ((((Chg.refl [w.heap.size] w1).setCell (.inl (by simp)) _).setCell (.inl (by simp)) _).setCell (.inl (by simp)) _) (by simpa using hlt)) hsz
theorem readM_any (A : Option Addr) (c : Nat) (l : List Int) (w : World) (hC : Kd.C (Kd.int .u8) w A l.length l) (hc : l.length ≤ c) (hB : By l) (hl : l.length ≤ 140737488355328) :
    Calls Try.prog 20 #[.slice A l.length c] w (MPost w (rdM l)) := by
  unfold rdM
  split
  · rename_i h; exact readM_short A c l w h
  split
  · rename_i h6 hb; exact readM_head A c l w hC hc hB (by omega) hb
  · rename_i h6 hb; exact readM_main A c l w hC hc hB (by omega) hl hb
theorem rdM_good (l : List Int) (m : M) (n : Nat) (h : rdM l = some (m, n)) : (∀ v ∈ m.pl, Good v) ∧ m.pl.length ≤ 6 ∧ m.tag.size ≤ 32 ∧ 1 ≤ n ∧ n ≤ l.length := by
  unfold rdM at h
  split at h
  · cases h
  split at h
  · cases h
  rename_i h6 hb
  cases h1 : rdP (l.drop (5 + (l.getD 4 0).toNat)) with
  | none => rw [h1] at h; cases h
  | some p =>
    obtain ⟨vs, k⟩ := p
    rw [h1] at h
    simp only [Option.some.injEq, Prod.mk.injEq] at h
    obtain ⟨rfl, rfl⟩ := h
    obtain ⟨g1, g2, g3, g4⟩ := rdP_good _ _ _ h1
    rw [List.length_drop] at g4
    refine ⟨g1, g2, ?_, by omega, by omega⟩
    rw [strOfNums_size, List.length_drop, List.length_take]
    omega
end Go.Proofs.Ytlbfnnngemonoaa.Wir
