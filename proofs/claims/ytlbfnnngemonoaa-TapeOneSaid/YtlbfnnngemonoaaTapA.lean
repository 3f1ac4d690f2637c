/- tape.one: its closures word and long, a kind that is none, the kinds Spawn and Pick. -/
import Derived.Test.YtlbfnnngemonoaaWirVals
import Derived.Laws.EntriesVeiled
namespace Go.Proofs.Ytlbfnnngemonoaa.Wir
open Go.RowKit Go.Proofs.Ytlbfnnngemonoaa.PWireReads
open Go.Proofs.Ytlbfnnngemonoaa.Fat (Blk Chg Off chg_opt)
open Go.Proofs.YtlbfnnngemonoaaW.PrintWords Go.Proofs.YtlbfnnngemonoaaW.PrintLast Go.Proofs.YtlbfnnngemonoaaW.PrintMore
set_option linter.unusedVariables false
set_option linter.unusedSimpArgs false
attribute [local go_sem] run_store_float run_store_complex

/-- A name, read at a place: the name, and where it ends. -/
def rdW (l : List Int) (at0 : Nat) : Option (ByteArray × Nat) :=
  if l.length ≤ at0 then none else if 32 < l.getD at0 0 then none else if l.length < at0 + 1 + (l.getD at0 0).toNat then none
  else some (strOfNums ((l.take (at0 + 1 + (l.getD at0 0).toNat)).drop (at0 + 1)), at0 + 1 + (l.getD at0 0).toNat)
def resW : Option (ByteArray × Nat) → Value
  | some (s, n) => .tuple #[.string s, .int .i64 n, .bool true]
  | none => .tuple #[.string { data := #[] }, .int .i64 0, .bool false]
set_option maxRecDepth 20000 in
set_option maxHeartbeats 2000000 in
theorem word81_any (bx : Nat) (A : Option Addr) (c : Nat) (l : List Int) (at0 : Nat) (w : World) (hX : Blk w bx 45 #[.slice A l.length c]) (hC : Kd.C (Kd.int .u8) w A l.length l) (hc : l.length ≤ c) (hB : By l) (hl : l.length ≤ 140737488355328) (ha : at0 ≤ 140737488355328) :
    Calls Try.prog 81 #[.int .i64 at0, .pointer (some ⟨bx, 0, none⟩)] w fun e w' => e = .returned (resW (rdW l at0)) ∧ Below w.heap.size w w' := by
  have x0 : w.cell? ⟨bx, 0, none⟩ = some (.slice A l.length c) := hX.cell 0
  have HX := Lib.hid hX
  by_cases h1 : l.length ≤ at0
  · rw [rdW, if_pos h1]
    have b0 : decide ((l.length : Int) ≤ (at0 : Int)) = true := by simp; omega
    have b1 : decide (l.length ≤ at0) = true := by simp; omega
    clear hX hC
    go_enter Try.func81, Try.ntmps81
    go_upto_region 1 with fail
    go_quiet (fail)
    go_wp2_with fail
    go_ret3
    exact ⟨rfl, pw_below_drewN (Below.refl _ _) _⟩
  · rw [rdW, if_neg h1]
    obtain ⟨ad, hA, z0⟩ := byte_at hC at0 (by omega)
    have hzb := hB.at at0
    have w1 : IntKind.i64.wrap ((at0 : Int) + 1) = (at0 : Int) + 1 := by rw [IntKind.wrap_i64]; omega
    have p0 : decide ((l.length : Int) ≤ (at0 : Int)) = false := by simp; omega
    have p1 : decide (l.length ≤ at0) = false := by simp; omega
    have p2 : decide ((at0 : Int) < (l.length : Int)) = true := by simp; omega
    by_cases h2 : 32 < l.getD at0 0
    · rw [if_pos h2]
      generalize l.getD at0 0 = y at z0 hzb h2
      have q0 : decide (32 < y) = true := by simp; omega
      have w3 : IntKind.i64.wrap y = y := by rw [IntKind.wrap_i64]; omega
      subst hA
      clear hX hC h2 hzb hB
      go_enter Try.func81, Try.ntmps81
      go_upto_region 1 with fail
      go_quiet (fail)
      go_wp2_with fail
      go_ret3
      exact ⟨rfl, pw_below_drewN (Below.refl _ _) _⟩
    · rw [if_neg h2]
      obtain ⟨y, hy⟩ : ∃ y : Nat, (y : Int) = l.getD at0 0 := ⟨(l.getD at0 0).toNat, by omega⟩
      have hyn : (l.getD at0 0).toNat = y := by omega
      rw [hyn]
      rw [← hy] at z0 h2
      have q0 : decide (32 < (y : Int)) = false := by simp; omega
      have w3 : IntKind.i64.wrap (y : Int) = (y : Int) := by rw [IntKind.wrap_i64]; omega
      have q1 : decide (32 < y) = false := by simp; omega
      have w2 : IntKind.i64.wrap ((at0 : Int) + 1 + (y : Int)) = (at0 : Int) + 1 + (y : Int) := by rw [IntKind.wrap_i64]; omega
      by_cases h3 : l.length < at0 + 1 + y
      · rw [if_pos h3]
        have r0 : decide ((l.length : Int) < (at0 : Int) + 1 + (y : Int)) = true := by simp; omega
        subst hA
        clear hX hC h2 hzb hB hy hyn
        go_enter Try.func81, Try.ntmps81
        go_upto_region 1 with fail
        go_quiet (fail)
        go_wp2_with fail
        go_ret3
        exact ⟨rfl, pw_below_drewN (Below.refl _ _) _⟩
      · rw [if_neg h3]
        have r0 : decide ((l.length : Int) < (at0 : Int) + 1 + (y : Int)) = false := by simp; omega
        obtain ⟨A1, c1, hm0, hm1, hmC⟩ := cutMid A c l w hC hc (at0 + 1) (at0 + 1 + y) (by omega) (by omega)
        have HM := Lib.hid hmC
        generalize (l.take (at0 + 1 + y)).drop (at0 + 1) = q at hm0 HM
        have hm : ∀ W : World, (Instr.slice 45 (.slice A l.length c) (some (.int .i64 ((at0 : Int) + 1))) (some (.int .i64 ((at0 : Int) + 1 + (y : Int)))) none).run Try.prog W = .ok (.slice A1 q.length c1) W := by
          intro W
          have := hm0 W
          push_cast at this
          exact this
        subst hA
        clear hX hC h2 hzb hB hy hyn hm0 hmC
        go_enter Try.func81, Try.ntmps81
        go_upto_region 1 with fail
        go_quiet (fail)
        have hs := Kd.C_string (P := Try.prog) (src := 45) (dst := 9) (c := c1) Try.underlying45 Try.underlying5 Try.underlying9 (Kd.C_drewN HM.out nq)
        go_wp2_with fail
        go_ret3
        exact ⟨rfl, pw_below_drewN (Below.refl _ _) _⟩
/-- A number of 8 bytes, read at a place. -/
def rdL (l : List Int) (at0 : Nat) : Option Int := if l.length < at0 + 8 then none else some (wrap64 (num ((l.take (at0 + 8)).drop at0)))
def resL : Option Int → Value
  | some x => .tuple #[.int .i64 x, .bool true]
  | none => .tuple #[.int .i64 0, .bool false]
set_option maxRecDepth 20000 in
set_option maxHeartbeats 2000000 in
theorem long82_any (bx : Nat) (A : Option Addr) (c : Nat) (l : List Int) (at0 : Nat) (w : World) (hX : Blk w bx 45 #[.slice A l.length c]) (hC : Kd.C (Kd.int .u8) w A l.length l) (hc : l.length ≤ c) (hB : By l) (hl : l.length ≤ 140737488355328) (ha : at0 ≤ 140737488355328) :
    Calls Try.prog 82 #[.int .i64 at0, .pointer (some ⟨bx, 0, none⟩)] w fun e w' => e = .returned (resL (rdL l at0)) ∧ w' = w := by
  have x0 : w.cell? ⟨bx, 0, none⟩ = some (.slice A l.length c) := hX.cell 0
  have w8 : IntKind.i64.wrap ((at0 : Int) + 8) = (at0 : Int) + 8 := by rw [IntKind.wrap_i64]; omega
  by_cases h1 : l.length < at0 + 8
  · rw [rdL, if_pos h1]
    have b0 : decide ((l.length : Int) < (at0 : Int) + 8) = true := by simp; omega
    clear hX hC
    go_enter Try.func82, Try.ntmps82
    go_wp2_with fail
    go_ret2
    exact ⟨rfl, rfl⟩
  · rw [rdL, if_neg h1]
    have b0 : decide ((l.length : Int) < (at0 : Int) + 8) = false := by simp; omega
    obtain ⟨A1, c1, hm0, hm1, hmC⟩ := cutMid A c l w hC hc at0 (at0 + 8) (by omega) (by omega)
    have HC := Lib.hid hmC
    have HBy := Lib.hid ((hB.take (at0 + 8)).drop at0)
    have h8 : ((l.take (at0 + 8)).drop at0).length = 8 := by simp; omega
    rw [h8] at hm0
    generalize (l.take (at0 + 8)).drop at0 = q at hm0 HC HBy h8
    have H8 := Lib.hid h8
    have hm : ∀ W : World, (Instr.slice 45 (.slice A l.length c) (some (.int .i64 (at0 : Int))) (some (.int .i64 ((at0 : Int) + 8))) none).run Try.prog W = .ok (.slice A1 8 c1) W := by
      intro W
      have := hm0 W
      push_cast at this
      exact this
    clear hX hC hB hm0 hmC h8 hm1
    go_enter Try.func82, Try.ntmps82
    go_wp2_with fail
    go_loopw [5, 19] (fun n i wr => ∃ k : Nat, k ≤ 8 ∧ i = .int .i64 k ∧ n = .int .u64 (num (q.take k)) ∧ wr = w) (fun _ i _ => 8 - (intOf i).toNat)
    case atStart => exact ⟨0, by omega, rfl, rfl, rfl⟩
    case round =>
      obtain ⟨k, hk, rfl, rfl, rfl⟩ := hrel
      by_cases hlt : k < 8
      · have b0 : decide ((k : Int) < 8) = true := by simp; omega
        obtain ⟨ad, hA, x0⟩ := byte_at HC.out k (by rw [H8.out]; omega)
        subst hA
        have h1 := HBy.out.at k
        have h2 := num_bound q HBy.out k (by rw [H8.out]; omega)
        have h3 : (256 : Int) ^ k ≤ 72057594037927936 := (by decide : ∀ k : Nat, k < 8 → (256 : Int) ^ k ≤ 72057594037927936) k hlt
        have HN := Lib.hid (num_take q k (by rw [H8.out]; omega))
        generalize num (q.take k) = n at h2 HN ⊢
        generalize q.getD k 0 = b at x0 h1 HN
        have hb7 : n < 72057594037927936 := by omega
        have HW : Hid (bits .or .u64 (IntKind.u64.wrap (n * 256)) b = n * 256 + b) := Lib.hid (or_byte n b h2.1 hb7 h1.1 h1.2)
        have HWN := Lib.hid (w64n k (by omega))
        clear h3 h2
        go_wp2_with fail
        go_roundw
        case rel => exact ⟨k + 1, by omega, rfl, by rw [HW.out, HN.out], trivial⟩
        case measure =>
          simp [intOf]
          omega
      · obtain rfl : k = 8 := by omega
        rw [show q.take 8 = q from List.take_of_length_le (by rw [H8.out]; exact Nat.le_refl _)]
        go_wp2_with fail
        go_ret2
        exact ⟨by simp [resL, i64_w], rfl⟩
end Go.Proofs.Ytlbfnnngemonoaa.Wir
namespace Go.Proofs.Ytlbfnnngemonoaa.Wir
open Go.RowKit Go.Proofs.Ytlbfnnngemonoaa.PWireReads
open Go.Proofs.Ytlbfnnngemonoaa.Fat (Blk Chg Off chg_opt)
open Go.Proofs.YtlbfnnngemonoaaW.PrintWords Go.Proofs.YtlbfnnngemonoaaW.PrintLast Go.Proofs.YtlbfnnngemonoaaW.PrintMore
set_option linter.unusedVariables false
set_option linter.unusedSimpArgs false
attribute [local go_sem] run_store_float run_store_complex
@[local go_sem] theorem run_makeFunc' (P : Program) (fn : Fn) (first cap : Array Value) (w : World) : (Instr.makeFunc fn first cap).run P w = .ok (.func fn first cap) w := rfl
@[local go_sem] theorem events_makeFunc' (P : Program) (fn : Fn) (first cap : Array Value) (w : World) (es : Array Event) : (Instr.makeFunc fn first cap).events P w es = es := rfl

def zCall : Value := .agg #[.int .i64 0, .string { data := #[] }, .int .i64 0, .slice none 0 0, .int .i64 0]
set_option maxRecDepth 20000 in
set_option maxHeartbeats 4000000 in
theorem one_other (A : Option Addr) (c : Nat) (l : List Int) (w : World) (hC : Kd.C (Kd.int .u8) w A l.length l) (hc : l.length ≤ c) (hB : By l) (h1 : 1 ≤ l.length) (hl : l.length ≤ 140737488355328) (hk1 : l.getD 0 0 ≠ 1) (hk2 : l.getD 0 0 ≠ 2) (hk3 : l.getD 0 0 ≠ 3) :
    Calls Try.prog 68 #[.slice A l.length c] w fun e w' => e = .returned (.tuple #[zCall, .int .i64 0]) ∧ Below w.heap.size w w' := by
  obtain ⟨ad, hA, z0⟩ := byte_at hC 0 (by omega)
  have hyb := hB.at 0
  subst hA
  have HT := Lib.hid (two_new w #[.slice (some ad) l.length c] #[.int .i64 0, .string { data := #[] }, .int .i64 0, .slice none 0 0, .int .i64 0] 45 123)
  have HC := Lib.hid hC
  have b9 : decide ((0 : Int) < (l.length : Int)) = true := by simp; omega
  have b10 : decide (0 < l.length) = true := by simp; omega
  have z0 : w.cell? ad = some (.int .u8 (l.getD 0 0)) := by simpa [Addr.add] using z0
  generalize l.getD 0 0 = y at z0 hyb hk1 hk2 hk3
  have e1 : (y == 1) = false := beq_eq_false_iff_ne.2 hk1
  have e2 : (y == 2) = false := beq_eq_false_iff_ne.2 hk2
  have e3 : (y == 3) = false := beq_eq_false_iff_ne.2 hk3
  have w3 : IntKind.i64.wrap y = y := by rw [IntKind.wrap_i64]; omega
  have z1 : ∀ W : World, Below w.heap.size w W → W.cell? ad = some (.int .u8 y) := fun W h => (World.cell?_of_block (h.block _ (World.block_lt_of_cell? w _ z0))).trans z0
  have HZ := Lib.hid z1
  clear hC hyb hk1 hk2 hk3 z0 z1
  go_enter Try.func68, Try.ntmps68
  go_wp2_with fail
  refine wp_scope_fwd 0 (by rfl) ?_
  go_upto_region 6 with fail
  obtain ⟨a0, a1, hb⟩ := HT.out
  generalize hWq : ((w.alloc (.cells #[.slice (some ad) l.length c] 45)).alloc (.cells #[.int .i64 0, .string { data := #[] }, .int .i64 0, .slice none 0 0, .int .i64 0] 123)) = W1 at a0 a1 hb ⊢
  clear hWq
  have x0 := a0.cell 0
  have z0 := HZ.out W1 hb
  have y0 := a1.cell 0
  have yf0 := a1.frozen 0
  simp at x0 y0
  have HA1 := Lib.hid a1
  have HB := Lib.hid hb
  clear a0 a1 hb HT
  go_upto_region 7 with fail
  have h2 := HA1.out.set_ 0 (.int .i64 y)
  have hb2 : Below w.heap.size w (W1.setCell ⟨w.heap.size + 1, 0, none⟩ (.int .i64 y)) := below_set HB.out (Nat.le_succ _)
  generalize hWq : W1.setCell ⟨w.heap.size + 1, 0, none⟩ (.int .i64 y) = W2 at h2 hb2 ⊢
  clear hWq x0 z0 y0 yf0
  have y0 : W2.cell? ⟨w.heap.size + 1, 0, none⟩ = some (.int .i64 y) := by rw [h2.cell]; rfl
  have yf0 : W2.frozen? ⟨w.heap.size + 1, 0, none⟩ = false := h2.frozen 0
  have y1 : W2.cell? ⟨w.heap.size + 1, 1, none⟩ = some (.string { data := #[] }) := by rw [h2.cell]; rfl
  have yf1 : W2.frozen? ⟨w.heap.size + 1, 1, none⟩ = false := h2.frozen 1
  have y2 : W2.cell? ⟨w.heap.size + 1, 2, none⟩ = some (.int .i64 0) := by rw [h2.cell]; rfl
  have yf2 : W2.frozen? ⟨w.heap.size + 1, 2, none⟩ = false := h2.frozen 2
  have y3 : W2.cell? ⟨w.heap.size + 1, 3, none⟩ = some (.slice none 0 0) := by rw [h2.cell]; rfl
  have yf3 : W2.frozen? ⟨w.heap.size + 1, 3, none⟩ = false := h2.frozen 3
  have y4 : W2.cell? ⟨w.heap.size + 1, 4, none⟩ = some (.int .i64 0) := by rw [h2.cell]; rfl
  have yf4 : W2.frozen? ⟨w.heap.size + 1, 4, none⟩ = false := h2.frozen 4
  have H2 := Lib.hid h2
  have HB2 := Lib.hid hb2
  clear h2 hb2 HA1 HB
  go_wp2_with fail
  go_step3
  refine And.intro rfl ?_
  go_wp2_with fail
  simp only [Exit.jump]
  have h2 := H2.out
  have hb2 := HB2.out
  refine bodyPost_ret (results_ct rfl _ _ (w.heap.size + 1) 123 #[.int .i64 0, .string { data := #[] }, .int .i64 0, .slice none 0 0, .int .i64 0] (0, 0) _ rfl (show Blk _ (w.heap.size + 1) 123 #[.int .i64 0, .string { data := #[] }, .int .i64 0, .slice none 0 0, .int .i64 0] from (((((h2).set_ 0 _).set_ 1 _).set_ 2 _).set_ 3 _).set_ 4 _) Try.underlying123 rfl (by kernel_rfl)) rfl ?_
  exact ⟨rfl, below_set (below_set (below_set (below_set (below_set (hb2) (Nat.le_succ _)) (Nat.le_succ _)) (Nat.le_succ _)) (Nat.le_succ _)) (Nat.le_succ _)⟩
end Go.Proofs.Ytlbfnnngemonoaa.Wir
namespace Go.Proofs.Ytlbfnnngemonoaa.Wir
open Go.RowKit Go.Proofs.Ytlbfnnngemonoaa.PWireReads
open Go.Proofs.Ytlbfnnngemonoaa.Fat (Blk Chg Off chg_opt)
open Go.Proofs.YtlbfnnngemonoaaW.PrintWords Go.Proofs.YtlbfnnngemonoaaW.PrintLast Go.Proofs.YtlbfnnngemonoaaW.PrintMore
set_option linter.unusedVariables false
set_option linter.unusedSimpArgs false
attribute [local go_sem] run_store_float run_store_complex
attribute [local go_sem] run_makeFunc' events_makeFunc'

set_option maxRecDepth 20000 in
set_option maxHeartbeats 4000000 in
theorem one_spawn_bad (A : Option Addr) (c : Nat) (l : List Int) (w : World) (hC : Kd.C (Kd.int .u8) w A l.length l) (hc : l.length ≤ c) (hB : By l) (h1 : 1 ≤ l.length) (hl : l.length ≤ 140737488355328) (hk : l.getD 0 0 = 1) (hr : rdW l 1 = none) :
    Calls Try.prog 68 #[.slice A l.length c] w fun e w' => e = .returned (.tuple #[zCall, .int .i64 0]) ∧ Below w.heap.size w w' := by
  obtain ⟨ad, hA, z0⟩ := byte_at hC 0 (by omega)
  have hyb := hB.at 0
  subst hA
  have HT := Lib.hid (two_new w #[.slice (some ad) l.length c] #[.int .i64 0, .string { data := #[] }, .int .i64 0, .slice none 0 0, .int .i64 0] 45 123)
  have HC := Lib.hid hC
  have b9 : decide ((0 : Int) < (l.length : Int)) = true := by simp; omega
  have b10 : decide (0 < l.length) = true := by simp; omega
  have z0 : w.cell? ad = some (.int .u8 (l.getD 0 0)) := by simpa [Addr.add] using z0
  rw [hk] at z0
  have z1 : ∀ W : World, Below w.heap.size w W → W.cell? ad = some (.int .u8 1) := fun W h => (World.cell?_of_block (h.block _ (World.block_lt_of_cell? w _ z0))).trans z0
  have HZ := Lib.hid z1
  clear hC hyb hk z0 z1
  go_enter Try.func68, Try.ntmps68
  go_wp2_with fail
  refine wp_scope_fwd 0 (by rfl) ?_
  go_upto_region 6 with fail
  obtain ⟨a0, a1, hb⟩ := HT.out
  generalize hWq : ((w.alloc (.cells #[.slice (some ad) l.length c] 45)).alloc (.cells #[.int .i64 0, .string { data := #[] }, .int .i64 0, .slice none 0 0, .int .i64 0] 123)) = W1 at a0 a1 hb ⊢
  clear hWq
  have x0 := a0.cell 0
  have z0 := HZ.out W1 hb
  have y0 := a1.cell 0
  have yf0 := a1.frozen 0
  simp at x0 y0
  have HA1 := Lib.hid a1
  have HA0 := Lib.hid a0
  have HB := Lib.hid hb
  clear a0 a1 hb HT
  go_upto_region 7 with fail
  have h2 := HA1.out.set_ 0 (.int .i64 1)
  have hb2 : Below w.heap.size w (W1.setCell ⟨w.heap.size + 1, 0, none⟩ (.int .i64 1)) := below_set HB.out (Nat.le_succ _)
  generalize hWq : W1.setCell ⟨w.heap.size + 1, 0, none⟩ (.int .i64 1) = W2 at h2 hb2 ⊢
  have hx2 : Blk W2 w.heap.size 45 #[.slice (some ad) l.length c] := by rw [← hWq]; exact HA0.out.far (by show w.heap.size ≠ w.heap.size + 1; omega) _
  clear hWq x0 z0 y0 yf0
  have y0 : W2.cell? ⟨w.heap.size + 1, 0, none⟩ = some (.int .i64 1) := by rw [h2.cell]; rfl
  have yf0 : W2.frozen? ⟨w.heap.size + 1, 0, none⟩ = false := h2.frozen 0
  have y1 : W2.cell? ⟨w.heap.size + 1, 1, none⟩ = some (.string { data := #[] }) := by rw [h2.cell]; rfl
  have yf1 : W2.frozen? ⟨w.heap.size + 1, 1, none⟩ = false := h2.frozen 1
  have y2 : W2.cell? ⟨w.heap.size + 1, 2, none⟩ = some (.int .i64 0) := by rw [h2.cell]; rfl
  have yf2 : W2.frozen? ⟨w.heap.size + 1, 2, none⟩ = false := h2.frozen 2
  have y3 : W2.cell? ⟨w.heap.size + 1, 3, none⟩ = some (.slice none 0 0) := by rw [h2.cell]; rfl
  have yf3 : W2.frozen? ⟨w.heap.size + 1, 3, none⟩ = false := h2.frozen 3
  have y4 : W2.cell? ⟨w.heap.size + 1, 4, none⟩ = some (.int .i64 0) := by rw [h2.cell]; rfl
  have yf4 : W2.frozen? ⟨w.heap.size + 1, 4, none⟩ = false := h2.frozen 4
  have HWD : Hid (Calls Try.prog 81 #[.int .i64 1, .pointer (some ⟨w.heap.size, 0, none⟩)] W2 fun e w' => e = .returned (resW (rdW l 1)) ∧ Below W2.heap.size W2 w') := Lib.hid (word81_any w.heap.size (some ad) c l 1 W2 hx2 (Kd.C_below HC.out hb2) hc hB hl (by omega))
  have H2 := Lib.hid h2
  have HB2 := Lib.hid hb2
  clear h2 hb2 hx2 HA1 HA0 HB HZ b9 b10
  go_wp2_with fail
  refine HWD.out.mono ?_
  rintro e w3 ⟨he, hb3⟩
  have h3 := H2.out.below hb3 H2.out.lt
  have H3 := Lib.hid h3
  have HB3 := Lib.hid (HB2.out.trans (hb3.mono HB2.out.size))
  clear y0 yf0 y1 yf1 y2 yf2 y3 yf3 y4 yf4
  have y0 : w3.cell? ⟨w.heap.size + 1, 0, none⟩ = some (.int .i64 1) := by rw [h3.cell]; rfl
  have yf0 : w3.frozen? ⟨w.heap.size + 1, 0, none⟩ = false := h3.frozen 0
  have y1 : w3.cell? ⟨w.heap.size + 1, 1, none⟩ = some (.string { data := #[] }) := by rw [h3.cell]; rfl
  have yf1 : w3.frozen? ⟨w.heap.size + 1, 1, none⟩ = false := h3.frozen 1
  have y2 : w3.cell? ⟨w.heap.size + 1, 2, none⟩ = some (.int .i64 0) := by rw [h3.cell]; rfl
  have yf2 : w3.frozen? ⟨w.heap.size + 1, 2, none⟩ = false := h3.frozen 2
  have y3 : w3.cell? ⟨w.heap.size + 1, 3, none⟩ = some (.slice none 0 0) := by rw [h3.cell]; rfl
  have yf3 : w3.frozen? ⟨w.heap.size + 1, 3, none⟩ = false := h3.frozen 3
  have y4 : w3.cell? ⟨w.heap.size + 1, 4, none⟩ = some (.int .i64 0) := by rw [h3.cell]; rfl
  have yf4 : w3.frozen? ⟨w.heap.size + 1, 4, none⟩ = false := h3.frozen 4
  clear h3 hb3 H2 HB2 HWD
  rw [hr] at he
  have he : e = .returned (.tuple #[.string { data := #[] }, .int .i64 0, .bool false]) := he
  subst he
  go_upto_region 10 with fail
  have h4 := H3.out.set_ 1 (.string { data := #[] })
  have hb4 : Below w.heap.size w (w3.setCell ⟨w.heap.size + 1, 1, none⟩ (.string { data := #[] })) := below_set HB3.out (Nat.le_succ _)
  generalize hWq : w3.setCell ⟨w.heap.size + 1, 1, none⟩ (.string { data := #[] }) = W4 at h4 hb4 ⊢
  clear hWq
  clear y0 yf0 y1 yf1 y2 yf2 y3 yf3 y4 yf4
  have y0 : W4.cell? ⟨w.heap.size + 1, 0, none⟩ = some (.int .i64 1) := by rw [h4.cell]; rfl
  have yf0 : W4.frozen? ⟨w.heap.size + 1, 0, none⟩ = false := h4.frozen 0
  have y1 : W4.cell? ⟨w.heap.size + 1, 1, none⟩ = some (.string { data := #[] }) := by rw [h4.cell]; rfl
  have yf1 : W4.frozen? ⟨w.heap.size + 1, 1, none⟩ = false := h4.frozen 1
  have y2 : W4.cell? ⟨w.heap.size + 1, 2, none⟩ = some (.int .i64 0) := by rw [h4.cell]; rfl
  have yf2 : W4.frozen? ⟨w.heap.size + 1, 2, none⟩ = false := h4.frozen 2
  have y3 : W4.cell? ⟨w.heap.size + 1, 3, none⟩ = some (.slice none 0 0) := by rw [h4.cell]; rfl
  have yf3 : W4.frozen? ⟨w.heap.size + 1, 3, none⟩ = false := h4.frozen 3
  have y4 : W4.cell? ⟨w.heap.size + 1, 4, none⟩ = some (.int .i64 0) := by rw [h4.cell]; rfl
  have yf4 : W4.frozen? ⟨w.heap.size + 1, 4, none⟩ = false := h4.frozen 4
  go_wp2_with fail
  go_step3
  refine And.intro rfl ?_
  go_wp2_with fail
  simp only [Exit.jump]
  refine bodyPost_ret (results_ct rfl _ _ (w.heap.size + 1) 123 #[.int .i64 0, .string { data := #[] }, .int .i64 0, .slice none 0 0, .int .i64 0] (0, 0) _ rfl (show Blk _ (w.heap.size + 1) 123 #[.int .i64 0, .string { data := #[] }, .int .i64 0, .slice none 0 0, .int .i64 0] from (((((h4).set_ 0 _).set_ 1 _).set_ 2 _).set_ 3 _).set_ 4 _) Try.underlying123 rfl (by kernel_rfl)) rfl ?_
  exact ⟨rfl, below_set (below_set (below_set (below_set (below_set (hb4) (Nat.le_succ _)) (Nat.le_succ _)) (Nat.le_succ _)) (Nat.le_succ _)) (Nat.le_succ _)⟩
set_option maxRecDepth 20000 in
set_option maxHeartbeats 4000000 in
theorem one_spawn (A : Option Addr) (c : Nat) (l : List Int) (w : World) (hC : Kd.C (Kd.int .u8) w A l.length l) (hc : l.length ≤ c) (hB : By l) (h1 : 1 ≤ l.length) (hl : l.length ≤ 140737488355328) (hk : l.getD 0 0 = 1) (s : ByteArray) (n : Nat) (hr : rdW l 1 = some (s, n)) :
    Calls Try.prog 68 #[.slice A l.length c] w fun e w' => e = .returned (.tuple #[.agg #[.int .i64 1, .string s, .int .i64 0, .slice none 0 0, .int .i64 0], .int .i64 n]) ∧ Below w.heap.size w w' := by
  obtain ⟨ad, hA, z0⟩ := byte_at hC 0 (by omega)
  have hyb := hB.at 0
  subst hA
  have HT := Lib.hid (two_new w #[.slice (some ad) l.length c] #[.int .i64 0, .string { data := #[] }, .int .i64 0, .slice none 0 0, .int .i64 0] 45 123)
  have HC := Lib.hid hC
  have b9 : decide ((0 : Int) < (l.length : Int)) = true := by simp; omega
  have b10 : decide (0 < l.length) = true := by simp; omega
  have z0 : w.cell? ad = some (.int .u8 (l.getD 0 0)) := by simpa [Addr.add] using z0
  rw [hk] at z0
  have z1 : ∀ W : World, Below w.heap.size w W → W.cell? ad = some (.int .u8 1) := fun W h => (World.cell?_of_block (h.block _ (World.block_lt_of_cell? w _ z0))).trans z0
  have HZ := Lib.hid z1
  clear hC hyb hk z0 z1
  go_enter Try.func68, Try.ntmps68
  go_wp2_with fail
  refine wp_scope_fwd 0 (by rfl) ?_
  go_upto_region 6 with fail
  obtain ⟨a0, a1, hb⟩ := HT.out
  generalize hWq : ((w.alloc (.cells #[.slice (some ad) l.length c] 45)).alloc (.cells #[.int .i64 0, .string { data := #[] }, .int .i64 0, .slice none 0 0, .int .i64 0] 123)) = W1 at a0 a1 hb ⊢
  clear hWq
  have x0 := a0.cell 0
  have z0 := HZ.out W1 hb
  have y0 := a1.cell 0
  have yf0 := a1.frozen 0
  simp at x0 y0
  have HA1 := Lib.hid a1
  have HA0 := Lib.hid a0
  have HB := Lib.hid hb
  clear a0 a1 hb HT
  go_upto_region 7 with fail
  have h2 := HA1.out.set_ 0 (.int .i64 1)
  have hb2 : Below w.heap.size w (W1.setCell ⟨w.heap.size + 1, 0, none⟩ (.int .i64 1)) := below_set HB.out (Nat.le_succ _)
  generalize hWq : W1.setCell ⟨w.heap.size + 1, 0, none⟩ (.int .i64 1) = W2 at h2 hb2 ⊢
  have hx2 : Blk W2 w.heap.size 45 #[.slice (some ad) l.length c] := by rw [← hWq]; exact HA0.out.far (by show w.heap.size ≠ w.heap.size + 1; omega) _
  clear hWq x0 z0 y0 yf0
  have y0 : W2.cell? ⟨w.heap.size + 1, 0, none⟩ = some (.int .i64 1) := by rw [h2.cell]; rfl
  have yf0 : W2.frozen? ⟨w.heap.size + 1, 0, none⟩ = false := h2.frozen 0
  have y1 : W2.cell? ⟨w.heap.size + 1, 1, none⟩ = some (.string { data := #[] }) := by rw [h2.cell]; rfl
  have yf1 : W2.frozen? ⟨w.heap.size + 1, 1, none⟩ = false := h2.frozen 1
  have y2 : W2.cell? ⟨w.heap.size + 1, 2, none⟩ = some (.int .i64 0) := by rw [h2.cell]; rfl
  have yf2 : W2.frozen? ⟨w.heap.size + 1, 2, none⟩ = false := h2.frozen 2
  have y3 : W2.cell? ⟨w.heap.size + 1, 3, none⟩ = some (.slice none 0 0) := by rw [h2.cell]; rfl
  have yf3 : W2.frozen? ⟨w.heap.size + 1, 3, none⟩ = false := h2.frozen 3
  have y4 : W2.cell? ⟨w.heap.size + 1, 4, none⟩ = some (.int .i64 0) := by rw [h2.cell]; rfl
  have yf4 : W2.frozen? ⟨w.heap.size + 1, 4, none⟩ = false := h2.frozen 4
  have HWD : Hid (Calls Try.prog 81 #[.int .i64 1, .pointer (some ⟨w.heap.size, 0, none⟩)] W2 fun e w' => e = .returned (resW (rdW l 1)) ∧ Below W2.heap.size W2 w') := Lib.hid (word81_any w.heap.size (some ad) c l 1 W2 hx2 (Kd.C_below HC.out hb2) hc hB hl (by omega))
  have H2 := Lib.hid h2
  have HB2 := Lib.hid hb2
  clear h2 hb2 hx2 HA1 HA0 HB HZ b9 b10
  go_wp2_with fail
  refine HWD.out.mono ?_
  rintro e w3 ⟨he, hb3⟩
  have h3 := H2.out.below hb3 H2.out.lt
  have H3 := Lib.hid h3
  have HB3 := Lib.hid (HB2.out.trans (hb3.mono HB2.out.size))
  clear y0 yf0 y1 yf1 y2 yf2 y3 yf3 y4 yf4
  have y0 : w3.cell? ⟨w.heap.size + 1, 0, none⟩ = some (.int .i64 1) := by rw [h3.cell]; rfl
  have yf0 : w3.frozen? ⟨w.heap.size + 1, 0, none⟩ = false := h3.frozen 0
  have y1 : w3.cell? ⟨w.heap.size + 1, 1, none⟩ = some (.string { data := #[] }) := by rw [h3.cell]; rfl
  have yf1 : w3.frozen? ⟨w.heap.size + 1, 1, none⟩ = false := h3.frozen 1
  have y2 : w3.cell? ⟨w.heap.size + 1, 2, none⟩ = some (.int .i64 0) := by rw [h3.cell]; rfl
  have yf2 : w3.frozen? ⟨w.heap.size + 1, 2, none⟩ = false := h3.frozen 2
  have y3 : w3.cell? ⟨w.heap.size + 1, 3, none⟩ = some (.slice none 0 0) := by rw [h3.cell]; rfl
  have yf3 : w3.frozen? ⟨w.heap.size + 1, 3, none⟩ = false := h3.frozen 3
  have y4 : w3.cell? ⟨w.heap.size + 1, 4, none⟩ = some (.int .i64 0) := by rw [h3.cell]; rfl
  have yf4 : w3.frozen? ⟨w.heap.size + 1, 4, none⟩ = false := h3.frozen 4
  clear h3 hb3 H2 HB2 HWD
  rw [hr] at he
  have he : e = .returned (.tuple #[.string s, .int .i64 n, .bool true]) := he
  subst he
  go_upto_region 10 with fail
  have h4 := H3.out.set_ 1 (.string s)
  have hb4 : Below w.heap.size w (w3.setCell ⟨w.heap.size + 1, 1, none⟩ (.string s)) := below_set HB3.out (Nat.le_succ _)
  generalize hWq : w3.setCell ⟨w.heap.size + 1, 1, none⟩ (.string s) = W4 at h4 hb4 ⊢
  clear hWq
  clear y0 yf0 y1 yf1 y2 yf2 y3 yf3 y4 yf4
  have y0 : W4.cell? ⟨w.heap.size + 1, 0, none⟩ = some (.int .i64 1) := by rw [h4.cell]; rfl
  have yf0 : W4.frozen? ⟨w.heap.size + 1, 0, none⟩ = false := h4.frozen 0
  have y1 : W4.cell? ⟨w.heap.size + 1, 1, none⟩ = some (.string s) := by rw [h4.cell]; rfl
  have yf1 : W4.frozen? ⟨w.heap.size + 1, 1, none⟩ = false := h4.frozen 1
  have y2 : W4.cell? ⟨w.heap.size + 1, 2, none⟩ = some (.int .i64 0) := by rw [h4.cell]; rfl
  have yf2 : W4.frozen? ⟨w.heap.size + 1, 2, none⟩ = false := h4.frozen 2
  have y3 : W4.cell? ⟨w.heap.size + 1, 3, none⟩ = some (.slice none 0 0) := by rw [h4.cell]; rfl
  have yf3 : W4.frozen? ⟨w.heap.size + 1, 3, none⟩ = false := h4.frozen 3
  have y4 : W4.cell? ⟨w.heap.size + 1, 4, none⟩ = some (.int .i64 0) := by rw [h4.cell]; rfl
  have yf4 : W4.frozen? ⟨w.heap.size + 1, 4, none⟩ = false := h4.frozen 4
  go_wp2_with fail
  try simp only [Exit.jump, Exit.inBlock, Exit.then]
  refine bodyPost_ret (results_ct rfl _ _ (w.heap.size + 1) 123 #[.int .i64 1, .string s, .int .i64 0, .slice none 0 0, .int .i64 0] (0, 0) _ rfl (show Blk _ (w.heap.size + 1) 123 #[.int .i64 1, .string s, .int .i64 0, .slice none 0 0, .int .i64 0] from (((((h4).set_ 0 _).set_ 1 _).set_ 2 _).set_ 3 _).set_ 4 _) Try.underlying123 rfl (by kernel_rfl)) rfl ?_
  exact ⟨rfl, below_set (below_set (below_set (below_set (below_set (hb4) (Nat.le_succ _)) (Nat.le_succ _)) (Nat.le_succ _)) (Nat.le_succ _)) (Nat.le_succ _)⟩
set_option maxRecDepth 20000 in
set_option maxHeartbeats 4000000 in
theorem one_pick_bad (A : Option Addr) (c : Nat) (l : List Int) (w : World) (hC : Kd.C (Kd.int .u8) w A l.length l) (hc : l.length ≤ c) (hB : By l) (h1 : 1 ≤ l.length) (hl : l.length ≤ 140737488355328) (hk : l.getD 0 0 = 3) (hr : rdL l 1 = none) :
    Calls Try.prog 68 #[.slice A l.length c] w fun e w' => e = .returned (.tuple #[zCall, .int .i64 0]) ∧ Below w.heap.size w w' := by
  obtain ⟨ad, hA, z0⟩ := byte_at hC 0 (by omega)
  have hyb := hB.at 0
  subst hA
  have HT := Lib.hid (two_new w #[.slice (some ad) l.length c] #[.int .i64 0, .string { data := #[] }, .int .i64 0, .slice none 0 0, .int .i64 0] 45 123)
  have HC := Lib.hid hC
  have b9 : decide ((0 : Int) < (l.length : Int)) = true := by simp; omega
  have b10 : decide (0 < l.length) = true := by simp; omega
  have z0 : w.cell? ad = some (.int .u8 (l.getD 0 0)) := by simpa [Addr.add] using z0
  rw [hk] at z0
  have z1 : ∀ W : World, Below w.heap.size w W → W.cell? ad = some (.int .u8 3) := fun W h => (World.cell?_of_block (h.block _ (World.block_lt_of_cell? w _ z0))).trans z0
  have HZ := Lib.hid z1
  clear hC hyb hk z0 z1
  go_enter Try.func68, Try.ntmps68
  go_wp2_with fail
  refine wp_scope_fwd 0 (by rfl) ?_
  go_upto_region 6 with fail
  obtain ⟨a0, a1, hb⟩ := HT.out
  generalize hWq : ((w.alloc (.cells #[.slice (some ad) l.length c] 45)).alloc (.cells #[.int .i64 0, .string { data := #[] }, .int .i64 0, .slice none 0 0, .int .i64 0] 123)) = W1 at a0 a1 hb ⊢
  clear hWq
  have x0 := a0.cell 0
  have z0 := HZ.out W1 hb
  have y0 := a1.cell 0
  have yf0 := a1.frozen 0
  simp at x0 y0
  have HA1 := Lib.hid a1
  have HA0 := Lib.hid a0
  have HB := Lib.hid hb
  clear a0 a1 hb HT
  go_upto_region 7 with fail
  have h2 := HA1.out.set_ 0 (.int .i64 3)
  have hb2 : Below w.heap.size w (W1.setCell ⟨w.heap.size + 1, 0, none⟩ (.int .i64 3)) := below_set HB.out (Nat.le_succ _)
  generalize hWq : W1.setCell ⟨w.heap.size + 1, 0, none⟩ (.int .i64 3) = W2 at h2 hb2 ⊢
  have hx2 : Blk W2 w.heap.size 45 #[.slice (some ad) l.length c] := by rw [← hWq]; exact HA0.out.far (by show w.heap.size ≠ w.heap.size + 1; omega) _
  clear hWq x0 z0 y0 yf0
  have y0 : W2.cell? ⟨w.heap.size + 1, 0, none⟩ = some (.int .i64 3) := by rw [h2.cell]; rfl
  have yf0 : W2.frozen? ⟨w.heap.size + 1, 0, none⟩ = false := h2.frozen 0
  have y1 : W2.cell? ⟨w.heap.size + 1, 1, none⟩ = some (.string { data := #[] }) := by rw [h2.cell]; rfl
  have yf1 : W2.frozen? ⟨w.heap.size + 1, 1, none⟩ = false := h2.frozen 1
  have y2 : W2.cell? ⟨w.heap.size + 1, 2, none⟩ = some (.int .i64 0) := by rw [h2.cell]; rfl
  have yf2 : W2.frozen? ⟨w.heap.size + 1, 2, none⟩ = false := h2.frozen 2
  have y3 : W2.cell? ⟨w.heap.size + 1, 3, none⟩ = some (.slice none 0 0) := by rw [h2.cell]; rfl
  have yf3 : W2.frozen? ⟨w.heap.size + 1, 3, none⟩ = false := h2.frozen 3
  have y4 : W2.cell? ⟨w.heap.size + 1, 4, none⟩ = some (.int .i64 0) := by rw [h2.cell]; rfl
  have yf4 : W2.frozen? ⟨w.heap.size + 1, 4, none⟩ = false := h2.frozen 4
  have HWD : Hid (Calls Try.prog 82 #[.int .i64 1, .pointer (some ⟨w.heap.size, 0, none⟩)] W2 fun e w' => e = .returned (resL (rdL l 1)) ∧ w' = W2) := Lib.hid (long82_any w.heap.size (some ad) c l 1 W2 hx2 (Kd.C_below HC.out hb2) hc hB hl (by omega))
  have H2 := Lib.hid h2
  have HB2 := Lib.hid hb2
  clear h2 hb2 hx2 HA1 HA0 HB HZ b9 b10
  go_wp2_with fail
  refine HWD.out.mono ?_
  rintro e w3 ⟨he, rfl⟩
  clear HWD
  rw [hr] at he
  have he : e = .returned (.tuple #[.int .i64 0, .bool false]) := he
  subst he
  go_upto_region 21 with fail
  have h4 := H2.out.set_ 4 (.int .i64 0)
  have hb4 : Below w.heap.size w (w3.setCell ⟨w.heap.size + 1, 4, none⟩ (.int .i64 0)) := below_set HB2.out (Nat.le_succ _)
  generalize hWq : w3.setCell ⟨w.heap.size + 1, 4, none⟩ (.int .i64 0) = W4 at h4 hb4 ⊢
  clear hWq H2 HB2
  clear y0 yf0 y1 yf1 y2 yf2 y3 yf3 y4 yf4
  have y0 : W4.cell? ⟨w.heap.size + 1, 0, none⟩ = some (.int .i64 3) := by rw [h4.cell]; rfl
  have yf0 : W4.frozen? ⟨w.heap.size + 1, 0, none⟩ = false := h4.frozen 0
  have y1 : W4.cell? ⟨w.heap.size + 1, 1, none⟩ = some (.string { data := #[] }) := by rw [h4.cell]; rfl
  have yf1 : W4.frozen? ⟨w.heap.size + 1, 1, none⟩ = false := h4.frozen 1
  have y2 : W4.cell? ⟨w.heap.size + 1, 2, none⟩ = some (.int .i64 0) := by rw [h4.cell]; rfl
  have yf2 : W4.frozen? ⟨w.heap.size + 1, 2, none⟩ = false := h4.frozen 2
  have y3 : W4.cell? ⟨w.heap.size + 1, 3, none⟩ = some (.slice none 0 0) := by rw [h4.cell]; rfl
  have yf3 : W4.frozen? ⟨w.heap.size + 1, 3, none⟩ = false := h4.frozen 3
  have y4 : W4.cell? ⟨w.heap.size + 1, 4, none⟩ = some (.int .i64 0) := by rw [h4.cell]; rfl
  have yf4 : W4.frozen? ⟨w.heap.size + 1, 4, none⟩ = false := h4.frozen 4
  go_wp2_with fail
  go_step3
  refine And.intro rfl ?_
  go_wp2_with fail
  simp only [Exit.jump]
  refine bodyPost_ret (results_ct rfl _ _ (w.heap.size + 1) 123 #[.int .i64 0, .string { data := #[] }, .int .i64 0, .slice none 0 0, .int .i64 0] (0, 0) _ rfl (show Blk _ (w.heap.size + 1) 123 #[.int .i64 0, .string { data := #[] }, .int .i64 0, .slice none 0 0, .int .i64 0] from (((((h4).set_ 0 _).set_ 1 _).set_ 2 _).set_ 3 _).set_ 4 _) Try.underlying123 rfl (by kernel_rfl)) rfl ?_
  exact ⟨rfl, below_set (below_set (below_set (below_set (below_set (hb4) (Nat.le_succ _)) (Nat.le_succ _)) (Nat.le_succ _)) (Nat.le_succ _)) (Nat.le_succ _)⟩
set_option maxRecDepth 20000 in
set_option maxHeartbeats 4000000 in
theorem one_pick (A : Option Addr) (c : Nat) (l : List Int) (w : World) (hC : Kd.C (Kd.int .u8) w A l.length l) (hc : l.length ≤ c) (hB : By l) (h1 : 1 ≤ l.length) (hl : l.length ≤ 140737488355328) (hk : l.getD 0 0 = 3) (x : Int) (hr : rdL l 1 = some x) :
    Calls Try.prog 68 #[.slice A l.length c] w fun e w' => e = .returned (.tuple #[.agg #[.int .i64 3, .string { data := #[] }, .int .i64 0, .slice none 0 0, .int .i64 x], .int .i64 9]) ∧ Below w.heap.size w w' := by
  obtain ⟨ad, hA, z0⟩ := byte_at hC 0 (by omega)
  have hyb := hB.at 0
  subst hA
  have HT := Lib.hid (two_new w #[.slice (some ad) l.length c] #[.int .i64 0, .string { data := #[] }, .int .i64 0, .slice none 0 0, .int .i64 0] 45 123)
  have HC := Lib.hid hC
  have b9 : decide ((0 : Int) < (l.length : Int)) = true := by simp; omega
  have b10 : decide (0 < l.length) = true := by simp; omega
  have z0 : w.cell? ad = some (.int .u8 (l.getD 0 0)) := by simpa [Addr.add] using z0
  rw [hk] at z0
  have z1 : ∀ W : World, Below w.heap.size w W → W.cell? ad = some (.int .u8 3) := fun W h => (World.cell?_of_block (h.block _ (World.block_lt_of_cell? w _ z0))).trans z0
  have HZ := Lib.hid z1
  clear hC hyb hk z0 z1
  go_enter Try.func68, Try.ntmps68
  go_wp2_with fail
  refine wp_scope_fwd 0 (by rfl) ?_
  go_upto_region 6 with fail
  obtain ⟨a0, a1, hb⟩ := HT.out
  generalize hWq : ((w.alloc (.cells #[.slice (some ad) l.length c] 45)).alloc (.cells #[.int .i64 0, .string { data := #[] }, .int .i64 0, .slice none 0 0, .int .i64 0] 123)) = W1 at a0 a1 hb ⊢
  clear hWq
  have x0 := a0.cell 0
  have z0 := HZ.out W1 hb
  have y0 := a1.cell 0
  have yf0 := a1.frozen 0
  simp at x0 y0
  have HA1 := Lib.hid a1
  have HA0 := Lib.hid a0
  have HB := Lib.hid hb
  clear a0 a1 hb HT
  go_upto_region 7 with fail
  have h2 := HA1.out.set_ 0 (.int .i64 3)
  have hb2 : Below w.heap.size w (W1.setCell ⟨w.heap.size + 1, 0, none⟩ (.int .i64 3)) := below_set HB.out (Nat.le_succ _)
  generalize hWq : W1.setCell ⟨w.heap.size + 1, 0, none⟩ (.int .i64 3) = W2 at h2 hb2 ⊢
  have hx2 : Blk W2 w.heap.size 45 #[.slice (some ad) l.length c] := by rw [← hWq]; exact HA0.out.far (by show w.heap.size ≠ w.heap.size + 1; omega) _
  clear hWq x0 z0 y0 yf0
  have y0 : W2.cell? ⟨w.heap.size + 1, 0, none⟩ = some (.int .i64 3) := by rw [h2.cell]; rfl
  have yf0 : W2.frozen? ⟨w.heap.size + 1, 0, none⟩ = false := h2.frozen 0
  have y1 : W2.cell? ⟨w.heap.size + 1, 1, none⟩ = some (.string { data := #[] }) := by rw [h2.cell]; rfl
  have yf1 : W2.frozen? ⟨w.heap.size + 1, 1, none⟩ = false := h2.frozen 1
  have y2 : W2.cell? ⟨w.heap.size + 1, 2, none⟩ = some (.int .i64 0) := by rw [h2.cell]; rfl
  have yf2 : W2.frozen? ⟨w.heap.size + 1, 2, none⟩ = false := h2.frozen 2
  have y3 : W2.cell? ⟨w.heap.size + 1, 3, none⟩ = some (.slice none 0 0) := by rw [h2.cell]; rfl
  have yf3 : W2.frozen? ⟨w.heap.size + 1, 3, none⟩ = false := h2.frozen 3
  have y4 : W2.cell? ⟨w.heap.size + 1, 4, none⟩ = some (.int .i64 0) := by rw [h2.cell]; rfl
  have yf4 : W2.frozen? ⟨w.heap.size + 1, 4, none⟩ = false := h2.frozen 4
  have HWD : Hid (Calls Try.prog 82 #[.int .i64 1, .pointer (some ⟨w.heap.size, 0, none⟩)] W2 fun e w' => e = .returned (resL (rdL l 1)) ∧ w' = W2) := Lib.hid (long82_any w.heap.size (some ad) c l 1 W2 hx2 (Kd.C_below HC.out hb2) hc hB hl (by omega))
  have H2 := Lib.hid h2
  have HB2 := Lib.hid hb2
  clear h2 hb2 hx2 HA1 HA0 HB HZ b9 b10
  go_wp2_with fail
  refine HWD.out.mono ?_
  rintro e w3 ⟨he, rfl⟩
  clear HWD
  rw [hr] at he
  have he : e = .returned (.tuple #[.int .i64 x, .bool true]) := he
  subst he
  go_upto_region 21 with fail
  have h4 := H2.out.set_ 4 (.int .i64 x)
  have hb4 : Below w.heap.size w (w3.setCell ⟨w.heap.size + 1, 4, none⟩ (.int .i64 x)) := below_set HB2.out (Nat.le_succ _)
  generalize hWq : w3.setCell ⟨w.heap.size + 1, 4, none⟩ (.int .i64 x) = W4 at h4 hb4 ⊢
  clear hWq H2 HB2
  clear y0 yf0 y1 yf1 y2 yf2 y3 yf3 y4 yf4
  have y0 : W4.cell? ⟨w.heap.size + 1, 0, none⟩ = some (.int .i64 3) := by rw [h4.cell]; rfl
  have yf0 : W4.frozen? ⟨w.heap.size + 1, 0, none⟩ = false := h4.frozen 0
  have y1 : W4.cell? ⟨w.heap.size + 1, 1, none⟩ = some (.string { data := #[] }) := by rw [h4.cell]; rfl
  have yf1 : W4.frozen? ⟨w.heap.size + 1, 1, none⟩ = false := h4.frozen 1
  have y2 : W4.cell? ⟨w.heap.size + 1, 2, none⟩ = some (.int .i64 0) := by rw [h4.cell]; rfl
  have yf2 : W4.frozen? ⟨w.heap.size + 1, 2, none⟩ = false := h4.frozen 2
  have y3 : W4.cell? ⟨w.heap.size + 1, 3, none⟩ = some (.slice none 0 0) := by rw [h4.cell]; rfl
  have yf3 : W4.frozen? ⟨w.heap.size + 1, 3, none⟩ = false := h4.frozen 3
  have y4 : W4.cell? ⟨w.heap.size + 1, 4, none⟩ = some (.int .i64 x) := by rw [h4.cell]; rfl
  have yf4 : W4.frozen? ⟨w.heap.size + 1, 4, none⟩ = false := h4.frozen 4
  go_wp2_with fail
  try simp only [Exit.jump, Exit.inBlock, Exit.then]
  refine bodyPost_ret (results_ct rfl _ _ (w.heap.size + 1) 123 #[.int .i64 3, .string { data := #[] }, .int .i64 0, .slice none 0 0, .int .i64 x] (0, 0) _ rfl (show Blk _ (w.heap.size + 1) 123 #[.int .i64 3, .string { data := #[] }, .int .i64 0, .slice none 0 0, .int .i64 x] from (((((h4).set_ 0 _).set_ 1 _).set_ 2 _).set_ 3 _).set_ 4 _) Try.underlying123 rfl (by kernel_rfl)) rfl ?_
  exact ⟨rfl, below_set (below_set (below_set (below_set (below_set (hb4) (Nat.le_succ _)) (Nat.le_succ _)) (Nat.le_succ _)) (Nat.le_succ _)) (Nat.le_succ _)⟩
end Go.Proofs.Ytlbfnnngemonoaa.Wir
