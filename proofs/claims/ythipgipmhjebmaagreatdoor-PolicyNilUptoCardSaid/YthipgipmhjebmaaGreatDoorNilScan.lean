/- lex.Each, lex.Scan over a word of one letter; valid.word. -/
import Derived.Test.YthipgipmhjebmaaGreatDoorNilLex
import Derived.RangeFuncBox
import Derived.RangeFuncKeeps
import Derived.RangeFuncLeaves
import Derived.RangeFuncCalls
import Derived.LoopIn
import Derived.Sort.CutIn
import Derived.OrdersIn
import Derived.OwnWalkIn
namespace Go.Proofs.YthipgipmhjebmaaGreatDoor.Pol
open Go.RowKit Go.Proofs.YthipgipmhjebmaaGreatDoorW.PrintWords
attribute [local go_sem] run_store_float Oper.semAt_some
set_option linter.unusedVariables false
set_option linter.unusedSimpArgs false

theorem wide_call {n f : Nat} {P : Program} {args : Array Value} {w : World} {R : Ending → World → Prop} (h : CallsIn Fence.wide (n - 1) P f args w R) : Fence.wide.fn f ∧ (Fence.wide.depth.isSome = true → 1 ≤ n) ∧ CallsIn Fence.wide (n - 1) P f args w R := ⟨trivial, fun hd => by simp [Fence.wide] at hd, h⟩
theorem grown_below {w w' : World} (h : Below w.heap.size w w') : w.grownBy w' none := ⟨h.os, h.tape, h.output, h.size, fun k hk _ => h.block k hk⟩

/-- Every cell outside one block is as it was. -/
def KeepC (ob : Nat) (A B : World) : Prop := ∀ a v, a.block ≠ ob → A.cell? a = some v → B.cell? a = some v

set_option maxRecDepth 20000 in
set_option maxHeartbeats 4000000 in
theorem each_stops (c : UInt8) (h : c = 97 ∨ c = 107) (n bx g cap ob : Nat) (hcap : 1 ≤ cap) (w0 : World) (hX : w0.cell? ⟨bx, 0, none⟩ = some (.slice (some ⟨g, 0, none⟩) 1 cap)) (hc : w0.cell? ⟨g, 0, none⟩ = some (.int .u8 c.toNat))
    (hob : ob < w0.heap.size) (hbo : bx ≠ ob) (hgo : g ≠ ob) :
    SeqStopsK Fence.wide n Tryz.prog 171 #[.pointer (some ⟨bx, 0, none⟩)] (fun (_ : Unit) => #[tokC ⟨#[c]⟩ 0 1, .int .i64 0]) (KeepC ob) (fun xs => xs = [()]) (fun pre => pre = [()]) 1 w0 := fun l J Jx W hW hJ hJx hY h0 => by
  have x0 := (hW.cell (World.block_lt_of_cell? w0 _ hX)).trans hX
  have x1 := (hW.cell (World.block_lt_of_cell? w0 _ hc)).trans hc
  have HJ2 := Lib.hid (fun pre (A B : World) (ha : J pre A) (hb : Below A.heap.size A B) => hJ pre A B none ha (grown_below hb) (fun r e => by cases e))
  have HY := Lib.hid hY
  have HJ0 := Lib.hid h0
  have hsz := hW.size
  clear hX hc hJ hJx hY h0 hW
  refine callsIn_of_wp Tryz.func171 rfl trivial ?_ rfl
  simp only [Tryz.ntmps171, List.size_toArray, List.length_cons, List.length_nil, Nat.reduceAdd, Nat.reduceSub, Array.replicate_succ, Array.replicate_zero, List.push_toArray, List.append_toArray, List.nil_append, List.cons_append]
  gi_wp2_with fail
  have HX0 := Lib.hid x0
  have HX1 := Lib.hid x1
  clear x0 x1
  gi_loopw [3] (fun at_ wr => wr.cell? ⟨bx, 0, none⟩ = some (.slice (some ⟨g, 0, none⟩) 1 cap) ∧ ((at_ = .int .i64 0 ∧ w0.heap.size ≤ wr.heap.size ∧ Hid (J [] wr) ∧ Hid (wr.cell? ⟨g, 0, none⟩ = some (.int .u8 c.toNat))) ∨ (at_ = .int .i64 1 ∧ Hid (J [()] wr)))) (fun at_ _ => 1 - (intOf at_).toNat)
  case atStart => exact ⟨HX0.out, .inl ⟨rfl, hsz, HJ0, HX1⟩⟩
  case round =>
    clear HJ0 HX0 HX1 hsz
    obtain ⟨x0, hrel⟩ := hrel
    rcases hrel with ⟨rfl, hsz, HJk, HC⟩ | ⟨rfl, HJk⟩
    · have HN := Lib.hid ((callsIn_wide (n := n - 1)).2 (lexnext_any c h g cap hcap wr HC.out))
      gi_wp2_with fail
      refine wide_call (HN.out.mono ?_)
      rintro e w2 ⟨rfl, hb2⟩
      have hb3 : Below wr.heap.size wr (w2.alloc (.cells #[.int .i64 1, .string ⟨#[c]⟩, .int .i64 0, .float .f64 0, .int .i64 0, .int .i64 1] 240)) := hb2.alloc hb2.size _
      obtain ⟨f1, t1, a1, b1, hy1, hR1⟩ := HY.out [] () _ (HJ2.out _ _ _ HJk.out hb3) (by simp)
      have hBn := Blk.new w2 240 #[.int .i64 1, .string ⟨#[c]⟩, .int .i64 0, .float .f64 0, .int .i64 0, .int .i64 1]
      have HBn := Lib.hid hBn
      have HR1 := Lib.hid hR1
      have hx3 := (hb3.cell (World.block_lt_of_cell? wr _ x0)).trans x0
      have HX3 := Lib.hid hx3
      have hgm : w0.heap.size ≤ w2.heap.size := Nat.le_trans hsz hb2.size
      unfold tokC at hy1 ⊢
      clear hR1 hb2 hb3 HN hBn hx3
      gi_wp2_with fail
      refine ⟨fun hd => by simp [Fence.wide] at hd, HR1.out.mono ?_⟩
      rintro e W4 (⟨rfl, hJ4, hk4⟩ | ⟨rfl, hx4⟩)
      · have HJ4 := Lib.hid hJ4
        have z4 := hk4 ⟨w2.heap.size, 4, none⟩ (.int .i64 0) (by simp; omega) ((HBn.out.cell 4).trans rfl)
        have z5 := hk4 ⟨w2.heap.size, 5, none⟩ (.int .i64 1) (by simp; omega) ((HBn.out.cell 5).trans rfl)
        have HX5 := Lib.hid (hk4 _ _ (by simpa using hbo) HX3.out)
        clear hJ4 hk4 hy1 x0
        gi_wp2_with fail
        go_roundw
        case rel => exact ⟨HX5.out, .inr ⟨rfl, HJ4⟩⟩
        case measure => simp [intOf]
      · have HX4 := Lib.hid hx4
        clear hx4
        gi_wp2_with fail
        go_returns
        exact ⟨⟨_, rfl⟩, .inr ⟨_, rfl, HX4.out⟩⟩
    · have HN := Lib.hid ((callsIn_wide (n := n - 1)).2 (lexnext_end g cap wr))
      gi_wp2_with fail
      refine wide_call (HN.out.mono ?_)
      rintro e w2 ⟨rfl, hb2⟩
      have HJ5 := Lib.hid (HJ2.out _ _ _ HJk.out (hb2.alloc hb2.size (.cells #[.int .i64 0, .string { data := #[] }, .int .i64 0, .float .f64 0, .int .i64 0, .int .i64 0] 240)))
      gi_wp2_with fail
      refine ⟨fun f hf => (by cases hf), ?_⟩
      gi_wp2_with fail
      go_returns
      exact ⟨⟨_, rfl⟩, .inl ⟨_, rfl, HJ5.out⟩⟩
end Go.Proofs.YthipgipmhjebmaaGreatDoor.Pol
