/- What one call of a policy's rule does in memory. -/
import Derived.Test.YthipgipmhjebmaaGreatDoorPolBase
import Derived.Deep.LoopGhost
import Derived.Deep.QuietTactic
import Derived.BigQuiet
import Derived.RegionTactic
import Derived.Deep.RegionWith
import Derived.Outline
namespace Go.Proofs.YthipgipmhjebmaaGreatDoor.Pol
open Go.RowKit

theorem ret_nat {a b : Nat} (h : a = b) : Ending.returned (.int .i64 (a : Int)) = Ending.returned (.int .i64 (b : Int)) := by rw [h]

theorem first_any (A : Option Addr) (n c : Nat) (w : World) :
    Calls Tryz.prog 370 #[.agg #[], .slice A n c] w fun e w' => e = .returned (.int .i64 0) ∧ Below w.heap.size w w' := by
  go_enter Tryz.func370, Tryz.ntmps370
  go_wp2
  go_ret
  exact ⟨rfl, (Below.refl _ _).alloc (Nat.le_refl _) _⟩

theorem last_any (A : Option Addr) (n c : Nat) (w : World) (hn : 0 < n) (hm : n ≤ 140737488355328) :
    Calls Tryz.prog 372 #[.agg #[], .slice A n c] w fun e w' => e = .returned (.int .i64 ((n : Int) - 1)) ∧ Below w.heap.size w w' := by
  go_enter Tryz.func372, Tryz.ntmps372
  go_wp2
  go_ret
  exact ⟨rfl, (Below.refl _ _).alloc (Nat.le_refl _) _⟩

theorem lotNext_bd (x : Int) : 0 ≤ lotNext x ∧ lotNext x < 18446744073709551616 := by
  unfold lotNext
  rw [IntKind.wrap_u64]
  omega

theorem lotAt_lt (x : Int) (n : Nat) (hn : 0 < n) : lotAt x n < n := by
  unfold lotAt
  have := Int.emod_lt_of_pos (lotNext x / 8589934592) (by omega : (0 : Int) < n)
  have := Int.emod_nonneg (lotNext x / 8589934592) (by omega : (n : Int) ≠ 0)
  omega

theorem lotAt_eq (x : Int) (n : Nat) (hn : 0 < n) (hm : n ≤ 140737488355328) : wrap64 ((lotNext x / 8589934592).tmod (n : Int)) = (lotAt x n : Int) := by
  have hb := lotNext_bd x
  have h0 : 0 ≤ lotNext x / 8589934592 := by omega
  rw [Int.tmod_eq_emod_of_nonneg h0]
  unfold lotAt
  have h1 := Int.emod_lt_of_pos (lotNext x / 8589934592) (by omega : (0 : Int) < n)
  have h2 := Int.emod_nonneg (lotNext x / 8589934592) (by omega : (n : Int) ≠ 0)
  rw [Int.toNat_of_nonneg h2]
  unfold wrap64
  omega

set_option maxHeartbeats 400000 in
theorem lot_any (bt : Nat) (x : Int) (A : Option Addr) (n c : Nat) (w : World) (hn : 0 < n) (hm : n ≤ 140737488355328) (hB : Blk w bt 72 #[.int .u64 x]) :
    Calls Tryz.prog 376 #[.pointer (some ⟨bt, 0, none⟩), .slice A n c] w fun e w' => e = .returned (.int .i64 (lotAt x n : Nat)) ∧ Blk w' bt 72 #[.int .u64 (lotNext x)] ∧ Chg [bt] w w' := by
  have hc := hB.cell 0
  have hf := hB.frozen 0
  have hq := Lib.hid (lotAt_eq x n hn hm)
  simp at hc
  go_enter Tryz.func376, Tryz.ntmps376
  go_wp2
  go_ret
  refine ⟨?_, hB.set_ 0 _, (Chg.refl _ _).setCell (.inl (by simp)) _⟩
  exact congrArg (fun z => Ending.returned (.int .i64 z)) hq.out

set_option maxHeartbeats 400000 in
theorem turns_any (bt : Nat) (a : Int) (A : Option Addr) (c : Nat) (xs : List (Int × Int)) (w : World) (hn : 0 < xs.length) (hm : xs.length ≤ 140737488355328) (hx : Chs w A xs) (hB : Blk w bt 69 #[.int .i64 a]) :
    Calls Tryz.prog 374 #[.pointer (some ⟨bt, 0, none⟩), .slice A xs.length c] w fun e w' => e = .returned (.int .i64 (turnAt a xs : Nat)) ∧ Blk w' bt 69 #[.int .i64 (xs.getD (turnAt a xs) (0, 0)).1] ∧ Chg [bt] w w' := by
  have HX := Lib.hid hx
  clear hx
  have hbt := hB.lt
  go_enter Tryz.func374, Tryz.ntmps374
  go_wp2
  go_loopw [5, 10] (fun p i wr => ∃ k : Nat, k ≤ xs.length ∧ i = .int .i64 k ∧ p = .int .i64 0 ∧ (∀ j y d, j < k → xs[j]? = some (y, d) → y ≤ a) ∧ Below w.heap.size w wr) (fun _ i _ => xs.length - (intOf i).toNat)
  case atStart => exact ⟨0, Nat.zero_le _, rfl, rfl, fun j y d h => absurd h (by omega), Below.refl _ _⟩
  case round =>
    obtain ⟨k, hk, rfl, rfl, hno, hb⟩ := hrel
    have Hno := Lib.hid hno
    clear hno
    have hB1 := hB.below hb hbt
    have hc1 := hB1.cell 0
    have hf1 := hB1.frozen 0
    simp at hc1
    have hbt1 := hB1.lt
    by_cases hlt : k < xs.length
    · obtain ⟨bs, e, h0, h1, B2, m2, d2, h2⟩ := HX.out k xs[k].1 xs[k].2 (List.getElem?_eq_getElem hlt)
      subst e
      have hbs := World.block_lt_of_cell? w _ h0
      have h01 := (hb.cell (p := ⟨bs, k * 3, none⟩) hbs).trans h0
      have h11 := (hb.cell (p := ⟨bs, k * 3 + 1, none⟩) hbs).trans h1
      have h21 := (hb.cell (p := ⟨bs, k * 3 + 2, none⟩) hbs).trans h2
      clear h0 h1 h2
      have hbs1 : bs < wr.heap.size := Nat.lt_of_lt_of_le hbs hb.size
      by_cases hg : a < xs[k].1
      · have hat : turnAt a xs = k := turnAt_hit hlt hg Hno.out
        have Hat := Lib.hid hat
        clear hat
        go_wp2
        go_quiet (fail)
        go_wp2
        go_ret
        refine ⟨ret_nat Hat.out.symm, ?_, ?_⟩
        · rw [Hat.out]
          have := ((hB1.alloc (.cells #[.int .i64 xs[k].1, .int .i64 xs[k].2, .slice B2 m2 d2] 54)).drewN nq).set_ 0 (.int .i64 xs[k].1)
          simpa [List.getD, hlt] using this
        · exact (((Chg.of_below hb _).alloc _).drewN _).setCell (.inl (by simp)) _
      · have hnx := turnAt_step (xs := xs) (a := a) hlt hg Hno.out
        have Hnx := Lib.hid hnx
        clear hnx
        go_wp2
        go_quiet (fail)
        go_wp2
        go_roundw
        case rel => exact ⟨k + 1, by omega, by go_num, rfl, Hnx.out, below_drewN (hb.alloc hb.size _) _⟩
        case measure => simp [intOf]; omega
    · have hke : k = xs.length := by omega
      have hat : turnAt a xs = 0 := turnAt_none (by rw [← hke]; exact Hno.out)
      have Hat := Lib.hid hat
      clear hat hke Hno
      obtain ⟨bs, e, h0, _, _⟩ := HX.out 0 xs[0].1 xs[0].2 (List.getElem?_eq_getElem hn)
      subst e
      have hbs := World.block_lt_of_cell? w _ h0
      have h01 := (hb.cell (p := ⟨bs, 0, none⟩) hbs).trans h0
      clear h0
      go_wp2
      go_ret
      refine ⟨ret_nat Hat.out.symm, ?_, ?_⟩
      · rw [Hat.out]
        have := hB1.set_ 0 (.int .i64 xs[0].1)
        simpa [List.getD, hn] using this
      · exact (Chg.of_below hb _).setCell (.inl (by simp)) _

end Go.Proofs.YthipgipmhjebmaaGreatDoor.Pol
