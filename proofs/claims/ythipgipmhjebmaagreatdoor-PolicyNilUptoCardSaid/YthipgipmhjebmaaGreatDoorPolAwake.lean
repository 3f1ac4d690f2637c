/- chordmaillaw25.awake answers true. -/
import Derived.Test.YthipgipmhjebmaaGreatDoorPolTop
namespace Go.Proofs.YthipgipmhjebmaaGreatDoor.Pol
open Go.RowKit

def xs0 : List (Int × Int) := [(0, 1), (2, 0), (2, 3)]
def want0 : List Int := [0, 0, 0, 2, 2, 2, 0, 1, 0, 2, 0, 1, 0, 1, 2]
def PS.steps (s : PS) (xs : List (Int × Int)) : Nat → PS
  | 0 => s
  | k + 1 => ((s.steps xs k).next xs).2
theorem want_ok : ∀ i : Fin 5, ∀ k : Fin 3, (((((PS.start (i.val + 1 : Nat) 0).steps xs0 k.val).next xs0).1 : Nat) : Int) = want0.getD (i.val * 3 + k.val) 0 := by
  decide +kernel

theorem new_any (k : Nat) (seed : Int) (w : World) (h0 : 1 ≤ k) (h1 : k ≤ 5) : Calls Tryz.prog 7 #[.int .i64 k, .int .u64 seed] w (NewPost w k seed) := by
  rcases (by omega : k = 1 ∨ k = 2 ∨ k = 3 ∨ k = 4 ∨ k = 5) with rfl | rfl | rfl | rfl | rfl
  · exact new_1 seed w
  · exact new_2 seed w
  · exact new_3 seed w
  · exact new_4 seed w
  · exact new_5 seed w

def xsC : Array Value := #[Value.int IntKind.i64 0, Value.int IntKind.i64 1, Value.slice none 0 0, Value.int IntKind.i64 2, Value.int IntKind.i64 0, Value.slice none 0 0, Value.int IntKind.i64 2, Value.int IntKind.i64 3, Value.slice none 0 0]
def wantC : Array Value := #[Value.int IntKind.i64 0, Value.int IntKind.i64 0, Value.int IntKind.i64 0, Value.int IntKind.i64 2, Value.int IntKind.i64 2, Value.int IntKind.i64 2, Value.int IntKind.i64 0, Value.int IntKind.i64 1, Value.int IntKind.i64 0, Value.int IntKind.i64 2, Value.int IntKind.i64 0, Value.int IntKind.i64 1, Value.int IntKind.i64 0, Value.int IntKind.i64 1, Value.int IntKind.i64 2]
theorem chs0 {w : World} {b : Nat} (h : Blk w b 54 xsC) : Chs w (some ⟨b, 0, none⟩) xs0 := by
  intro i a c hi
  have hlt : i < 3 := (List.getElem?_eq_some_iff.1 hi).1
  rcases (by omega : i = 0 ∨ i = 1 ∨ i = 2) with rfl | rfl | rfl
  · simp [xs0] at hi; obtain ⟨rfl, rfl⟩ := hi; exact ⟨b, rfl, h.cell 0, h.cell 1, none, 0, 0, h.cell 2⟩
  · simp [xs0] at hi; obtain ⟨rfl, rfl⟩ := hi; exact ⟨b, rfl, h.cell 3, h.cell 4, none, 0, 0, h.cell 5⟩
  · simp [xs0] at hi; obtain ⟨rfl, rfl⟩ := hi; exact ⟨b, rfl, h.cell 6, h.cell 7, none, 0, 0, h.cell 8⟩
theorem wantAt {w : World} {b : Nat} (h : Blk w b 56 wantC) (i k : Nat) (hi : i < 5) (hk : k < 3) : w.cell? ⟨b, i * 3 + k, none⟩ = some (.int .i64 (((PS.start (i + 1 : Nat) 0).steps xs0 k).next xs0).1) := by
  rw [want_ok ⟨i, hi⟩ ⟨k, hk⟩, h.cell]
  rcases (by omega : i = 0 ∨ i = 1 ∨ i = 2 ∨ i = 3 ∨ i = 4) with rfl | rfl | rfl | rfl | rfl <;> rcases (by omega : k = 0 ∨ k = 1 ∨ k = 2) with rfl | rfl | rfl <;> rfl
theorem steps_ok (i k : Nat) (hk : k ≤ 3) (hi : i < 5) : ((PS.start (i + 1 : Nat) 0).steps xs0 k).ok := by
  rcases (by omega : i = 0 ∨ i = 1 ∨ i = 2 ∨ i = 3 ∨ i = 4) with rfl | rfl | rfl | rfl | rfl <;> rcases (by omega : k = 0 ∨ k = 1 ∨ k = 2 ∨ k = 3) with rfl | rfl | rfl | rfl <;> first | exact trivial | (simp [PS.start, PS.steps, PS.next, PS.ok]; done)
theorem xs0_wf : ∀ p ∈ xs0, (Lit.int .i64 p.1).wf = true ∧ (Lit.int .i64 p.2).wf = true := by decide

set_option maxRecDepth 20000 in
set_option maxHeartbeats 1000000 in
theorem awake_any (w : World) : Calls Tryz.prog 4 #[] w fun e w' => e = .returned (.bool true) ∧ Below w.heap.size w w' := by
  obtain ⟨W0, hW0⟩ : ∃ W0, W0 = (w.alloc (.cells xsC 54)).alloc (.cells wantC 56) := ⟨_, rfl⟩
  have hX : Blk W0 w.heap.size 54 xsC := by rw [hW0]; exact (Blk.new w _ _).alloc _
  have hY : Blk W0 (w.heap.size + 1) 56 wantC := by rw [hW0]; simpa using Blk.new (w.alloc (.cells xsC 54)) 56 wantC
  have hB0 : Below w.heap.size w W0 := by rw [hW0]; exact ((Below.refl _ _).alloc (Nat.le_refl _) _).alloc (by simp) _
  have hsz : W0.heap.size = w.heap.size + 2 := by rw [hW0]; simp
  have HW0 := Lib.hid hW0
  have HS := Lib.hid hsz
  clear hW0 hsz
  have hsz1 : w.heap.size + 2 ≤ W0.heap.size := by have := HS.out; omega
  go_enter Tryz.func4, Tryz.ntmps4
  go_wp2_with fail
  have e0 := HW0.out
  unfold xsC wantC at e0
  rw [← e0]
  clear e0
  go_loopw [3, 4, 5, 6, 7, 8] (fun i _ _ _ _ _ wr => ∃ k : Nat, k ≤ 5 ∧ i = .int .i64 k ∧ Below W0.heap.size W0 wr) (fun i _ _ _ _ _ _ => 5 - (intOf i).toNat)
  case atStart => exact ⟨0, by omega, rfl, Below.refl _ _⟩
  case round =>
    obtain ⟨i, hi, rfl, hb⟩ := hrel
    by_cases hlt : i < 5
    · go_wp2_with (go_at_call 7; refine (new_any (i + 1) 0 _ (by omega) (by omega)).mono ?_; rintro e w1 ⟨p, S, rfl, hP, hS, hb1⟩)
      have hS1 : ∀ x ∈ S, W0.heap.size ≤ x := fun x hx => Nat.le_trans hb.size (hS x hx)
      have HS1 := Lib.hid hS1
      have hbn : Below W0.heap.size W0 w1 := hb.trans (hb1.mono hb.size)
      clear hS hS1 hb hb1
      obtain ⟨wo, rfl⟩ : ∃ wo : World, wo = wr := ⟨_, rfl⟩
      go_loopw [6, 7, 8] (fun q _ _ wq => ∃ k : Nat, k ≤ 3 ∧ q = .int .i64 k ∧ Pl wq p S ((PS.start (i + 1 : Nat) 0).steps xs0 k) ∧ Below W0.heap.size W0 wq) (fun q _ _ _ => 3 - (intOf q).toNat)
      case atStart => exact ⟨0, by omega, rfl, hP, hbn⟩
      case round =>
        clear hP
        obtain ⟨k, hk, rfl, hP, hbk⟩ := hrel
        have HP := Lib.hid hP
        clear hP hbn
        by_cases hkt : k < 3
        · have HN := Lib.hid (next_any p S _ (some ⟨w.heap.size, 0, none⟩) 3 xs0 wr HP.out (steps_ok i k hk hlt) (by decide) (by decide) xs0_wf (chs0 (hX.below hbk (by have := HS.out; omega)))
            (fun ad e hm => by injection e with e; subst e; have := HS1.out _ hm; have := HS.out; simp at *; omega))
          have HW := Lib.hid (wantAt (hY.below hbk (by have := HS.out; omega)) i k hlt hkt)
          have hnx : (PS.start (i + 1 : Nat) 0).steps xs0 (k + 1) = (((PS.start (i + 1 : Nat) 0).steps xs0 k).next xs0).2 := rfl
          have HX1 := Lib.hid hnx
          clear hnx
          generalize (((PS.start (i + 1 : Nat) 0).steps xs0 k).next xs0).1 = r at HN HW
          go_wp2_with fail
          refine HN.out.mono ?_
          rintro e w3 ⟨rfl, hP3, hc3⟩
          have HP3 := Lib.hid hP3
          clear hP3
          have hcell : w3.cell? ⟨w.heap.size + 1, i * 3 + k, none⟩ = some (.int .i64 (r : Int)) :=
            (World.cell?_of_block (hc3.block (w.heap.size + 1) (by have := hbk.size; omega) (fun hm => by have := HS1.out _ hm; omega))).trans HW.out
          go_wp2
          go_roundw
          case rel => exact ⟨k + 1, by omega, by go_num, by rw [HX1.out]; exact HP3.out, hbk.trans (hc3.below hbk.size HS1.out)⟩
          case measure => simp [intOf]; omega
        · go_wp2_with fail
          go_roundw
          case rel => exact ⟨i + 1, by omega, by go_num, hbk⟩
          case measure => simp [intOf]; omega
    · go_wp2_with (go_at_call 7; refine (new_bad 6 0 _ (by omega)).mono ?_; rintro e w1 ⟨rfl, hb1⟩)
      go_ret
      exact ⟨rfl, (hB0.trans (hb.mono hB0.size)).trans (hb1.mono (Nat.le_trans hB0.size hb.size))⟩
end Go.Proofs.YthipgipmhjebmaaGreatDoor.Pol
