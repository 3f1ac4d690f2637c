/- (*policy.Policy).Copy: a policy of its own that keeps the same. -/
import Derived.Test.YtfflfhkbnmoalaaPicKey
import Derived.Test.YtfflfhkbnmoalaaPPolicyPicksx1
import Derived.Test.YtfflfhkbnmoalaaPolUnlike
import Derived.Maps.Ext
import Derived.Maps.RangeWalk
import Derived.Maps.Own
namespace Go.Proofs.Ytfflfhkbnmoalaa.Pol
open Go.RowKit Go.Maps
open Go.Proofs.YtfflfhkbnmoalaaW.PrintWords Go.Proofs.YtfflfhkbnmoalaaW.PrintLast Go.Proofs.YtfflfhkbnmoalaaW.PrintMore
set_option linter.unusedSimpArgs false
set_option linter.unusedVariables false

def CopyPost (w : World) (s : PS) (e : Ending) (w' : World) : Prop :=
  ∃ (p : Nat) (S : List Nat), e = .returned (.pointer (some ⟨p, 0, none⟩)) ∧ Pl w' p S s ∧ (∀ x ∈ S, w.heap.size ≤ x) ∧ Below w.heap.size w w'

theorem copy_nil (w : World) : Calls Try.prog 24 #[.pointer none] w fun e w' => e = .returned (.pointer none) ∧ Below w.heap.size w w' := by
  go_enter Try.func24, Try.ntmps24
  go_wp2
  go_ret
  exact ⟨rfl, Below.refl _ _⟩

theorem cp_first (w : World) : Calls Try.prog 52 #[.agg #[]] w fun e w' => e = .returned (.iface 82 (.agg #[])) ∧ Below w.heap.size w w' := by
  go_enter Try.func52, Try.ntmps52
  go_wp2
  go_ret
  exact ⟨rfl, (Below.refl _ _).alloc (Nat.le_refl _) _⟩
theorem cp_last (w : World) : Calls Try.prog 54 #[.agg #[]] w fun e w' => e = .returned (.iface 83 (.agg #[])) ∧ Below w.heap.size w w' := by
  go_enter Try.func54, Try.ntmps54
  go_wp2
  go_ret
  exact ⟨rfl, (Below.refl _ _).alloc (Nat.le_refl _) _⟩
theorem cp_turns (t : Nat) (a : Int) (w : World) (hT : Blk w t 86 #[.int .i64 a]) : Calls Try.prog 56 #[.pointer (some ⟨t, 0, none⟩)] w fun e w' => ∃ t', e = .returned (.iface 84 (.pointer (some ⟨t', 0, none⟩))) ∧ w.heap.size ≤ t' ∧ Blk w' t' 86 #[.int .i64 a] ∧ Below w.heap.size w w' := by
  have hc := hT.cell 0
  simp at hc
  go_enter Try.func56, Try.ntmps56
  go_wp2
  go_ret
  exact ⟨w.heap.size, rfl, Nat.le_refl _, Blk.new w _ _, (Below.refl _ _).alloc (Nat.le_refl _) _⟩
theorem cp_lot (t : Nat) (a : Int) (w : World) (hT : Blk w t 89 #[.int .u64 a]) : Calls Try.prog 58 #[.pointer (some ⟨t, 0, none⟩)] w fun e w' => ∃ t', e = .returned (.iface 87 (.pointer (some ⟨t', 0, none⟩))) ∧ w.heap.size ≤ t' ∧ Blk w' t' 89 #[.int .u64 a] ∧ Below w.heap.size w w' := by
  have hc := hT.cell 0
  simp at hc
  go_enter Try.func58, Try.ntmps58
  go_wp2
  go_ret
  exact ⟨w.heap.size, rfl, Nat.le_refl _, Blk.new w _ _, (Below.refl _ _).alloc (Nat.le_refl _) _⟩

theorem m82 (v : Value) (w : World) : (method 231 82 v "chordmail/policy.copy").run Try.prog w = .ok (52, v) w := by kernel_rfl
theorem m83 (v : Value) (w : World) : (method 231 83 v "chordmail/policy.copy").run Try.prog w = .ok (54, v) w := by kernel_rfl
theorem m84 (a : Addr) (w : World) : (method 231 84 (.pointer (some a)) "chordmail/policy.copy").run Try.prog w = .ok (56, .pointer (some a)) w := by kernel_rfl
theorem m87 (a : Addr) (w : World) : (method 231 87 (.pointer (some a)) "chordmail/policy.copy").run Try.prog w = .ok (58, .pointer (some a)) w := by kernel_rfl
theorem m90 (a : Addr) (w : World) : (method 231 90 (.pointer (some a)) "chordmail/policy.copy").run Try.prog w = .ok (60, .pointer (some a)) w := by kernel_rfl
attribute [local go_sem] m82 m83 m84 m87 m90

set_option maxRecDepth 20000 in
set_option maxHeartbeats 400000 in
theorem copy_first (p : Nat) (S : List Nat) (w : World) (hP : Pl w p S .first) : Calls Try.prog 24 #[.pointer (some ⟨p, 0, none⟩)] w (CopyPost w .first) := by
  obtain ⟨rfl, hB⟩ := hP
  have hc := hB.cell 0
  simp at hc
  go_enter Try.func24, Try.ntmps24
  go_wp2_with (go_at_call 52; refine (cp_first _).mono ?_; rintro e w1 ⟨rfl, hb1⟩)
  go_ret
  exact ⟨w1.heap.size, [w1.heap.size], rfl, ⟨rfl, Blk.new w1 _ _⟩, by simpa using hb1.size, hb1.alloc hb1.size _⟩
set_option maxRecDepth 20000 in
set_option maxHeartbeats 400000 in
theorem copy_last (p : Nat) (S : List Nat) (w : World) (hP : Pl w p S .last) : Calls Try.prog 24 #[.pointer (some ⟨p, 0, none⟩)] w (CopyPost w .last) := by
  obtain ⟨rfl, hB⟩ := hP
  have hc := hB.cell 0
  simp at hc
  go_enter Try.func24, Try.ntmps24
  go_wp2_with (go_at_call 54; refine (cp_last _).mono ?_; rintro e w1 ⟨rfl, hb1⟩)
  go_ret
  exact ⟨w1.heap.size, [w1.heap.size], rfl, ⟨rfl, Blk.new w1 _ _⟩, by simpa using hb1.size, hb1.alloc hb1.size _⟩
set_option maxRecDepth 20000 in
set_option maxHeartbeats 400000 in
theorem copy_turns (p : Nat) (S : List Nat) (a : Int) (w : World) (hP : Pl w p S (.turns a)) : Calls Try.prog 24 #[.pointer (some ⟨p, 0, none⟩)] w (CopyPost w (.turns a)) := by
  obtain ⟨t, rfl, hpt, hB, hT⟩ := hP
  have hc := hB.cell 0
  simp at hc
  go_enter Try.func24, Try.ntmps24
  go_wp2_with (go_at_call 56; refine (cp_turns _ a _ hT).mono ?_; rintro e w1 ⟨t1, rfl, ht1, hB1, hb1⟩)
  go_ret
  have hlt := hB1.lt
  exact ⟨w1.heap.size, [w1.heap.size, t1], rfl, ⟨t1, rfl, by omega, Blk.new w1 _ _, hB1.alloc _⟩, by simpa using ⟨hb1.size, ht1⟩, hb1.alloc hb1.size _⟩
set_option maxRecDepth 20000 in
set_option maxHeartbeats 400000 in
theorem copy_lot (p : Nat) (S : List Nat) (a : Int) (w : World) (hP : Pl w p S (.lot a)) : Calls Try.prog 24 #[.pointer (some ⟨p, 0, none⟩)] w (CopyPost w (.lot a)) := by
  obtain ⟨t, rfl, hpt, hB, hT⟩ := hP
  have hc := hB.cell 0
  simp at hc
  go_enter Try.func24, Try.ntmps24
  go_wp2_with (go_at_call 58; refine (cp_lot _ a _ hT).mono ?_; rintro e w1 ⟨t1, rfl, ht1, hB1, hb1⟩)
  go_ret
  have hlt := hB1.lt
  exact ⟨w1.heap.size, [w1.heap.size, t1], rfl, ⟨t1, rfl, by omega, Blk.new w1 _ _, hB1.alloc _⟩, by simpa using ⟨hb1.size, ht1⟩, hb1.alloc hb1.size _⟩

theorem blk_grown' {W w1 : World} {g t : Nat} {cs : Array Value} {row : Option Nat} (h : Blk W g t cs) (hg : W.grownBy w1 row) (hne : some g ≠ row) : Blk w1 g t cs := (hg.block g h.lt hne).trans h
def TC : Bool × List (List Nat × List Nat) := (true, [([], []), ([0], [0]), ([1], [1]), ([2], [2]), ([], []), ([], []), ([3, 4, 5, 0, 1, 2, 3, 4, 5], [3, 4, 5])])
def BC : List Nat := [0, 1, 3, 7, 0, 0, 63]
theorem tabC : rtab .any (opsOf Try.f60 5) = TC := by kernel_rfl
theorem bitsC : waitsOk TC.2 BC = true := by kernel_rfl

set_option maxRecDepth 100000 in
set_option maxHeartbeats 1000000 in
theorem cp_old (t m nm : Nat) (f : Int → Int → Int) (w : World) (hne : t ≠ m) (hT : Blk w t 93 #[.int .i64 nm, .map (some m)]) (hM : MapIs w m nm f) (hnm : nm < 1048576) :
    Calls Try.prog 60 #[.pointer (some ⟨t, 0, none⟩)] w fun e w' => ∃ t' m', e = .returned (.iface 90 (.pointer (some ⟨t', 0, none⟩))) ∧ t' ≠ m' ∧ w.heap.size ≤ t' ∧ w.heap.size ≤ m' ∧ Blk w' t' 93 #[.int .i64 nm, .map (some m')] ∧ MapIs w' m' nm f ∧ Below w.heap.size w w' := by
  obtain ⟨D0, hown, hD, hwf, hat0⟩ := hM
  have hsz := hown.size_le
  have hmm := @run_makeMap Try.prog
  have hbl := hown.lt
  have htl := hT.lt
  have hc0 := hT.cell 0
  have hc1 := hT.cell 1
  simp at hc0 hc1
  have HAT := Lib.hid hat0
  have HWF := Lib.hid hwf
  clear hat0 hwf
  go_enter Try.func60, Try.ntmps60
  go_upto_region 2 with fail
  have hout0 : (w.alloc (.map #[] 0)).ownsMap Try.prog 128 (plainElem (H := Unit) Try.prog 3) w.heap.size 0 (.map []) := World.ownsMap_made w _ _ _
  have hown0 := hown.alloc (.map #[] 0)
  have hb0 : Below w.heap.size w (w.alloc (.map #[] 0)) := (Below.refl _ _).alloc (Nat.le_refl _) _
  have hB0 := Blk.new (w.alloc (.map #[] 0)) 93 #[.int .i64 nm, .map (some w.heap.size)]
  replace hout0 := hout0.alloc (.cells #[.int .i64 nm, .map (some w.heap.size)] 93)
  replace hown0 := hown0.alloc (.cells #[.int .i64 nm, .map (some w.heap.size)] 93)
  replace hb0 := hb0.alloc (by simp) (.cells #[.int .i64 nm, .map (some w.heap.size)] 93)
  have hT0 := (hT.alloc (.map #[] 0)).alloc (.cells #[.int .i64 nm, .map (some w.heap.size)] 93)
  have e1 : (w.alloc (.map #[] 0)).heap.size = w.heap.size + 1 := by simp
  have e2 : ((w.alloc (.map #[] 0)).alloc (.cells #[.int .i64 nm, .map (some w.heap.size)] 93)).heap.size = w.heap.size + 2 := by simp
  rw [e1] at hB0
  generalize (w.alloc (.map #[] 0)).alloc (.cells #[.int .i64 nm, .map (some w.heap.size)] 93) = w0 at hout0 hown0 hb0 hB0 hT0 e2 ⊢
  clear hc0 hc1 e1 hT
  have hc1 := hT0.cell 1
  simp at hc1
  go_wp2_with (first
    | (at_range; refine wpList_range_own _ rfl _ 91 rfl 128 3 law128 Try.underlying91 _ m nm _ rfl hown0 ?_; intro w1 hrg1 hg1 hs1)
    | fail)
  go_frame
  rw [e2] at hrg1 hs1 ⊢
  have hout1 := hout0.kept hg1 (by simp)
  have hb1 := hb0.grown hg1 (by omega) (fun j hj => by cases hj)
  have hB1 := blk_grown' hB0 hg1 (by simp)
  clear hout0 hb0 hB0 hT0 hc1 hg1 hown0
  go_loopw [4, 5] (fun _ _ wr => ∃ (left : Lit → Bool) (cnt : Nat) (Dout : DataW Unit), wr.ranges Try.prog 128 (plainElem Try.prog 3) m (w.heap.size + 2) nm D0 left cnt ∧ cnt ≤ Maps.size D0 ∧
      wr.ownsMap Try.prog 128 (plainElem Try.prog 3) w.heap.size (Maps.size D0 - cnt) Dout ∧ Agree Dout D0 left ∧ Below w.heap.size w wr ∧ Blk wr (w.heap.size + 1) 93 #[.int .i64 nm, .map (some w.heap.size)])
    (fun _ _ wr => wr.rangeLeft m (w.heap.size + 2))
  case atStart =>
    exact ⟨_, _, .map [], hrg1, Nat.le_refl _, hout1.mono (Nat.zero_le _), agree_start D0, hb1, hB1⟩
  case round =>
    clear hrg1 hout1 hb1 hB1 hs1
    obtain ⟨left, cnt, Dout, hrg, hcs, hout, hA, hnx, hB⟩ := hrel
    go_wp2_with (first
      | (at_next; refine wpList_next_ranges (α := Int × Int) (β := Int) _ rfl _ rfl 128 law128 (plainElem Try.prog 3) (fun x : Int × Int => .agg #[.int .i64 x.1, .int .i64 x.2]) (Value.int .i64) (fun key kl hk => by obtain ⟨x, rfl, _⟩ := keyOf128_inv hk; exact ⟨x, rfl⟩) (fun v y hv => by obtain ⟨c, rfl, _⟩ := plainElem_int_inv Try.underlying3 hv; exact ⟨c, rfl⟩) m (w.heap.size + 2) nm _ _ _ rfl hrg ?_ ?_)
      | fail)
    · -- nothing is left
      intro hc0 hl0
      go_wp2
      go_ret
      subst hc0
      have e := agree_end hA hl0 (hout.canon law128) (hown.canon law128)
      subst e
      exact ⟨w.heap.size + 1, w.heap.size, rfl, by omega, by omega, Nat.le_refl _, hB, ⟨Dout, hout.mono (by omega), hD, HWF.out, HAT.out⟩, hnx⟩
    · -- an entry has come
      intro x1 x2 c kl d ps w1 cnt1 hwx hlx hwc0 hat hrg1 hlt hg1 hs1 hen
      obtain ⟨c', ec, ey, hwc⟩ := plainElem_int_inv Try.underlying3 hwc0
      cases ec
      cases ey
      have hout1 := hout.kept hg1 (by simp)
      have hB1 := blk_grown' hB hg1 (by simp)
      have hnx1 := hnx.grown hg1 hnx.size (fun j hj => by cases hj; omega)
      go_upto_region 5 with fail
      have h4 := Blk.new w1 128 #[.int .i64 x1, .int .i64 x2]
      rw [hs1] at h4
      have hrg4 := hrg1.alloc (.cells #[.int .i64 x1, .int .i64 x2] 128)
      have hout4 := hout1.alloc (.cells #[.int .i64 x1, .int .i64 x2] 128)
      have hB4 := hB1.alloc (.cells #[.int .i64 x1, .int .i64 x2] 128)
      have hnx4 := hnx1.alloc hnx1.size (.cells #[.int .i64 x1, .int .i64 x2] 128)
      generalize wr.heap.size = g4 at h4 ⊢
      generalize w1.alloc (.cells #[.int .i64 x1, .int .i64 x2] 128) = w4 at h4 hrg4 hout4 hB4 hnx4 ⊢
      clear hrg1 hout1 hB1 hnx1 hen hs1
      refine start_ (n := 7) (S := fun w' => Blk w' (w.heap.size + 1) 93 #[.int .i64 nm, .map (some w.heap.size)] ∧ Blk w' g4 128 #[.int .i64 x1, .int .i64 x2]) (ds := [6]) #[false, false, false, false, false, false, false] (by kernel_rfl) rfl rfl ⟨hB4.drew, h4.drew⟩ (fun hHeld => ?_)
      refine with_tabW tabC bitsC (fun HT_ HW_ => ?_)
      have hrg5 : w4.drew.ranges Try.prog 128 (plainElem Try.prog 3) m (w.heap.size + 2) nm D0 (fun z => left z && !z.sameKey kl) cnt1 := hrg4
      have hout5 := hout4.drew
      have hnx5 := hnx4.drew
      generalize w4.drew = w5 at hHeld hrg5 hout5 hnx5 ⊢
      clear hrg4 hout4 hnx4 hB4 h4
      refine pure_ (i := 0) (N := some 23) (v := ?_) (a' := ?_) #[true, false, false, false, false, false, false] rfl rfl (any_of HT_.out (by kernel_rfl)) (fun _ _ _ h => h) (Or.inl ⟨by rfl, ?_⟩) ?_ ?_
      rotate_left
      · intro w'
        go_simp
        with_reducible rfl
      rotate_left
      · simp only [Act.put, List.setIfInBounds_toArray, List.set_cons_zero, List.set_cons_succ, i64_w, i32_w]
        rfl
      refine pure_ (i := 1) (N := some 24) (v := ?_) (a' := ?_) #[true, true, false, false, false, false, false] rfl rfl (any_of HT_.out (by kernel_rfl)) (fun _ _ _ h => h) (Or.inl ⟨by rfl, ?_⟩) ?_ ?_
      rotate_left
      · intro w'
        go_simp
        with_reducible rfl
      rotate_left
      · simp only [Act.put, List.setIfInBounds_toArray, List.set_cons_zero, List.set_cons_succ, i64_w, i32_w]
        rfl
      refine pure_ (i := 2) (N := some 25) (v := ?_) (a' := ?_) #[true, true, true, false, false, false, false] rfl rfl (any_of HT_.out (by kernel_rfl)) (fun _ _ _ h => h) (Or.inl ⟨by rfl, ?_⟩) ?_ ?_
      rotate_left
      · intro w'
        go_simp
        with_reducible rfl
      rotate_left
      · simp only [Act.put, List.setIfInBounds_toArray, List.set_cons_zero, List.set_cons_succ, i64_w, i32_w]
        rfl
      refine take_ (i := 3) (N := some 26) (v := ?_) (a' := ?_) #[true, true, true, true, false, false, false] rfl rfl (take_ofW HT_.out HW_.out (by kernel_rfl)) (fun _ _ _ h => h) (Or.inl ⟨by rfl, ?_⟩) hHeld ?_ ?_
      rotate_left
      · intro w' HS_
        have t_ := HS_.1.cell 1
        simp at t_
        go_simp
        with_reducible rfl
      rotate_left
      · simp only [Act.put, List.setIfInBounds_toArray, List.set_cons_zero, List.set_cons_succ, i64_w, i32_w]
        rfl
      refine take_ (i := 4) (N := some 27) (v := ?_) (a' := ?_) #[true, true, true, true, true, false, false] rfl rfl (take_ofW HT_.out HW_.out (by kernel_rfl)) (fun _ _ _ h => h) (Or.inl ⟨by rfl, ?_⟩) hHeld ?_ ?_
      rotate_left
      · intro w' HS_
        have t0 := HS_.2.cell 0
        have t1 := HS_.2.cell 1
        simp at t0 t1
        go_simp
        with_reducible rfl
      rotate_left
      · simp only [Act.put, List.setIfInBounds_toArray, List.set_cons_zero, List.set_cons_succ, i64_w, i32_w]
        rfl
      refine pure_ (i := 5) (N := some 28) (v := ?_) (a' := ?_) #[true, true, true, true, true, true, false] rfl rfl (any_of HT_.out (by kernel_rfl)) (fun _ _ _ h => h) (Or.inl ⟨by rfl, ?_⟩) ?_ ?_
      rotate_left
      · intro w'
        go_simp
        with_reducible rfl
      rotate_left
      · simp only [Act.put, List.setIfInBounds_toArray, List.set_cons_zero, List.set_cons_succ, i64_w, i32_w]
        rfl
      obtain ⟨w6, hrun6, hout6, hg6⟩ := hout5.update law128 Try.underlying91 (show Maps.size D0 - cnt < maxLen by unfold maxLen; omega) hwx (plainElem_int Try.underlying3 hwc)
      refine last_ (i := 6) (N := none) #[true, true, true, true, true, true, true] rfl rfl (one_of HT_.out (by kernel_rfl)) (by decide) (fun K hK => ?_)
      refine skip_ (w1 := w6) (by rfl) rfl ?_ ?_
      · go_simp
      refine hK.out _ _ ?_
      clear hK K
      refine done_ (done_of HT_.out (by kernel_rfl)) ?_
      try go_wp2
      have hrg6 := hrg5.kept hg6 (fun e => by have := Option.some.inj e; omega) (fun e => by have := Option.some.inj e; omega)
      have hB6 := blk_grown' hHeld.1 hg6 (by simp)
      go_roundw
      case rel =>
        exact ⟨_, cnt1, _, hrg6, by omega, hout6.mono (by omega), agree_step hA hout.isMap (law128.key hwx) hat, hnx5.grown hg6 (by have := hnx5.size; omega) (fun j hj => by cases hj; exact Nat.le_refl _), hB6⟩
      case measure => rw [hrg6.left_eq, hrg.left_eq]; exact hlt

set_option maxRecDepth 20000 in
set_option maxHeartbeats 400000 in
theorem copy_old (p : Nat) (S : List Nat) (nm : Nat) (f : Int → Int → Int) (w : World) (hP : Pl w p S (.old nm f)) (hnm : nm < 1048576) : Calls Try.prog 24 #[.pointer (some ⟨p, 0, none⟩)] w (CopyPost w (.old nm f)) := by
  obtain ⟨t, m, rfl, hpt, hpm, htm, hB, hT, hM⟩ := hP
  have hc := hB.cell 0
  simp at hc
  go_enter Try.func24, Try.ntmps24
  go_wp2_with (go_at_call 60; refine (cp_old t m nm f _ htm hT hM hnm).mono ?_; rintro e w1 ⟨t1, m1, rfl, hne1, ht1, hm1, hB1, hM1, hb1⟩)
  go_ret
  have hlt := hB1.lt
  have hlm := hM1.lt
  exact ⟨w1.heap.size, [w1.heap.size, t1, m1], rfl, ⟨t1, m1, rfl, by omega, by omega, hne1, Blk.new w1 _ _, hB1.alloc _, hM1.chg (S := []) ((Chg.refl _ _).alloc _) (by simp)⟩, by simpa using ⟨hb1.size, ht1, hm1⟩, hb1.alloc hb1.size _⟩

/-- A copy of any policy. -/
theorem copy_any (p : Nat) (S : List Nat) (s : PS) (w : World) (hP : Pl w p S s) (hs : s.ok) : Calls Try.prog 24 #[.pointer (some ⟨p, 0, none⟩)] w (CopyPost w s) := by
  cases s with
  | first => exact copy_first p S w hP
  | last => exact copy_last p S w hP
  | turns a => exact copy_turns p S a w hP
  | lot x => exact copy_lot p S x w hP
  | old n f => exact copy_old p S n f w hP hs
end Go.Proofs.Ytfflfhkbnmoalaa.Pol
