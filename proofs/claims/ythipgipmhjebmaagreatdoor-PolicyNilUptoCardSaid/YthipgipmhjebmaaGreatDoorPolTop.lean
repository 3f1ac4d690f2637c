/- policy.New, (*policy.Policy).Next: what they answer, and what becomes of the policy. -/
import Derived.Test.YthipgipmhjebmaaGreatDoorPolOld
namespace Go.Proofs.YthipgipmhjebmaaGreatDoor.Pol
open Go.RowKit

def PS.start (k seed : Int) : PS := if k = 1 then .first else if k = 2 then .last else if k = 3 then .turns (-1) else if k = 4 then .lot seed else .old 0 (fun _ _ => 0)

@[go_sem] theorem mk65 (x : Value) (w : World) : (Instr.makeInterface 65 x).run Tryz.prog w = .ok (.iface 65 x) w := run_makeInterface w 65 x (by kernel_rfl)
@[go_sem] theorem mk66 (x : Value) (w : World) : (Instr.makeInterface 66 x).run Tryz.prog w = .ok (.iface 66 x) w := run_makeInterface w 66 x (by kernel_rfl)
@[go_sem] theorem mk67 (x : Value) (w : World) : (Instr.makeInterface 67 x).run Tryz.prog w = .ok (.iface 67 x) w := run_makeInterface w 67 x (by kernel_rfl)
@[go_sem] theorem mk70 (x : Value) (w : World) : (Instr.makeInterface 70 x).run Tryz.prog w = .ok (.iface 70 x) w := run_makeInterface w 70 x (by kernel_rfl)
@[go_sem] theorem mk73 (x : Value) (w : World) : (Instr.makeInterface 73 x).run Tryz.prog w = .ok (.iface 73 x) w := run_makeInterface w 73 x (by kernel_rfl)

theorem new_bad (k seed : Int) (w : World) (h : k < 1 ∨ 5 < k) :
    Calls Tryz.prog 7 #[.int .i64 k, .int .u64 seed] w fun e w' => e = .returned (.tuple #[.pointer none, .int .i64 2]) ∧ Below w.heap.size w w' := by
  have h1 : (k == 1) = false := by rw [beq_eq_false_iff_ne]; omega
  have h2 : (k == 2) = false := by rw [beq_eq_false_iff_ne]; omega
  have h3 : (k == 3) = false := by rw [beq_eq_false_iff_ne]; omega
  have h4 : (k == 4) = false := by rw [beq_eq_false_iff_ne]; omega
  have h5 : (k == 5) = false := by rw [beq_eq_false_iff_ne]; omega
  clear h
  go_enter Tryz.func7, Tryz.ntmps7
  go_wp2
  go_ret2
  exact ⟨rfl, (Below.refl _ _).alloc (Nat.le_refl _) _⟩

def NewPost (w : World) (k seed : Int) (e : Ending) (w' : World) : Prop :=
  ∃ (p : Nat) (S : List Nat), e = .returned (.tuple #[.pointer (some ⟨p, 0, none⟩), .int .i64 0]) ∧ Pl w' p S (PS.start k seed) ∧ (∀ x ∈ S, w.heap.size ≤ x) ∧ Below w.heap.size w w'

set_option maxHeartbeats 400000 in
theorem new_1 (seed : Int) (w : World) : Calls Tryz.prog 7 #[.int .i64 1, .int .u64 seed] w (NewPost w 1 seed) := by
  go_enter Tryz.func7, Tryz.ntmps7
  go_wp2
  go_ret2
  exact ⟨w.heap.size, [w.heap.size], rfl, ⟨rfl, Blk.new w _ _⟩, by simp, (Below.refl _ _).alloc (Nat.le_refl _) _⟩
set_option maxHeartbeats 400000 in
theorem new_2 (seed : Int) (w : World) : Calls Tryz.prog 7 #[.int .i64 2, .int .u64 seed] w (NewPost w 2 seed) := by
  go_enter Tryz.func7, Tryz.ntmps7
  go_wp2
  go_ret2
  exact ⟨w.heap.size, [w.heap.size], rfl, ⟨rfl, Blk.new w _ _⟩, by simp, (Below.refl _ _).alloc (Nat.le_refl _) _⟩
set_option maxHeartbeats 400000 in
theorem new_3 (seed : Int) (w : World) : Calls Tryz.prog 7 #[.int .i64 3, .int .u64 seed] w (NewPost w 3 seed) := by
  go_enter Tryz.func7, Tryz.ntmps7
  go_wp2
  go_ret2
  exact ⟨w.heap.size, [w.heap.size, w.heap.size + 1], rfl, ⟨w.heap.size + 1, rfl, by omega, (Blk.new w _ _).alloc _, by simpa using Blk.new (w.alloc _) _ _⟩, by simp, ((Below.refl _ _).alloc (Nat.le_refl _) _).alloc (by simp) _⟩
set_option maxHeartbeats 400000 in
theorem new_4 (seed : Int) (w : World) : Calls Tryz.prog 7 #[.int .i64 4, .int .u64 seed] w (NewPost w 4 seed) := by
  go_enter Tryz.func7, Tryz.ntmps7
  go_wp2
  go_ret2
  exact ⟨w.heap.size, [w.heap.size, w.heap.size + 1], rfl, ⟨w.heap.size + 1, rfl, by omega, (Blk.new w _ _).alloc _, by simpa using Blk.new (w.alloc _) _ _⟩, by simp, ((Below.refl _ _).alloc (Nat.le_refl _) _).alloc (by simp) _⟩
set_option maxHeartbeats 400000 in
theorem new_5 (seed : Int) (w : World) : Calls Tryz.prog 7 #[.int .i64 5, .int .u64 seed] w (NewPost w 5 seed) := by
  have hmm := @run_makeMap Tryz.prog
  go_enter Tryz.func7, Tryz.ntmps7
  go_wp2
  go_ret2
  refine ⟨w.heap.size, [w.heap.size, w.heap.size + 2, w.heap.size + 1], rfl, ⟨w.heap.size + 2, w.heap.size + 1, rfl, by omega, by omega, by omega, ((Blk.new w _ _).alloc _).alloc _, ?_, ?_⟩, by simp, (((Below.refl _ _).alloc (Nat.le_refl _) _).alloc (by simp) _).alloc (by simp; omega) _⟩
  · have := Blk.new ((w.alloc (Obj.cells #[Value.iface 73 (Value.pointer (some { block := w.heap.size + 1 + 1, off := 0 }))] 60)).alloc (Obj.map #[] 0)) 76 #[Value.int IntKind.i64 0, Value.map (some (w.heap.size + 1))]
    simpa using this
  · have := (MapIs.made (w.alloc (Obj.cells #[Value.iface 73 (Value.pointer (some { block := w.heap.size + 1 + 1, off := 0 }))] 60))).chg (S := []) ((Chg.refl _ _).alloc (Obj.cells #[Value.int IntKind.i64 0, Value.map (some (w.heap.size + 1))] 76)) (by simp)
    simpa using this

theorem meth65 (v : Value) (w : World) : (method 625 65 v "chordmail/policy.next").run Tryz.prog w = .ok (370, v) w := by kernel_rfl
theorem meth66 (v : Value) (w : World) : (method 625 66 v "chordmail/policy.next").run Tryz.prog w = .ok (372, v) w := by kernel_rfl
theorem meth67 (a : Addr) (w : World) : (method 625 67 (.pointer (some a)) "chordmail/policy.next").run Tryz.prog w = .ok (374, .pointer (some a)) w := by kernel_rfl
theorem meth70 (a : Addr) (w : World) : (method 625 70 (.pointer (some a)) "chordmail/policy.next").run Tryz.prog w = .ok (376, .pointer (some a)) w := by kernel_rfl
theorem meth73 (a : Addr) (w : World) : (method 625 73 (.pointer (some a)) "chordmail/policy.next").run Tryz.prog w = .ok (378, .pointer (some a)) w := by kernel_rfl
attribute [local go_sem] meth65 meth66 meth67 meth70 meth73

theorem ret2_int {a b : Int} {t : Bool} (h : a = b) : Ending.returned (.tuple #[.int .i64 a, .bool t]) = Ending.returned (.tuple #[.int .i64 b, .bool t]) := by rw [h]

theorem next_nil (A : Option Addr) (n c : Nat) (w : World) :
    Calls Tryz.prog 5 #[.pointer none, .slice A n c] w fun e w' => e = .returned (.tuple #[.int .i64 0, .bool false]) ∧ Below w.heap.size w w' := by
  go_enter Tryz.func5, Tryz.ntmps5
  go_wp2
  go_ret2
  exact ⟨rfl, Below.refl _ _⟩

def PS.ok : PS → Prop
  | .old n _ => n < 1048576
  | _ => True

set_option maxRecDepth 20000 in
set_option maxHeartbeats 400000 in
theorem next_first (p : Nat) (S : List Nat) (A : Option Addr) (n c : Nat) (w : World) (hP : Pl w p S .first) (hn : 0 < n) :
    Calls Tryz.prog 5 #[.pointer (some ⟨p, 0, none⟩), .slice A n c] w fun e w' => e = .returned (.tuple #[.int .i64 0, .bool true]) ∧ Pl w' p S .first ∧ Chg S w w' := by
  obtain ⟨rfl, hB⟩ := hP
  have hc := hB.cell 0
  simp at hc
  have hne : ((n : Int) == 0) = false := by rw [beq_eq_false_iff_ne]; omega
  go_enter Tryz.func5, Tryz.ntmps5
  go_wp2_with (go_at_call 370; refine (first_any _ _ _ _).mono ?_; rintro e w1 ⟨rfl, hb1⟩)
  go_ret2
  exact ⟨rfl, ⟨rfl, hB.below hb1 hB.lt⟩, Chg.of_below hb1 _⟩

set_option maxRecDepth 20000 in
set_option maxHeartbeats 400000 in
theorem next_last (p : Nat) (S : List Nat) (A : Option Addr) (n c : Nat) (w : World) (hP : Pl w p S .last) (hn : 0 < n) (hm : n ≤ 140737488355328) :
    Calls Tryz.prog 5 #[.pointer (some ⟨p, 0, none⟩), .slice A n c] w fun e w' => e = .returned (.tuple #[.int .i64 (n - 1 : Nat), .bool true]) ∧ Pl w' p S .last ∧ Chg S w w' := by
  obtain ⟨rfl, hB⟩ := hP
  have hc := hB.cell 0
  simp at hc
  have hne : ((n : Int) == 0) = false := by rw [beq_eq_false_iff_ne]; omega
  go_enter Tryz.func5, Tryz.ntmps5
  go_wp2_with (go_at_call 372; refine (last_any _ _ _ _ hn hm).mono ?_; rintro e w1 ⟨rfl, hb1⟩)
  go_ret2
  exact ⟨ret2_int (by omega), ⟨rfl, hB.below hb1 hB.lt⟩, Chg.of_below hb1 _⟩

set_option maxRecDepth 20000 in
set_option maxHeartbeats 400000 in
theorem next_turns (p : Nat) (S : List Nat) (a : Int) (A : Option Addr) (c : Nat) (xs : List (Int × Int)) (w : World) (hP : Pl w p S (.turns a)) (hn : 0 < xs.length) (hm : xs.length ≤ 140737488355328) (hx : Chs w A xs) :
    Calls Tryz.prog 5 #[.pointer (some ⟨p, 0, none⟩), .slice A xs.length c] w fun e w' => e = .returned (.tuple #[.int .i64 (turnAt a xs : Nat), .bool true]) ∧ Pl w' p S (.turns (xs.getD (turnAt a xs) (0, 0)).1) ∧ Chg S w w' := by
  obtain ⟨t, rfl, hpt, hB, hT⟩ := hP
  have hc := hB.cell 0
  simp at hc
  have HX := Lib.hid hx
  clear hx
  have HT := Lib.hid (turns_any t a A c xs w hn hm HX.out hT)
  generalize xs.length = n at HT hn hm ⊢
  have hne : ((n : Int) == 0) = false := by rw [beq_eq_false_iff_ne]; omega
  go_enter Tryz.func5, Tryz.ntmps5
  go_wp2_with (go_at_call 374; refine HT.out.mono ?_; rintro e w1 ⟨rfl, hb1, hc1⟩)
  go_ret2
  exact ⟨rfl, ⟨t, rfl, hpt, hB.chg hc1 (by simpa using hpt), hb1⟩, hc1.mono (by simp)⟩

set_option maxRecDepth 20000 in
set_option maxHeartbeats 400000 in
theorem next_lot (p : Nat) (S : List Nat) (x : Int) (A : Option Addr) (n c : Nat) (w : World) (hP : Pl w p S (.lot x)) (hn : 0 < n) (hm : n ≤ 140737488355328) :
    Calls Tryz.prog 5 #[.pointer (some ⟨p, 0, none⟩), .slice A n c] w fun e w' => e = .returned (.tuple #[.int .i64 (lotAt x n : Nat), .bool true]) ∧ Pl w' p S (.lot (lotNext x)) ∧ Chg S w w' := by
  obtain ⟨t, rfl, hpt, hB, hT⟩ := hP
  have hc := hB.cell 0
  simp at hc
  have HT := Lib.hid (lot_any t x A n c w hn hm hT)
  have hne : ((n : Int) == 0) = false := by rw [beq_eq_false_iff_ne]; omega
  go_enter Tryz.func5, Tryz.ntmps5
  go_wp2_with (go_at_call 376; refine HT.out.mono ?_; rintro e w1 ⟨rfl, hb1, hc1⟩)
  go_ret2
  exact ⟨rfl, ⟨t, rfl, hpt, hB.chg hc1 (by simpa using hpt), hb1⟩, hc1.mono (by simp)⟩

set_option maxRecDepth 20000 in
set_option maxHeartbeats 400000 in
theorem next_old (p : Nat) (S : List Nat) (nm : Nat) (f : Int → Int → Int) (A : Option Addr) (c : Nat) (xs : List (Int × Int)) (w : World) (hP : Pl w p S (.old nm f)) (hn : 0 < xs.length) (hm : xs.length ≤ 140737488355328) (hnm : nm < 1048576)
    (hw : ∀ p ∈ xs, (Lit.int .i64 p.1).wf = true ∧ (Lit.int .i64 p.2).wf = true) (hx : Chs w A xs) (ho : Off S A) :
    Calls Tryz.prog 5 #[.pointer (some ⟨p, 0, none⟩), .slice A xs.length c] w fun e w' => e = .returned (.tuple #[.int .i64 (oldTo f xs xs.length : Nat), .bool true]) ∧
      Pl w' p S (.old (nm + 1) (fun a c => if (a, c) = xs.getD (oldTo f xs xs.length) (0, 0) then ((nm + 1 : Nat) : Int) else f a c)) ∧ Chg S w w' := by
  obtain ⟨t, m, rfl, hpt, hpm, htm, hB, hT, hM⟩ := hP
  have hc := hB.cell 0
  simp at hc
  have HT := Lib.hid (old_any t m nm f A c xs w hn hm hnm htm hw hx (fun ad e => by have := ho ad e; simp at this ⊢; exact this.2) hT hM)
  clear hw hx ho hM
  generalize oldTo f xs xs.length = k at HT ⊢
  generalize (fun a c => if (a, c) = xs.getD k (0, 0) then ((nm + 1 : Nat) : Int) else f a c) = g at HT ⊢
  generalize xs.length = n at HT hn hm ⊢
  have hne : ((n : Int) == 0) = false := by rw [beq_eq_false_iff_ne]; omega
  go_enter Tryz.func5, Tryz.ntmps5
  go_wp2_with (go_at_call 378; refine HT.out.mono ?_; rintro e w1 ⟨rfl, hb1, hm1, hc1⟩)
  go_ret2
  exact ⟨rfl, ⟨t, m, rfl, hpt, hpm, htm, hB.chg hc1 (by simp; exact ⟨hpt, hpm⟩), hb1, hm1⟩, hc1.mono (by simp)⟩

set_option maxRecDepth 20000 in
set_option maxHeartbeats 400000 in
theorem next_empty' (p : Nat) (T : TypeId) (x : Value) (A : Option Addr) (c : Nat) (w : World) (hc : w.cell? ⟨p, 0, none⟩ = some (.iface T x)) :
    Calls Tryz.prog 5 #[.pointer (some ⟨p, 0, none⟩), .slice A 0 c] w fun e w' => e = .returned (.tuple #[.int .i64 0, .bool false]) ∧ Below w.heap.size w w' := by
  go_enter Tryz.func5, Tryz.ntmps5
  go_wp2
  go_ret2
  exact ⟨rfl, Below.refl _ _⟩

/-- One call of Next at an empty list. -/
theorem next_empty (p : Nat) (S : List Nat) (s : PS) (A : Option Addr) (c : Nat) (w : World) (hP : Pl w p S s) :
    Calls Tryz.prog 5 #[.pointer (some ⟨p, 0, none⟩), .slice A 0 c] w fun e w' => e = .returned (.tuple #[.int .i64 0, .bool false]) ∧ Below w.heap.size w w' := by
  cases s with
  | first => exact next_empty' p _ _ A c w (hP.2.cell 0)
  | last => exact next_empty' p _ _ A c w (hP.2.cell 0)
  | turns a => obtain ⟨t, _, _, h, _⟩ := hP; exact next_empty' p _ _ A c w (h.cell 0)
  | lot x => obtain ⟨t, _, _, h, _⟩ := hP; exact next_empty' p _ _ A c w (h.cell 0)
  | old n f => obtain ⟨t, m, _, _, _, _, h, _⟩ := hP; exact next_empty' p _ _ A c w (h.cell 0)

/-- One call of Next at a list that is not empty. -/
theorem next_any (p : Nat) (S : List Nat) (s : PS) (A : Option Addr) (c : Nat) (xs : List (Int × Int)) (w : World) (hP : Pl w p S s) (hs : s.ok) (hn : 0 < xs.length) (hm : xs.length ≤ 140737488355328)
    (hw : ∀ p ∈ xs, (Lit.int .i64 p.1).wf = true ∧ (Lit.int .i64 p.2).wf = true) (hx : Chs w A xs) (ho : Off S A) :
    Calls Tryz.prog 5 #[.pointer (some ⟨p, 0, none⟩), .slice A xs.length c] w fun e w' => e = .returned (.tuple #[.int .i64 ((s.next xs).1 : Nat), .bool true]) ∧ Pl w' p S (s.next xs).2 ∧ Chg S w w' := by
  cases s with
  | first => exact next_first p S A _ c w hP hn
  | last => exact next_last p S A _ c w hP hn hm
  | turns a => exact next_turns p S a A c xs w hP hn hm hx
  | lot x => exact next_lot p S x A _ c w hP hn hm
  | old n f => exact next_old p S n f A c xs w hP hn hm hs hw hx ho

end Go.Proofs.YthipgipmhjebmaaGreatDoor.Pol
