/- chordmailref25: New, when, Next at nothing. -/
import Derived.Test.YtfflfhkbnmoalaaPicStay
namespace Go.Proofs.Ytfflfhkbnmoalaa.Pic
open Go.RowKit Go.Proofs.Ytfflfhkbnmoalaa.Pol Go.Proofs.Ytfflfhkbnmoalaa.PPolicyPicks
open Go.Proofs.YtfflfhkbnmoalaaW.PrintWords Go.Proofs.YtfflfhkbnmoalaaW.PrintLast Go.Proofs.YtfflfhkbnmoalaaW.PrintMore
set_option linter.unusedVariables false
set_option linter.unusedSimpArgs false

/-- What the document's policy keeps. -/
structure RS where
  k : Int
  a : Int
  x : Int
  n : Int
  ps : List S107

/-- Its cells, v the row of pairs. -/
def rcs (s : RS) (v : Value) : Array Value := #[.int .i64 s.k, .int .i64 s.a, .int .u64 s.x, .int .i64 s.n, v]
/-- Pointer p is the document's policy; S: the blocks that are its own. -/
def Rf (w : World) (p : Nat) (S : List Nat) (s : RS) : Prop :=
  ∃ v, S = p :: v.ownBlock.toList ∧ Blk w p 103 (rcs s v) ∧ Kd.R k107 107 w 0 (fun _ => True) v s.ps

/-- The number of a pair, among the first n. -/
def whenTo (ps : List S107) (a c : Int) : Nat → Int
  | 0 => 0
  | n + 1 => if (ps.getD n z107).f0 = a ∧ (ps.getD n z107).f1 = c then (ps.getD n z107).f2 else whenTo ps a c n
def whenOf (ps : List S107) (a c : Int) : Int := whenTo ps a c ps.length
theorem whenTo_app (ps : List S107) (q : S107) (a c : Int) : ∀ n, n ≤ ps.length → whenTo (ps ++ [q]) a c n = whenTo ps a c n
  | 0, _ => rfl
  | n + 1, h => by
    have e : (ps ++ [q]).getD n z107 = ps.getD n z107 := by
      simp only [List.getD]
      rw [List.getElem?_append_left (by omega)]
    rw [whenTo, whenTo, e, whenTo_app ps q a c n (by omega)]
theorem whenOf_snoc (ps : List S107) (q : S107) (a c : Int) : whenOf (ps ++ [q]) a c = if q.f0 = a ∧ q.f1 = c then q.f2 else whenOf ps a c := by
  unfold whenOf
  rw [List.length_append, List.length_singleton, whenTo]
  have e : (ps ++ [q]).getD ps.length z107 = q := by simp [List.getD]
  rw [e, whenTo_app ps q a c ps.length (Nat.le_refl _)]

theorem w64m (n : Nat) (h0 : 0 < n) (h : n ≤ 1000) : wrap64 ((n : Int) - 1) = ((n - 1 : Nat) : Int) := by unfold wrap64; omega
theorem w64z : wrap64 ((0 : Int) - 1) = -1 := by unfold wrap64; omega

set_option maxRecDepth 20000 in
theorem rnew_bad (k seed : Int) (w : World) (h : k < 1 ∨ 5 < k) :
    Calls Try.prog 20 #[.int .i64 k, .int .u64 seed] w fun e w' => e = .returned (.tuple #[.pointer none, .int .i64 2]) ∧ Below w.heap.size w w' := by
  by_cases h1 : k < 1
  · have b1 : decide (k < 1) = true := by simpa using h1
    clear h h1
    go_enter Try.func20, Try.ntmps20
    go_wp2_with fail
    go_ret2
    exact ⟨rfl, Below.refl _ _⟩
  · have b1 : decide (k < 1) = false := by simpa using h1
    have b2 : decide (k > 5) = true := by simp; omega
    clear h h1
    go_enter Try.func20, Try.ntmps20
    go_wp2_with fail
    go_ret2
    exact ⟨rfl, Below.refl _ _⟩
set_option maxRecDepth 20000 in
theorem rnew_ok (k seed : Int) (w : World) (h : 1 ≤ k) (h5 : k ≤ 5) :
    Calls Try.prog 20 #[.int .i64 k, .int .u64 seed] w fun e w' => ∃ (p : Nat) (S : List Nat), e = .returned (.tuple #[.pointer (some ⟨p, 0, none⟩), .int .i64 0]) ∧ Rf w' p S ⟨k, -1, seed, 0, []⟩ ∧ (∀ x ∈ S, w.heap.size ≤ x) ∧ Below w.heap.size w w' := by
  have b1 : decide (k < 1) = false := by simp; omega
  have b2 : decide (k > 5) = false := by simp; omega
  clear h h5
  go_enter Try.func20, Try.ntmps20
  go_wp2_with fail
  go_ret2
  exact ⟨w.heap.size, [w.heap.size], rfl, ⟨.slice none 0 0, rfl, Blk.new w _ _, Kd.R_nil _ _ _ _ _⟩, by simp, (Below.refl _ _).alloc (Nat.le_refl _) _⟩

set_option maxRecDepth 20000 in
theorem rnext_nil (A : Option Addr) (n c : Nat) (w : World) :
    Calls Try.prog 22 #[.pointer none, .slice A n c] w fun e w' => e = .returned (.tuple #[.int .i64 0, .bool false]) ∧ Below w.heap.size w w' := by
  go_enter Try.func22, Try.ntmps22
  go_wp2_with fail
  go_ret2
  exact ⟨rfl, Below.refl _ _⟩
set_option maxRecDepth 20000 in
theorem rnext_empty (p : Nat) (A : Option Addr) (c : Nat) (w : World) :
    Calls Try.prog 22 #[.pointer (some ⟨p, 0, none⟩), .slice A 0 c] w fun e w' => e = .returned (.tuple #[.int .i64 0, .bool false]) ∧ Below w.heap.size w w' := by
  go_enter Try.func22, Try.ntmps22
  go_wp2_with fail
  go_ret2
  exact ⟨rfl, Below.refl _ _⟩

set_option maxRecDepth 20000 in
set_option maxHeartbeats 1000000 in
theorem when_any (p : Nat) (s : RS) (A : Option Addr) (c : Nat) (a1 a2 : Int) (w : World) (hB : Blk w p 103 (rcs s (.slice A s.ps.length c))) (hC : Kd.C k107 w A s.ps.length s.ps) (hm : s.ps.length ≤ 900) :
    Calls Try.prog 34 #[.pointer (some ⟨p, 0, none⟩), .int .i64 a1, .int .i64 a2] w fun e w' => e = .returned (.int .i64 (whenOf s.ps a1 a2)) ∧ Below w.heap.size w w' := by
  have hc4 : w.cell? ⟨p, 4, none⟩ = some (.slice A s.ps.length c) := hB.cell 4
  have HC := Lib.hid hC
  have HB := Lib.hid hB
  clear hC hB
  generalize hps : s.ps = ps at *
  clear hps
  go_enter Try.func34, Try.ntmps34
  go_wp2_with fail
  go_loopw [7] (fun i wr => ∃ n : Nat, n ≤ ps.length ∧ i = .int .i64 ((n : Int) - 1) ∧ wr = w ∧ Hid (whenTo ps a1 a2 n = whenOf ps a1 a2)) (fun i _ => ((intOf i) + 1).toNat)
  case atStart => exact ⟨ps.length, Nat.le_refl _, rfl, rfl, Lib.hid rfl⟩
  case round =>
    obtain ⟨n, hn, rfl, hwr, HT⟩ := hrel
    subst hwr
    cases n with
    | zero =>
      have b0 : decide (((0 : Nat) : Int) - 1 ≥ 0) = false := by decide
      have ht := HT.out
      rw [whenTo] at ht
      go_wp2_with fail
      go_ret
      rw [ht]
      exact ⟨rfl, Below.refl _ _⟩
    | succ n =>
      have hlt : n < ps.length := by omega
      have e1 : (((n + 1 : Nat) : Int) - 1) = (n : Int) := by omega
      rw [e1]
      have b0 : decide ((n : Int) ≥ 0) = true := by simp
      obtain ⟨ad, hA, x0, x1, x2⟩ := at_T107 HC.out n (by omega) (by omega)
      subst hA
      have er : rd_T107 ps (n : Int) = ps.getD n z107 := by simp [rd_T107]
      rw [er, Int.toNat_natCast] at x0 x1 x2
      have ht := HT.out
      rw [whenTo] at ht
      have HT2 := Lib.hid ht
      clear ht er HT
      generalize ps.getD n z107 = q at x0 x1 x2 HT2
      have b9 : decide ((n : Int) < (ps.length : Int)) = true := by simp; omega
      by_cases c0 : q.f0 = a1
      · have b1 : (q.f0 == a1) = true := by simpa using c0
        by_cases c1 : q.f1 = a2
        · have b2 : (q.f1 == a2) = true := by simpa using c1
          have ht := HT2.out
          rw [if_pos ⟨c0, c1⟩] at ht
          have HT3 := Lib.hid ht
          clear ht c0 c1 e1
          go_wp2_with fail
          go_ret
          rw [HT3.out]
          exact ⟨rfl, Below.refl _ _⟩
        · have b2 : (q.f1 == a2) = false := by simpa using c1
          have ht := HT2.out
          rw [if_neg (fun h => c1 h.2)] at ht
          have HT3 := Lib.hid ht
          clear ht c0 c1 e1
          go_wp2_with fail
          go_roundw
          case rel => exact ⟨n, by omega, rfl, by trivial, HT3⟩
          case measure => simp [intOf]
      · have b1 : (q.f0 == a1) = false := by simpa using c0
        have ht := HT2.out
        rw [if_neg (fun h => c0 h.1)] at ht
        have HT3 := Lib.hid ht
        clear ht c0 e1
        go_wp2_with fail
        go_roundw
        case rel => exact ⟨n, by omega, rfl, by trivial, HT3⟩
        case measure => simp [intOf]
end Go.Proofs.Ytfflfhkbnmoalaa.Pic
