/- (*chordmailref25.Policy).Next at a list that is not empty: the kinds 1 to 4. -/
import Derived.Test.YtfflfhkbnmoalaaPicRef2
namespace Go.Proofs.Ytfflfhkbnmoalaa.Pic
open Go.RowKit Go.Proofs.Ytfflfhkbnmoalaa.Pol Go.Proofs.Ytfflfhkbnmoalaa.PPolicyPicks
open Go.Proofs.YtfflfhkbnmoalaaW.PrintWords Go.Proofs.YtfflfhkbnmoalaaW.PrintLast Go.Proofs.YtfflfhkbnmoalaaW.PrintMore
set_option linter.unusedVariables false
set_option linter.unusedSimpArgs false

def pr (xs : List S42) : List (Int × Int) := xs.map (fun p => (p.f0, p.f1))
theorem pr_len (xs : List S42) : (pr xs).length = xs.length := by simp [pr]
theorem pr_at (xs : List S42) (i : Nat) (h : i < xs.length) : (pr xs).getD i (0, 0) = (xs[i].f0, xs[i].f1) := by simp [pr, List.getD, h]

theorem b_at {w : World} {A : Option Addr} {xs : List S42} (h : Kd.C k104 w A xs.length (r104 xs)) (i : Nat) (hi : i < xs.length) :
    ∃ ad, A = some ad ∧ w.cell? (ad.add (i * 3)) = some (.int .i64 ((pr xs).getD i (0, 0)).1) ∧ w.cell? ⟨(ad.add (i * 3)).block, (ad.add (i * 3)).off + 1, none⟩ = some (.int .i64 ((pr xs).getD i (0, 0)).2) := by
  obtain ⟨ad, A2, c2, e, x0, x1, _⟩ := at_T104 h i (by omega) (by omega)
  have er : rd_T104 (r104 xs) (i : Nat) = ⟨xs[i].f0, xs[i].f1, []⟩ := by
    have := r104_at xs i hi
    simp [rd_T104, List.getD, this]
  rw [er, Int.toNat_natCast] at x0 x1
  rw [pr_at xs i hi]
  exact ⟨ad, e, x0, x1⟩

/-- What one call of the document's Next leaves. -/
def RPost (w : World) (p : Nat) (S : List Nat) (k : Nat) (s' : RS) (e : Ending) (w' : World) : Prop :=
  e = .returned (.tuple #[.int .i64 k, .bool true]) ∧ ∃ S', Rf w' p S' s' ∧ Chg S w w' ∧ ∀ x ∈ S', x ∈ S ∨ w.heap.size ≤ x

theorem Rf.below {w w' : World} {p : Nat} {S : List Nat} {s : RS} (h : Rf w p S s) (hb : Below w.heap.size w w') : Rf w' p S s := by
  obtain ⟨v, e, hB, hR⟩ := h
  exact ⟨v, e, hB.below hb hB.lt, Kd.R_below hR hb⟩

set_option maxRecDepth 20000 in
set_option maxHeartbeats 1000000 in
theorem rnext_first (p : Nat) (S : List Nat) (s : RS) (A : Option Addr) (n c : Nat) (w : World) (hR : Rf w p S s) (hk : s.k = 1) (hn : 0 < n) :
    Calls Try.prog 22 #[.pointer (some ⟨p, 0, none⟩), .slice A n c] w (RPost w p S 0 s) := by
  have hR' := hR
  obtain ⟨v, _, hB, _⟩ := hR
  have hc : w.cell? ⟨p, 0, none⟩ = some (.int .i64 1) := by rw [← hk]; exact hB.cell 0
  have hne : ((n : Int) == 0) = false := by rw [beq_eq_false_iff_ne]; omega
  clear hB
  go_enter Try.func22, Try.ntmps22
  go_wp2_with fail
  go_ret2
  exact ⟨rfl, S, hR', Chg.refl _ _, fun x hx => .inl hx⟩

set_option maxRecDepth 20000 in
set_option maxHeartbeats 1000000 in
theorem rnext_last (p : Nat) (S : List Nat) (s : RS) (A : Option Addr) (n c : Nat) (w : World) (hR : Rf w p S s) (hk : s.k = 2) (hn : 0 < n) (hm : n ≤ 900) :
    Calls Try.prog 22 #[.pointer (some ⟨p, 0, none⟩), .slice A n c] w (RPost w p S (n - 1) s) := by
  have hR' := hR
  obtain ⟨v, _, hB, _⟩ := hR
  have hc : w.cell? ⟨p, 0, none⟩ = some (.int .i64 2) := by rw [← hk]; exact hB.cell 0
  have hne : ((n : Int) == 0) = false := by rw [beq_eq_false_iff_ne]; omega
  clear hB
  go_enter Try.func22, Try.ntmps22
  go_wp2_with fail
  go_ret2
  exact ⟨ret2_int (by omega), S, hR', Chg.refl _ _, fun x hx => .inl hx⟩

theorem lotAt_eq2 (x : Int) (n : Nat) (hn : 0 < n) (hm : n ≤ 900) : wrap64 ((IntKind.u64.wrap ((lotNext x).tdiv 8589934592)).tmod (n : Int)) = (lotAt x n : Int) := by
  have hb := lotNext_bd x
  rw [Int.tdiv_eq_ediv_of_nonneg hb.1]
  have e : IntKind.u64.wrap (lotNext x / 8589934592) = lotNext x / 8589934592 := by
    rw [IntKind.wrap_u64]
    omega
  rw [e]
  exact lotAt_eq x n hn (by omega)

/-- A store into one of its numbers. -/
theorem Rf_put {w : World} {p : Nat} {s : RS} {v : Value} (hB : Blk w p 103 (rcs s v)) (hR : Kd.R k107 107 w 0 (fun _ => True) v s.ps) (i : Nat) (u : Value) (s' : RS) (hs : (rcs s v).setIfInBounds i u = rcs s' v) (hp : s'.ps = s.ps) :
    Blk (w.setCell ⟨p, i, none⟩ u) p 103 (rcs s' v) ∧ Kd.R k107 107 (w.setCell ⟨p, i, none⟩ u) 0 (fun _ => True) v s'.ps := by
  refine ⟨hs ▸ hB.set_ i u, ?_⟩
  rw [hp]
  refine Kd.R_set hR hB (fun q hq => ?_) i u
  have hE : k107.E = [] := rfl
  rw [hE] at hq
  simp at hq
  omega

set_option maxRecDepth 20000 in
set_option maxHeartbeats 1000000 in
theorem rnext_lot (p : Nat) (S : List Nat) (s : RS) (A : Option Addr) (n c : Nat) (w : World) (hR : Rf w p S s) (hk : s.k = 4) (hn : 0 < n) (hm : n ≤ 900) :
    Calls Try.prog 22 #[.pointer (some ⟨p, 0, none⟩), .slice A n c] w (RPost w p S (lotAt s.x n) { s with x := lotNext s.x }) := by
  obtain ⟨v, rfl, hB, hRv⟩ := hR
  have hc : w.cell? ⟨p, 0, none⟩ = some (.int .i64 4) := by rw [← hk]; exact hB.cell 0
  have hc2 : w.cell? ⟨p, 2, none⟩ = some (.int .u64 s.x) := hB.cell 2
  have hf2 := hB.frozen 2
  have hne : ((n : Int) == 0) = false := by rw [beq_eq_false_iff_ne]; omega
  have hq := Lib.hid (lotAt_eq2 s.x n hn hm)
  have HB := Lib.hid hB
  have HR := Lib.hid hRv
  clear hB hRv
  go_enter Try.func22, Try.ntmps22
  go_wp2_with fail
  go_ret2
  obtain ⟨h1, h2⟩ := Rf_put HB.out HR.out 2 (.int .u64 (lotNext s.x)) { s with x := lotNext s.x } rfl rfl
  exact ⟨congrArg (fun z => Ending.returned (.tuple #[.int .i64 z, .bool true])) hq.out, _, ⟨v, rfl, h1, h2⟩, (Chg.refl _ _).setCell (.inl (by simp)) _, fun x hx => .inl hx⟩

/-- What the walk down has found, the places from n on seen. -/
def TR (a : Int) (l : List (Int × Int)) (n v : Nat) : Prop :=
  (v = 0 ∧ ∀ j, n ≤ j → j < l.length → (l.getD j (0, 0)).1 ≤ a) ∨ (n ≤ v ∧ v < l.length ∧ a < (l.getD v (0, 0)).1 ∧ ∀ j, n ≤ j → j < v → (l.getD j (0, 0)).1 ≤ a)
theorem TR.start (a : Int) (l : List (Int × Int)) : TR a l l.length 0 := .inl ⟨rfl, fun j h1 h2 => by omega⟩
theorem TR.hit {a : Int} {l : List (Int × Int)} {n v : Nat} (h : TR a l (n + 1) v) (hn : n < l.length) (hg : a < (l.getD n (0, 0)).1) : TR a l n n := .inr ⟨Nat.le_refl _, hn, hg, fun j h1 h2 => by omega⟩
theorem TR.miss {a : Int} {l : List (Int × Int)} {n v : Nat} (h : TR a l (n + 1) v) (hg : ¬ a < (l.getD n (0, 0)).1) : TR a l n v := by
  rcases h with ⟨h0, h⟩ | ⟨h0, h1, h2, h⟩
  · refine .inl ⟨h0, fun j hj hl => ?_⟩
    by_cases e : j = n
    · subst e; omega
    · exact h j (by omega) hl
  · refine .inr ⟨by omega, h1, h2, fun j hj hl => ?_⟩
    by_cases e : j = n
    · subst e; omega
    · exact h j (by omega) hl
theorem getD_of {l : List (Int × Int)} {j : Nat} {y d : Int} (h : l[j]? = some (y, d)) : l.getD j (0, 0) = (y, d) := by simp [List.getD, h]
theorem TR.done {a : Int} {l : List (Int × Int)} {v : Nat} (h : TR a l 0 v) : turnAt a l = v := by
  rcases h with ⟨rfl, h⟩ | ⟨_, h1, h2, h⟩
  · exact turnAt_none (fun j y d hj e => by have := h j (Nat.zero_le _) hj; rw [getD_of e] at this; exact this)
  · refine turnAt_hit h1 ?_ (fun j y d hj e => by have := h j (Nat.zero_le _) hj; rw [getD_of e] at this; exact this)
    have e : l.getD v (0, 0) = l[v] := by simp [List.getD, h1]
    rw [← e]
    exact h2
theorem TR.lt {a : Int} {l : List (Int × Int)} {n v : Nat} (h : TR a l n v) (hl : 0 < l.length) : v < l.length := by
  rcases h with ⟨rfl, _⟩ | ⟨_, h1, _⟩
  · exact hl
  · exact h1

set_option maxRecDepth 20000 in
set_option maxHeartbeats 1000000 in
theorem rnext_turns (p : Nat) (S : List Nat) (s : RS) (A : Option Addr) (c : Nat) (xs : List S42) (w : World) (hR : Rf w p S s) (hk : s.k = 3) (hn : 0 < xs.length) (hm : xs.length ≤ 900) (hx : Kd.C k104 w A xs.length (r104 xs)) :
    Calls Try.prog 22 #[.pointer (some ⟨p, 0, none⟩), .slice A xs.length c] w (RPost w p S (turnAt s.a (pr xs)) { s with a := ((pr xs).getD (turnAt s.a (pr xs)) (0, 0)).1 }) := by
  obtain ⟨v, rfl, hB, hRv⟩ := hR
  have hc : w.cell? ⟨p, 0, none⟩ = some (.int .i64 3) := by rw [← hk]; exact hB.cell 0
  have hne : ((xs.length : Int) == 0) = false := by rw [beq_eq_false_iff_ne]; omega
  have HB := Lib.hid hB
  have HR := Lib.hid hRv
  have HX := Lib.hid hx
  clear hB hRv hx
  go_enter Try.func22, Try.ntmps22
  go_wp2_with fail
  go_loopw [6, 7] (fun k6 i wr => ∃ (n v : Nat), n ≤ xs.length ∧ i = .int .i64 ((n : Int) - 1) ∧ k6 = .int .i64 v ∧ Below w.heap.size w wr ∧ Hid (TR s.a (pr xs) n v)) (fun _ i _ => ((intOf i) + 1).toNat)
  case atStart => exact ⟨xs.length, 0, Nat.le_refl _, rfl, rfl, Below.refl _ _, Lib.hid (by rw [← pr_len xs]; exact TR.start _ _)⟩
  case round =>
    clear hc
    obtain ⟨n, v6, hnl, rfl, rfl, hb, HT⟩ := hrel
    cases n with
    | zero =>
      have b0 : decide (((0 : Nat) : Int) - 1 ≥ 0) = false := by decide
      have hv := HT.out.lt (by rw [pr_len]; exact hn)
      rw [pr_len] at hv
      obtain ⟨ad, hA, x0, _⟩ := b_at (Kd.C_below HX.out hb) v6 hv
      subst hA
      have hBw := HB.out.below hb HB.out.lt
      have hf1 := hBw.frozen 1
      have hc1 : wr.cell? ⟨p, 1, none⟩ = some (.int .i64 s.a) := hBw.cell 1
      have hvn : decide ((v6 : Int) < (xs.length : Int)) = true := by simp; omega
      have HTd := Lib.hid HT.out.done
      have HRw := Lib.hid (Kd.R_below HR.out hb)
      have HBw := Lib.hid hBw
      clear hBw HT
      generalize hy : ((pr xs).getD v6 (0, 0)).1 = y at x0
      have HY := Lib.hid hy
      clear hy
      go_wp2_with fail
      go_ret2
      obtain ⟨h1, h2⟩ := Rf_put HBw.out HRw.out 1 (.int .i64 y) { s with a := y } rfl rfl
      unfold RPost
      rw [HTd.out, HY.out]
      exact ⟨rfl, _, ⟨v, rfl, h1, h2⟩, (Chg.of_below hb _).setCell (.inl (by simp)) _, fun x hx => .inl hx⟩
    | succ n =>
      have hlt : n < xs.length := by omega
      have e1 : (((n + 1 : Nat) : Int) - 1) = (n : Int) := by omega
      rw [e1]
      have b0 : decide ((n : Int) ≥ 0) = true := by simp
      obtain ⟨ad, hA, x0, _⟩ := b_at (Kd.C_below HX.out hb) n hlt
      subst hA
      have hBw := HB.out.below hb HB.out.lt
      have hc1 : wr.cell? ⟨p, 1, none⟩ = some (.int .i64 s.a) := hBw.cell 1
      clear hBw e1
      by_cases hg : s.a < ((pr xs).getD n (0, 0)).1
      · have HT2 := Lib.hid (HT.out.hit (by rw [pr_len]; exact hlt) hg)
        have b1 : decide (((pr xs).getD n (0, 0)).1 > s.a) = true := by simpa using hg
        clear hg HT
        generalize ((pr xs).getD n (0, 0)).1 = y at x0 b1
        go_upto_region 11 with fail
        go_quiet (fail)
        go_wp2_with fail
        go_roundw
        case rel => exact ⟨n, n, by omega, rfl, rfl, pw_below_drewN hb nq, HT2⟩
        case measure => simp [intOf]
      · have HT2 := Lib.hid (HT.out.miss hg)
        have b1 : decide (((pr xs).getD n (0, 0)).1 > s.a) = false := by simpa using hg
        clear hg HT
        generalize ((pr xs).getD n (0, 0)).1 = y at x0 b1
        go_upto_region 11 with fail
        go_quiet (fail)
        go_wp2_with fail
        go_roundw
        case rel => exact ⟨n, v6, by omega, rfl, rfl, pw_below_drewN hb nq, HT2⟩
        case measure => simp [intOf]
end Go.Proofs.Ytfflfhkbnmoalaa.Pic
