/- chordmaillaw25.choices in plain words; chordmaillaw25.stay. -/
import Derived.Test.YtfflfhkbnmoalaaPicChoices
import Derived.Test.YtfflfhkbnmoalaaPicCopy
import Derived.Deep.QuietTactic
import Derived.BigQuiet
namespace Go.Proofs.Ytfflfhkbnmoalaa.Pic
open Go.RowKit Go.Proofs.Ytfflfhkbnmoalaa.Pol Go.Proofs.Ytfflfhkbnmoalaa.PPolicyPicks
open Go.Proofs.YtfflfhkbnmoalaaW.PrintWords Go.Proofs.YtfflfhkbnmoalaaW.PrintLast Go.Proofs.YtfflfhkbnmoalaaW.PrintMore
set_option linter.unusedVariables false
set_option linter.unusedSimpArgs false

def row46 (p : S42 × Nat) : S46 := ⟨p.1.f0, p.1.f1, [(p.2 : Int)]⟩
def r46 (xs : List S42) : List S46 := xs.zipIdx.map row46
def r104 (xs : List S42) : List S104 := xs.map (fun p => (⟨p.f0, p.f1, []⟩ : S104))
def mark : S46 := ⟨-77, 0, []⟩
theorem r46_len (xs : List S42) : (r46 xs).length = xs.length := by simp [r46]
theorem r104_len (xs : List S42) : (r104 xs).length = xs.length := by simp [r104]
theorem r46_at (xs : List S42) (i : Nat) (h : i < xs.length) : (r46 xs)[i]? = some ⟨xs[i].f0, xs[i].f1, [(i : Int)]⟩ := by
  simp [r46, row46, List.getElem?_zipIdx, h]
theorem r104_at (xs : List S42) (i : Nat) (h : i < xs.length) : (r104 xs)[i]? = some ⟨xs[i].f0, xs[i].f1, []⟩ := by
  simp [r104, h]
theorem take_snoc {α : Type} (l : List α) (i : Nat) (x : α) (h : l[i]? = some x) : l.take i ++ [x] = l.take (i + 1) := by
  obtain ⟨hl, rfl⟩ := List.getElem?_eq_some_iff.1 h
  exact List.take_append_getElem hl
theorem w64n (n : Nat) (h : n ≤ 1000) : wrap64 ((n : Int) + 1) = ((n + 1 : Nat) : Int) := by unfold wrap64; omega

theorem choices_ok (xs : List S42) (hm : xs.length ≤ 400) : ∃ k, choicesM.f k xs = some (r46 xs ++ [mark], r104 xs) := by
  have go : ∀ (d i : Nat), i + d = xs.length → choicesM.l0 (d + 1) xs ((r46 xs).take i) ((r104 xs).take i) (i : Nat) = some (r46 xs ++ [mark], r104 xs) := by
    intro d
    induction d with
    | zero =>
      intro i hi
      obtain rfl : i = xs.length := by omega
      simp only [choicesM.l0]
      rw [if_neg (by omega)]
      have e1 : (r46 xs).take xs.length = r46 xs := List.take_of_length_le (by rw [r46_len]; exact Nat.le_refl _)
      have e2 : (r104 xs).take xs.length = r104 xs := List.take_of_length_le (by rw [r104_len]; exact Nat.le_refl _)
      rw [e1, e2, if_pos (by rw [r46_len]; omega), Option.bind_some, if_pos (by omega), if_pos (by rw [List.length_append, r46_len]; simp; omega)]
      rfl
    | succ d ih =>
      intro i hi
      have hlt : i < xs.length := by omega
      have h := ih (i + 1) (by omega)
      rw [choicesM.l0]
      rw [if_pos (by omega), if_pos (by omega), if_pos (by rw [List.length_take]; omega), if_pos (by rw [List.length_take]; omega)]
      have er : rd_T42 xs (i : Int) = xs[i] := by simp [rd_T42, hlt]
      rw [er, take_snoc _ _ _ (r46_at xs i hlt), take_snoc _ _ _ (r104_at xs i hlt), w64n i (by omega)]
      exact h
  exact ⟨xs.length + 1, go xs.length 0 (by omega)⟩

theorem choices_any (A0 : Option Addr) (c0 : Nat) (xs : List S42) (w : World) (hx : Kd.C k42 w A0 xs.length xs) (hc : xs.length ≤ c0) (hm : xs.length ≤ 400) :
    Calls Try.prog 21 #[.slice A0 xs.length c0] w fun e w' => ∃ (g c : Nat) (v : Value), e = .returned (.tuple #[.slice (some ⟨g, 0, none⟩) xs.length c, v]) ∧ xs.length + 1 ≤ c ∧
      Kd.R k46 46 w' w.heap.size (fun _ => True) (.slice (some ⟨g, 0, none⟩) (xs.length + 1) c) (r46 xs ++ [mark]) ∧ Kd.R k104 104 w' w.heap.size (fun _ => True) v (r104 xs) ∧ Below w.heap.size w w' := by
  obtain ⟨k, hk⟩ := choices_ok xs hm
  refine (choicesM.calls k A0 c0 xs _ _ w hx hc hk).mono ?_
  rintro e w' ⟨A, c, v, rfl, hl, hS, hS2, hb⟩
  have hR := Kd.S_R hS
  have hlen : (r46 xs ++ [mark]).length = xs.length + 1 := by simp [r46_len]
  obtain ⟨g, c', he, _⟩ := Kd.R_form hR (by rw [hlen]; omega)
  injection he with e1 e2 e3
  subst e1
  have := (Kd.R_reads' hR).2.1
  rw [hlen] at hR this
  exact ⟨g, c, v, rfl, this, hR, Kd.S_R hS2, hb⟩

theorem full_at (xs : List S42) (i : Nat) (h : i < xs.length) : (r46 xs ++ [mark])[i]? = some ⟨xs[i].f0, xs[i].f1, [(i : Int)]⟩ := by
  rw [List.getElem?_append_left (by rw [r46_len]; exact h)]
  exact r46_at xs i h
theorem full_end (xs : List S42) : (r46 xs ++ [mark])[xs.length]? = some mark := by
  rw [List.getElem?_append_right (by rw [r46_len]; exact Nat.le_refl _), r46_len]
  simp

set_option maxRecDepth 20000 in
set_option maxHeartbeats 2000000 in
theorem stay_any (g c : Nat) (A0 : Option Addr) (c0 : Nat) (xs : List S42) (w : World) (hC : Kd.C k46 w (some ⟨g, 0, none⟩) (xs.length + 1) (r46 xs ++ [mark])) (hc : xs.length + 1 ≤ c) (hX : Kd.C k42 w A0 xs.length xs) (hm : xs.length ≤ 400) :
    Calls Try.prog 23 #[.slice (some ⟨g, 0, none⟩) xs.length c, .slice A0 xs.length c0] w fun e w' => e = .returned (.bool true) ∧ Below w.heap.size w w' := by
  have hlen : (r46 xs ++ [mark]).length = xs.length + 1 := by simp [r46_len]
  obtain ⟨ad, A2, c2, e, hend, _⟩ := at_T46 hC (xs.length : Nat) (by omega) (by omega)
  obtain rfl : (⟨g, 0, none⟩ : Addr) = ad := by injection e
  have er : rd_T46 (r46 xs ++ [mark]) (xs.length : Nat) = mark := by
    have := full_end xs
    simp [rd_T46, List.getD, this]
  rw [er, Int.toNat_natCast] at hend
  have hend2 : w.cell? ⟨g, xs.length * 3, none⟩ = some (.int .i64 (-77)) := by
    have := hend
    simpa [mark, Go.Proofs.Ytfflfhkbnmoalaa.Pol.Fair.add0] using this
  clear hend er e
  have HC := Lib.hid hC
  have HX := Lib.hid hX
  clear hC hX
  have hcut9 : 0 ≤ (xs.length : Int) + 1 ∧ (xs.length : Int) + 1 ≤ (c : Int) := by omega
  have hlt9 : (xs.length : Int) < (xs.length : Int) + 1 := by omega
  have hb7 : (Value.int IntKind.i64 (-77)) = .int .i64 (-77) := rfl
  have hw1 : wrap64 ((xs.length : Int) + 1) = (xs.length : Int) + 1 := w64n xs.length (by omega)
  clear hb7
  go_enter Try.func23, Try.ntmps23
  go_wp2_with fail
  go_loopw [5] (fun i wr => ∃ n : Nat, n ≤ xs.length ∧ i = .int .i64 n ∧ Below w.heap.size w wr) (fun i _ => xs.length - (intOf i).toNat)
  case atStart => exact ⟨0, Nat.zero_le _, rfl, Below.refl _ _⟩
  case round =>
    obtain ⟨n, hn, rfl, hb⟩ := hrel
    by_cases hlt : n < xs.length
    · have b0 : decide ((n : Int) < (xs.length : Int)) = true := by simp; omega
      obtain ⟨ad, A2, c2, e, x0, x1, x2, hc2, hC2⟩ := at_T46 (Kd.C_below HC.out hb) n (by omega) (by omega)
      obtain rfl : (⟨g, 0, none⟩ : Addr) = ad := by injection e
      have er : rd_T46 (r46 xs ++ [mark]) (n : Nat) = ⟨xs[n].f0, xs[n].f1, [(n : Int)]⟩ := by
        have := full_at xs n hlt
        simp [rd_T46, List.getD, this]
      obtain ⟨ad0, e0, y0, y1⟩ := at_T42 (Kd.C_below HX.out hb) n (by omega) (by omega)
      subst e0
      have er2 : rd_T42 xs (n : Nat) = xs[n] := by simp [rd_T42, hlt]
      rw [er] at x0 x1 x2 hC2
      rw [er2] at y0 y1
      obtain ⟨ad2, cs2, e2, _, hK2, hz⟩ := Kd.C_get hC2 (0 : Int) 0 (by omega) (by simp)
      subst e2
      have hK3 : cs2 = [.int .i64 n] := hK2
      subst hK3
      have z0 : wr.cell? ad2 = some (.int .i64 n) := by
        have := hz 0 _ rfl
        simpa [Go.Proofs.Ytfflfhkbnmoalaa.Pol.Fair.add0, Addr.add] using this
      simp only [Int.toNat_natCast, List.length_cons, List.length_nil, Nat.zero_add, Go.Proofs.Ytfflfhkbnmoalaa.Pol.Fair.add0] at x0 x1 x2 y0 y1 hc2
      have b1 : (xs[n].f0 != xs[n].f0) = false := by simp
      have b2 : (xs[n].f1 != xs[n].f1) = false := by simp
      have b3 : ((n : Int) != (n : Int)) = false := by simp
      generalize xs[n] = x at x0 x1 y0 y1 b1 b2
      have hwn : wrap64 ((n : Int) + 1) = (n : Int) + 1 := w64n n (by omega)
      have HWN := Lib.hid hwn
      clear hz hK2 hC2 er er2 hcut9 hlt9 hw1 hwn hend2 hlen e
      go_upto_region 6 with fail
      go_quiet (fail)
      have hwn := HWN.out
      go_wp2_with fail
      go_roundw
      all_goals clear hwn
      case rel => exact ⟨n + 1, by omega, rfl, pw_below_drewN hb nq⟩
      case measure =>
        simp [intOf]
        omega
    · have b0 : decide ((n : Int) < (xs.length : Int)) = false := by simp; omega
      go_wp2_with fail
      go_ret
      exact ⟨rfl, hb⟩
end Go.Proofs.Ytfflfhkbnmoalaa.Pic
