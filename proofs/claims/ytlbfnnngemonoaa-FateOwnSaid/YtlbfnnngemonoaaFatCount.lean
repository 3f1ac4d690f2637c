/- (*chordmailref24.Book).Count. -/
import Derived.Test.YtlbfnnngemonoaaFatRFates
namespace Go.Proofs.Ytlbfnnngemonoaa.Fat
open Go.RowKit Go.Proofs.Ytlbfnnngemonoaa.PFateBooks
open Go.Proofs.YtlbfnnngemonoaaW.PrintWords Go.Proofs.YtlbfnnngemonoaaW.PrintLast Go.Proofs.YtlbfnnngemonoaaW.PrintMore
set_option linter.unusedVariables false
set_option linter.unusedSimpArgs false

/-- How many of the first k are in a state. -/
def cntTo (ts : List S134) (st : Int) : Nat → Nat
  | 0 => 0
  | k + 1 => cntTo ts st k + (if (gOf (ts.getD k z134) k).f1 = st then 1 else 0)
theorem cntTo_le (ts : List S134) (st : Int) : ∀ k, cntTo ts st k ≤ k
  | 0 => Nat.le_refl _
  | k + 1 => by
    have := cntTo_le ts st k
    rw [cntTo]
    split <;> omega
theorem GG_at (ts : List S134) (i : Nat) (h : i < ts.length) : (GG ts).getD i z137 = gOf (ts.getD i z134) i := by
  simp [GG, List.getD, h, List.getElem?_zipIdx]
theorem at_137 {w : World} {A : Option Addr} {ts : List S134} (h : Kd.C k137 w A ts.length (GG ts)) (i : Nat) (hi : i < ts.length) : ∃ ad, A = some ad ∧ w.cell? (ad.add (i * 5)) = some (.int .i64 (gOf (ts.getD i z134) i).f0) ∧ w.cell? ⟨(ad.add (i * 5)).block, (ad.add (i * 5)).off + 1, none⟩ = some (.int .i64 (gOf (ts.getD i z134) i).f1) ∧ w.cell? ⟨(ad.add (i * 5)).block, (ad.add (i * 5)).off + 2, none⟩ = some (.int .i64 (gOf (ts.getD i z134) i).f2) ∧ w.cell? ⟨(ad.add (i * 5)).block, (ad.add (i * 5)).off + 3, none⟩ = some (.int .i64 (gOf (ts.getD i z134) i).f3) ∧ w.cell? ⟨(ad.add (i * 5)).block, (ad.add (i * 5)).off + 4, none⟩ = some (.int .i64 (gOf (ts.getD i z134) i).f4) := by
  obtain ⟨ad, e, x0, x1, x2, x3, x4⟩ := at_T137 h i (by omega) (by omega)
  have er : rd_T137 (GG ts) (i : Nat) = gOf (ts.getD i z134) i := by
    unfold rd_T137
    rw [Int.toNat_natCast]
    exact GG_at ts i hi
  rw [er, Int.toNat_natCast] at x0 x1 x2 x3 x4
  exact ⟨ad, e, x0, x1, x2, x3, x4⟩

set_option maxRecDepth 20000 in
set_option maxHeartbeats 1000000 in
theorem rcount_nil (st : Int) (w : World) : Calls Try.prog 49 #[.pointer none, .int .i64 st] w fun e w' => e = .returned (.int .i64 0) ∧ Below w.heap.size w w' := by
  go_enter Try.func49, Try.ntmps49
  go_wp2_with fail
  refine (rfates_nil w).mono ?_
  rintro e w1 ⟨rfl, hb1⟩
  go_wp2_with fail
  go_loopw [5, 7] (fun v5 i W => v5 = .int .i64 0 ∧ i = .int .i64 0 ∧ Below w.heap.size w W) (fun _ i _ => 0)
  case atStart => exact ⟨rfl, rfl, hb1⟩
  case round =>
    obtain ⟨rfl, rfl, hb⟩ := hrel
    go_wp2_with fail
    go_ret
    exact ⟨rfl, hb⟩

set_option maxRecDepth 20000 in
set_option maxHeartbeats 1000000 in
theorem rcount_any (p : Nat) (S : List Nat) (ts : List S134) (n st : Int) (w : World) (hK : Rk w p S ts n) (hl : ts.length * 40 ≤ 140737488355328) :
    Calls Try.prog 49 #[.pointer (some ⟨p, 0, none⟩), .int .i64 st] w fun e w' => e = .returned (.int .i64 (cntTo ts st ts.length)) ∧ Below w.heap.size w w' := by
  have HF := Lib.hid (rfates_any p S ts n w hK hl)
  clear hK
  go_enter Try.func49, Try.ntmps49
  go_wp2_with fail
  refine HF.out.mono ?_
  rintro e w1 ⟨v, rfl, hR, hb1⟩
  obtain ⟨A, c, rfl⟩ := Kd.R_slice hR
  have hC := (Kd.R_reads' hR).2.2
  rw [GG_len] at hC ⊢
  have HC := Lib.hid hC
  clear hR hC HF
  go_wp2_with fail
  go_loopw [5, 7] (fun v5 i W => ∃ (k q : Nat), k ≤ ts.length ∧ i = .int .i64 k ∧ v5 = .int .i64 q ∧ q ≤ k ∧ Below w1.heap.size w1 W ∧ Hid (cntTo ts st k = q)) (fun _ i _ => ts.length - (intOf i).toNat)
  case atStart => exact ⟨0, 0, Nat.zero_le _, rfl, rfl, Nat.le_refl _, Below.refl _ _, Lib.hid rfl⟩
  case round =>
    obtain ⟨k, q, hk, rfl, rfl, hqk, hb, HQ⟩ := hrel
    by_cases hlt : k < ts.length
    · have b0 : decide ((k : Int) < (ts.length : Int)) = true := by simp; omega
      have hki : (k : Int) < (ts.length : Int) := by omega
      obtain ⟨ad, hA, _, y1, _, _, _⟩ := at_137 (Kd.C_below HC.out hb) k hlt
      subst hA
      have HQ2 : Hid (cntTo ts st (k + 1) = q + (if (gOf (ts.getD k z134) k).f1 = st then 1 else 0)) := Lib.hid (by rw [cntTo, HQ.out])
      generalize (gOf (ts.getD k z134) k).f1 = x at y1 HQ2
      have HWN : Hid (wrap64 ((k : Int) + 1) = ((k + 1 : Nat) : Int)) := Lib.hid (w64n k (by omega))
      have HWQ : Hid (wrap64 ((q : Int) + 1) = ((q + 1 : Nat) : Int)) := Lib.hid (w64n q (by omega))
      by_cases hx : x = st
      · have b1 : (x == st) = true := by simpa using hx
        have HQ3 : Hid (cntTo ts st (k + 1) = q + 1) := Lib.hid (by rw [HQ2.out, if_pos hx])
        clear hx
        go_wp2_with fail
        go_roundw
        case rel => exact ⟨k + 1, q + 1, by omega, by first | rfl | (rw [HWN.out]), by first | rfl | (rw [HWQ.out]), by omega, hb, HQ3⟩
        case measure =>
          first | rw [HWN.out] | skip
          simp [intOf]
          omega
      · have b1 : (x == st) = false := by simpa using hx
        have HQ3 : Hid (cntTo ts st (k + 1) = q) := Lib.hid (by rw [HQ2.out, if_neg hx]; rfl)
        clear hx
        go_wp2_with fail
        go_roundw
        case rel => exact ⟨k + 1, q, by omega, by first | rfl | (rw [HWN.out]), rfl, by omega, hb, HQ3⟩
        case measure =>
          first | rw [HWN.out] | skip
          simp [intOf]
          omega
    · have b0 : decide ((k : Int) < (ts.length : Int)) = false := by simp; omega
      obtain rfl : k = ts.length := by omega
      go_wp2_with fail
      go_ret
      rw [HQ.out]
      exact ⟨rfl, hb1.trans (hb.mono hb1.size)⟩
end Go.Proofs.Ytlbfnnngemonoaa.Fat
