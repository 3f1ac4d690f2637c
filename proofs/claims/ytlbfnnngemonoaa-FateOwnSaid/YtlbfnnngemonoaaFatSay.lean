/- chordmaillaw24.told: like books tell the same. -/
import Derived.Test.YtlbfnnngemonoaaFatCmp
namespace Go.Proofs.Ytlbfnnngemonoaa.Fat
open Go.RowKit Go.Proofs.Ytlbfnnngemonoaa.PFateBooks
open Go.Proofs.YtlbfnnngemonoaaW.PrintWords Go.Proofs.YtlbfnnngemonoaaW.PrintLast Go.Proofs.YtlbfnnngemonoaaW.PrintMore
set_option linter.unusedVariables false
set_option linter.unusedSimpArgs false
theorem Bk.below {w w' : World} {p : Nat} {S : List Nat} {ts : List S134} {n : Int} (h : Bk w p S ts n) (hb : Below w.heap.size w w') : Bk w' p S ts n := by
  obtain ⟨v, e, hB, hR⟩ := h
  exact ⟨v, e, hB.below hb hB.lt, Kd.R_below hR hb⟩
theorem Rk.below {w w' : World} {p : Nat} {S : List Nat} {ts : List S134} {n : Int} (h : Rk w p S ts n) (hb : Below w.heap.size w w') : Rk w' p S ts n := by
  obtain ⟨v, e, hB, hR⟩ := h
  exact ⟨v, e, hB.below hb hB.lt, Kd.R_below hR hb⟩

set_option maxRecDepth 20000 in
set_option maxHeartbeats 2000000 in
theorem told_any (p d : Nat) (S T : List Nat) (ts : List S134) (n : Int) (w : World) (hK : Bk w p S ts n) (hR : Rk w d T ts n) (hl : ts.length * 40 ≤ 140737488355328) :
    Calls Try.prog 12 #[.pointer (some ⟨p, 0, none⟩), .pointer (some ⟨d, 0, none⟩)] w fun e w' => e = .returned (.bool true) ∧ Below w.heap.size w w' := by
  have HK := Lib.hid hK
  have HR := Lib.hid hR
  clear hK hR
  go_enter Try.func12, Try.ntmps12
  go_wp2_with fail
  refine (counts_any p S ts n w HK.out hl).mono ?_
  rintro e w1 ⟨rfl, hb1⟩
  go_wp2_with fail
  refine (fates_any p S ts n w1 (HK.out.below hb1) hl).mono ?_
  rintro e w2 ⟨v, rfl, hV, hb2⟩
  have hb2' := hb1.trans (hb2.mono hb1.size)
  go_wp2_with fail
  refine (rfates_any d T ts n w2 (HR.out.below hb2') hl).mono ?_
  rintro e w3 ⟨u, rfl, hU, hb3⟩
  have hb3' := hb2'.trans (hb3.mono hb2'.size)
  obtain ⟨A, c, rfl⟩ := Kd.R_slice hV
  obtain ⟨B, c', rfl⟩ := Kd.R_slice hU
  have hCV := (Kd.R_reads' (Kd.R_below hV hb3)).2.2
  have hCU := (Kd.R_reads' hU).2.2
  rw [FF_len] at hCV ⊢
  rw [GG_len] at hCU ⊢
  have HF := Lib.hid (fates_same ts A B c c' w3 hCV hCU (by omega))
  clear hV hU hCV hCU
  go_wp2_with fail
  refine HF.out.mono ?_
  rintro e w4 ⟨rfl, hb4⟩
  have hb4' := hb3'.trans (hb4.mono hb3'.size)
  go_wp2_with fail
  refine (rcount_any d T ts n 1 w4 (HR.out.below hb4') hl).mono ?_
  rintro e w5 ⟨rfl, hb5⟩
  have hb5' := hb4'.trans (hb5.mono hb4'.size)
  have q1 : (((cntTo ts 1 ts.length : Nat) : Int) == ((cntTo ts 1 ts.length : Nat) : Int)) = true := by simp
  have q2 : (((cntTo ts 2 ts.length : Nat) : Int) == ((cntTo ts 2 ts.length : Nat) : Int)) = true := by simp
  have q3 : (((cntTo ts 3 ts.length : Nat) : Int) == ((cntTo ts 3 ts.length : Nat) : Int)) = true := by simp
  go_wp2_with fail
  refine (rcount_any d T ts n 2 w5 (HR.out.below hb5') hl).mono ?_
  rintro e w6 ⟨rfl, hb6⟩
  have hb6' := hb5'.trans (hb6.mono hb5'.size)
  go_wp2_with fail
  refine (rcount_any d T ts n 3 w6 (HR.out.below hb6') hl).mono ?_
  rintro e w7 ⟨rfl, hb7⟩
  have hb7' := hb6'.trans (hb7.mono hb6'.size)
  go_wp2_with fail
  go_ret
  exact ⟨rfl, hb7'⟩

set_option maxRecDepth 20000 in
set_option maxHeartbeats 2000000 in
theorem told_nil (w : World) : Calls Try.prog 12 #[.pointer none, .pointer none] w fun e w' => e = .returned (.bool true) ∧ Below w.heap.size w w' := by
  go_enter Try.func12, Try.ntmps12
  go_wp2_with fail
  refine (counts_nil w).mono ?_
  rintro e w1 ⟨rfl, hb1⟩
  go_wp2_with fail
  refine (fates_nil w1).mono ?_
  rintro e w2 ⟨rfl, hb2⟩
  have hb2' := hb1.trans (hb2.mono hb1.size)
  go_wp2_with fail
  refine (rfates_nil w2).mono ?_
  rintro e w3 ⟨rfl, hb3⟩
  have hb3' := hb2'.trans (hb3.mono hb2'.size)
  go_wp2_with fail
  refine (fates_same [] none none 0 0 w3 (Kd.C_nil _ _) (Kd.C_nil _ _) (by simp)).mono ?_
  rintro e w4 ⟨rfl, hb4⟩
  have hb4' := hb3'.trans (hb4.mono hb3'.size)
  go_wp2_with fail
  refine (rcount_nil 1 w4).mono ?_
  rintro e w5 ⟨rfl, hb5⟩
  have hb5' := hb4'.trans (hb5.mono hb4'.size)
  go_wp2_with fail
  refine (rcount_nil 2 w5).mono ?_
  rintro e w6 ⟨rfl, hb6⟩
  have hb6' := hb5'.trans (hb6.mono hb5'.size)
  go_wp2_with fail
  refine (rcount_nil 3 w6).mono ?_
  rintro e w7 ⟨rfl, hb7⟩
  have hb7' := hb6'.trans (hb7.mono hb6'.size)
  go_wp2_with fail
  go_ret
  exact ⟨rfl, hb7'⟩
end Go.Proofs.Ytlbfnnngemonoaa.Fat
