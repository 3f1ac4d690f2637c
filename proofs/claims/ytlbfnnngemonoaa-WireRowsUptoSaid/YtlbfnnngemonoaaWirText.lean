/- The document's Reading: text. -/
import Derived.Test.YtlbfnnngemonoaaWirNum
namespace Go.Proofs.Ytlbfnnngemonoaa.Wir
open Go.RowKit Go.Proofs.Ytlbfnnngemonoaa.PWireReads
open Go.Proofs.Ytlbfnnngemonoaa.Fat (Blk Chg Off)
open Go.Proofs.YtlbfnnngemonoaaW.PrintWords Go.Proofs.YtlbfnnngemonoaaW.PrintLast Go.Proofs.YtlbfnnngemonoaaW.PrintMore
set_option linter.unusedVariables false
set_option linter.unusedSimpArgs false
section
variable {w0 w : World} {g at0 : Nat} {L : List Int} {bad : Bool}
theorem RS.drewN (h : IsS62 w0 w g L at0 bad) (hb : Below w0.heap.size w0 w) (n : Nat) : RS w0 w (w.drewN n) g L at0 bad := by
  obtain ⟨A0, c0, h1, h2, h3⟩ := h
  exact ⟨⟨A0, c0, h1, h2, h3⟩, pw_below_drewN hb n, keep_drewN (KeepBut.refl _ _ _) n⟩
theorem RS.more {w1 : World} (h : RS w0 w w1 g L at0 bad) (n : Nat) : RS w0 w (w1.drewN n) g L at0 bad := h.trans (RS.drewN h.1 h.2.1 n)
theorem RS.set_1 {w1 : World} (h : RS w0 w w1 g L at0 bad) (x : Nat) : RS w0 w (w1.setCell ⟨g, 1, none⟩ (.int .i64 x)) g L x bad :=
  ⟨h.1.set_1 x, h.2.1.setCell h.1.ge _, h.2.2.set_ 1 _⟩

set_option maxRecDepth 20000 in
set_option maxHeartbeats 1000000 in
theorem text_bad (hI : IsS62 w0 w g L at0 bad) (hb : Below w0.heap.size w0 w) (size : Nat) (h : bad = true ∨ L.length < at0 + size) (ha : at0 ≤ L.length) (hl : L.length ≤ 140737488355328) :
    Calls Try.prog 58 #[.pointer (some ⟨g, 0, none⟩), .int .i64 size] w fun e w' => e = .returned (.string ByteArray.empty) ∧ RS w0 w w' g L at0 true := by
  have HI := Lib.hid hI
  have HB := Lib.hid hb
  have hf := (rs_cell hI).2
  obtain ⟨A0, c0, h1, h2, h3⟩ := hI
  have z0 := cellS62_0 h1
  have z1 := cellS62_1 h1
  have z2 := cellS62_2 h1
  have hlt : IntKind.i64.wrap ((L.length : Int) - (at0 : Int)) = (L.length : Int) - (at0 : Int) := by rw [IntKind.wrap_i64]; omega
  cases bad with
  | true =>
    clear h h1 h2 h3 hb hlt
    go_enter Try.func58, Try.ntmps58
    go_upto_region 1 with fail
    go_quiet (fail)
    go_wp2_with fail
    go_ret
    exact ⟨rfl, (RS.drewN HI.out HB.out nq).set_2 true⟩
  | false =>
    have hs : L.length < at0 + size := by simpa using h
    have hd : decide ((L.length : Int) - (at0 : Int) < (size : Int)) = true := by simp; omega
    clear h h1 h2 h3 hb hs
    go_enter Try.func58, Try.ntmps58
    go_upto_region 1 with fail
    go_quiet (fail)
    go_wp2_with fail
    go_ret
    exact ⟨rfl, (RS.drewN HI.out HB.out nq).set_2 true⟩
set_option maxRecDepth 20000 in
set_option maxHeartbeats 1000000 in
theorem text_ok (hI : IsS62 w0 w g L at0 false) (hb : Below w0.heap.size w0 w) (size : Nat) (hs : at0 + size ≤ L.length) (hl : L.length ≤ 140737488355328) :
    Calls Try.prog 58 #[.pointer (some ⟨g, 0, none⟩), .int .i64 size] w fun e w' => e = .returned (.string (strOfNums ((L.take (at0 + size)).drop at0))) ∧ RS w0 w w' g L (at0 + size) false := by
  have HI := Lib.hid hI
  have HB := Lib.hid hb
  obtain ⟨A0, c0, h1, h2, h3, hcap⟩ := hI
  have z0 := cellS62_0 h1
  have z1 := cellS62_1 h1
  have z2 := cellS62_2 h1
  have zf := Fat.Blk.frozen (show Blk w g 62 _ from h1) 1
  have hlt : IntKind.i64.wrap ((L.length : Int) - (at0 : Int)) = (L.length : Int) - (at0 : Int) := by rw [IntKind.wrap_i64]; omega
  have hla : IntKind.i64.wrap ((at0 : Int) + (size : Int)) = (at0 : Int) + (size : Int) := by rw [IntKind.wrap_i64]; omega
  have hd : decide ((L.length : Int) - (at0 : Int) < (size : Int)) = false := by simp; omega
  obtain ⟨A1, c1, hm0, hm1, hmC⟩ := cutMid A0 c0 L w (Kd.C_below h3 hb) hcap at0 (at0 + size) (by omega) hs
  have hmid : ∀ W : World, (Instr.slice 45 (.slice A0 L.length c0) (some (.int .i64 at0)) (some (.int .i64 ((at0 : Int) + (size : Int)))) none).run Try.prog W = .ok (.slice A1 ((L.take (at0 + size)).drop at0).length c1) W := hm0
  have HM := Lib.hid hmC
  clear h1 h2 h3 hb hm0 hm1 hmC hcap
  generalize hsd : strOfNums ((L.take (at0 + size)).drop at0) = s
  have HSD := Lib.hid hsd
  clear hsd
  go_enter Try.func58, Try.ntmps58
  go_upto_region 1 with fail
  go_quiet (fail)
  go_wp2_with fail
  have hstr2 := fun n => Kd.C_string (P := Try.prog) (src := 45) (dst := 9) (c := c1) Try.underlying45 Try.underlying5 Try.underlying9 (Kd.C_drewN (Kd.C_drewN HM.out nq) n)
  generalize hw2 : w.drewN nq = w2 at hstr2 ⊢
  have y0 : w2.cell? ⟨g, 0, none⟩ = some (.slice A0 L.length c0) := by rw [← hw2]; exact z0
  have y1 : w2.cell? ⟨g, 1, none⟩ = some (.int .i64 at0) := by rw [← hw2]; exact z1
  have y2 : w2.cell? ⟨g, 2, none⟩ = some (.bool false) := by rw [← hw2]; exact z2
  have yf : w2.frozen? ⟨g, 1, none⟩ = false := by rw [← hw2]; exact zf
  have HR := Lib.hid (RS.drewN HI.out HB.out nq)
  rw [hw2] at HR
  rw [HSD.out] at hstr2
  clear HSD
  generalize ((L.take (at0 + size)).drop at0).length = m1 at hmid hstr2
  clear z0 z1 z2 zf hw2
  go_quiet (fail)
  go_wp2_with fail
  go_ret
  exact ⟨rfl, RS.set_1 (HR.out.more _) (at0 + size)⟩
end
end Go.Proofs.Ytlbfnnngemonoaa.Wir
