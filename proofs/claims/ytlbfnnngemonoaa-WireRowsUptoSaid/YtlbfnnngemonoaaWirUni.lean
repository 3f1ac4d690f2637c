/- The readers' contracts in one form, whether they read or refused. -/
import Derived.Test.YtlbfnnngemonoaaWirVals
import Derived.Test.YtlbfnnngemonoaaWirRM
namespace Go.Proofs.Ytlbfnnngemonoaa.Wir
open Go.RowKit Go.Proofs.Ytlbfnnngemonoaa.PWireReads
open Go.Proofs.Ytlbfnnngemonoaa.Fat (Blk Chg Off)
open Go.Proofs.YtlbfnnngemonoaaW.PrintWords Go.Proofs.YtlbfnnngemonoaaW.PrintLast Go.Proofs.YtlbfnnngemonoaaW.PrintMore
set_option linter.unusedVariables false
set_option linter.unusedSimpArgs false

def oN {α : Type} : Option (α × Nat) → Int
  | some (_, n) => n
  | none => 0
def oE {α : Type} : Option (α × Nat) → Int
  | some _ => 0
  | none => 110
def oV : Option (V × Nat) → V
  | some (v, _) => v
  | none => zV
def oP : Option (List V × Nat) → List V
  | some (v, _) => v
  | none => []
def oM : Option (M × Nat) → M
  | some (v, _) => v
  | none => ⟨0, ByteArray.empty, []⟩
/-- Where a Reading stands at its end. -/
def End {α : Type} (o : Option (α × Nat)) (at1 : Nat) (b1 : Bool) : Prop := (if b1 = true then (0 : Int) else (at1 : Int)) = oN o ∧ (if b1 = true then (110 : Int) else 0) = oE o
theorem readV_u (A : Option Addr) (c : Nat) (l : List Int) (w : World) (hC : Kd.C (Kd.int .u8) w A l.length l) (hc : l.length ≤ c) (hB : By l) :
    Calls Try.prog 18 #[.slice A l.length c] w fun e w' => e = .returned (.tuple #[ag (oV (rdV l)), .int .i64 (oN (rdV l)), .int .i64 (oE (rdV l))]) ∧ Below w.heap.size w w' := by
  refine (readV_any A c l w hC hc hB).mono fun e w' h => ?_
  rcases hr : rdV l with _ | ⟨v, n⟩ <;> rw [hr] at h <;> exact h
theorem sam_oV (l : List Int) (W : World) : Calls Try.prog 25 #[ag (oV (rdV l)), ag (oV (rdV l))] W fun e w' => e = .returned (.bool true) ∧ Below W.heap.size W w' := by
  rcases hr : rdV l with _ | ⟨v, n⟩
  · exact sam_zero W
  · exact sam_self v (rdV_good _ _ _ hr).1 W
theorem rvec_slice {e : Nat} {w : World} {base : Nat} {v : Value} {vs : List V} (h : Kd.R kV e w base (fun _ => True) v vs) : ∃ A c, v = .slice A vs.length c := Kd.R_slice h
theorem readP_u (A : Option Addr) (c : Nat) (l : List Int) (w : World) (hC : Kd.C (Kd.int .u8) w A l.length l) (hc : l.length ≤ c) (hB : By l) (hl : l.length ≤ 140737488355328) :
    Calls Try.prog 19 #[.slice A l.length c] w fun e w' => ∃ A1 c1, e = .returned (.tuple #[.slice A1 (oP (rdP l)).length c1, .int .i64 (oN (rdP l)), .int .i64 (oE (rdP l))]) ∧ Kd.R kV 50 w' w.heap.size (fun _ => True) (.slice A1 (oP (rdP l)).length c1) (oP (rdP l)) ∧ Below w.heap.size w w' := by
  refine (readP_any A c l w hC hc hB hl).mono fun e w' h => ?_
  obtain ⟨hb, h⟩ := h
  rcases hr : rdP l with _ | ⟨vs, n⟩ <;> rw [hr] at h
  · exact ⟨none, 0, h, Kd.R_nil _ _ _ _ _, hb⟩
  · obtain ⟨v, h, hR⟩ := h
    obtain ⟨A1, c1, rfl⟩ := rvec_slice hR
    exact ⟨A1, c1, h, hR, hb⟩
theorem oP_good (l : List Int) : (∀ v ∈ oP (rdP l), Good v) ∧ (oP (rdP l)).length ≤ 4096 := by
  rcases hr : rdP l with _ | ⟨vs, n⟩
  · exact ⟨by simp [oP], by simp [oP]⟩
  · have h := rdP_good _ _ _ hr
    exact ⟨h.1, by have := h.2.1; simp only [oP]; omega⟩
theorem readM_u (A : Option Addr) (c : Nat) (l : List Int) (w : World) (hC : Kd.C (Kd.int .u8) w A l.length l) (hc : l.length ≤ c) (hB : By l) (hl : l.length ≤ 140737488355328) :
    Calls Try.prog 20 #[.slice A l.length c] w fun e w' => ∃ A1 c1, e = .returned (.tuple #[.agg #[.int .i64 (oM (rdM l)).id, .string (oM (rdM l)).tag, .slice A1 (oM (rdM l)).pl.length c1], .int .i64 (oN (rdM l)), .int .i64 (oE (rdM l))]) ∧ Kd.R kV 50 w' w.heap.size (fun _ => True) (.slice A1 (oM (rdM l)).pl.length c1) (oM (rdM l)).pl ∧ Below w.heap.size w w' := by
  refine (readM_any A c l w hC hc hB hl).mono fun e w' h => ?_
  obtain ⟨hb, h⟩ := h
  rcases hr : rdM l with _ | ⟨vs, n⟩ <;> rw [hr] at h
  · exact ⟨none, 0, h, Kd.R_nil _ _ _ _ _, hb⟩
  · obtain ⟨v, h, hR⟩ := h
    obtain ⟨A1, c1, rfl⟩ := rvec_slice hR
    exact ⟨A1, c1, h, hR, hb⟩
theorem oM_good (l : List Int) : (∀ v ∈ (oM (rdM l)).pl, Good v) ∧ (oM (rdM l)).pl.length ≤ 4096 := by
  rcases hr : rdM l with _ | ⟨vs, n⟩
  · exact ⟨by simp [oM], by simp [oM]⟩
  · have h := rdM_good _ _ _ hr
    exact ⟨h.1, by have := h.2.1; simp only [oM]; omega⟩
section
variable {w0 w : World} {g : Nat} {L : List Int}
theorem rval_u (hI : IsS62 w0 w g L 0 false) (hb : Below w0.heap.size w0 w) (hB : By L) (hl : L.length ≤ 140737488355328) :
    Calls Try.prog 21 #[.pointer (some ⟨g, 0, none⟩)] w fun e w' => ∃ at1 b1, e = .returned (ag (oV (rdV L))) ∧ RS w0 w w' g L at1 b1 ∧ End (rdV L) at1 b1 := by
  refine (rval_any (at0 := 0) hI hb hB hl (Nat.zero_le _)).mono fun e w' h => ?_
  obtain ⟨at1, b1, hR, ha, h⟩ := h
  refine ⟨at1, b1, ?_⟩
  rw [List.drop_zero] at h
  rcases hr : rdV L with _ | ⟨v, n⟩ <;> rw [hr] at h
  · obtain ⟨h, rfl⟩ := h
    exact ⟨h, hR, by simp [End, oN, oE]⟩
  · obtain ⟨h, rfl, rfl⟩ := h
    exact ⟨h, hR, by simp [End, oN, oE]⟩
theorem rpay_u (hI : IsS62 w0 w g L 0 false) (hb : Below w0.heap.size w0 w) (hB : By L) (hl : L.length ≤ 140737488355328) :
    Calls Try.prog 22 #[.pointer (some ⟨g, 0, none⟩)] w fun e w' => ∃ A1 c1 at1 b1, e = .returned (.slice A1 (oP (rdP L)).length c1) ∧ Kd.R kV 50 w' w.heap.size (fun _ => True) (.slice A1 (oP (rdP L)).length c1) (oP (rdP L)) ∧ RS w0 w w' g L at1 b1 ∧ End (rdP L) at1 b1 := by
  refine (rpay_any (at0 := 0) hI hb hB hl (Nat.zero_le _)).mono fun e w' h => ?_
  obtain ⟨at1, b1, hR, ha, h⟩ := h
  simp only [Bool.false_eq_true, if_false, List.drop_zero] at h
  rcases hr : rdP L with _ | ⟨v, n⟩ <;> rw [hr] at h
  · obtain ⟨h, rfl⟩ := h
    exact ⟨none, 0, at1, true, h, Kd.R_nil _ _ _ _ _, hR, by simp [End, oN, oE]⟩
  · obtain ⟨⟨u, h, hU⟩, rfl, rfl⟩ := h
    obtain ⟨A1, c1, rfl⟩ := rvec_slice hU
    exact ⟨A1, c1, _, false, h, hU, hR, by simp [End, oN, oE]⟩
theorem rmsg_u (hI : IsS62 w0 w g L 0 false) (hb : Below w0.heap.size w0 w) (hB : By L) (hl : L.length ≤ 140737488355328) :
    Calls Try.prog 23 #[.pointer (some ⟨g, 0, none⟩)] w fun e w' => ∃ A1 c1 at1 b1, e = .returned (.agg #[.int .i64 (oM (rdM L)).id, .string (oM (rdM L)).tag, .slice A1 (oM (rdM L)).pl.length c1]) ∧ Kd.R kV 50 w' w.heap.size (fun _ => True) (.slice A1 (oM (rdM L)).pl.length c1) (oM (rdM L)).pl ∧ RS w0 w w' g L at1 b1 ∧ End (rdM L) at1 b1 := by
  refine (rmsg_any (at0 := 0) hI hb hB hl (Nat.zero_le _)).mono fun e w' h => ?_
  obtain ⟨at1, b1, hR, ha, h⟩ := h
  simp only [List.drop_zero] at h
  rcases hr : rdM L with _ | ⟨v, n⟩ <;> rw [hr] at h
  · obtain ⟨h, rfl⟩ := h
    exact ⟨none, 0, at1, true, h, Kd.R_nil _ _ _ _ _, hR, by simp [End, oN, oE]⟩
  · obtain ⟨⟨u, h, hU⟩, rfl, rfl⟩ := h
    obtain ⟨A1, c1, rfl⟩ := rvec_slice hU
    exact ⟨A1, c1, _, false, h, hU, hR, by simp [End, oN, oE]⟩
theorem end_u {α : Type} {o : Option (α × Nat)} {at1 : Nat} {b1 : Bool} (hI : IsS62 w0 w g L at1 b1) (hb : Below w0.heap.size w0 w) (hE : End o at1 b1) :
    Calls Try.prog 24 #[.pointer (some ⟨g, 0, none⟩)] w fun e w' => e = .returned (.tuple #[.int .i64 (oN o), .int .i64 (oE o)]) ∧ RS w0 w w' g L at1 b1 := by
  refine (end_any hI hb).mono fun e w' h => ?_
  rw [hE.1, hE.2] at h
  exact h
end
end Go.Proofs.Ytlbfnnngemonoaa.Wir
