/- The document's Reading: Value as one law. -/
import Derived.Test.YtlbfnnngemonoaaWirRVal
namespace Go.Proofs.Ytlbfnnngemonoaa.Wir
open Go.RowKit Go.Proofs.Ytlbfnnngemonoaa.PWireReads
open Go.Proofs.Ytlbfnnngemonoaa.Fat (Blk Chg Off)
open Go.Proofs.YtlbfnnngemonoaaW.PrintWords Go.Proofs.YtlbfnnngemonoaaW.PrintLast Go.Proofs.YtlbfnnngemonoaaW.PrintMore
set_option linter.unusedVariables false
set_option linter.unusedSimpArgs false
section
variable {w0 w : World} {g at0 : Nat} {L : List Int} {bad : Bool}
theorem drop_take' (L : List Int) (a n k : Nat) : ((L.drop a).take n).drop k = (L.take (a + n)).drop (a + k) := by
  rw [← List.drop_drop, List.take_drop]
theorem rval_any (hI : IsS62 w0 w g L at0 false) (hb : Below w0.heap.size w0 w) (hB : By L) (hl : L.length ≤ 140737488355328) (ha : at0 ≤ L.length) :
    Calls Try.prog 21 #[.pointer (some ⟨g, 0, none⟩)] w (VPost w0 w g L (rdV (L.drop at0)) at0) := by
  have hlen : (L.drop at0).length = L.length - at0 := List.length_drop
  by_cases h1 : L.length < at0 + 1
  · have hr : rdV (L.drop at0) = none := by unfold rdV; rw [if_pos (by omega)]
    rw [hr]
    exact rval_short hI hb hB hl ha (.inr h1)
  have hq := (hB.drop at0).at 0
  have d1 : (L.drop at0).drop 1 = L.drop (at0 + 1) := List.drop_drop
  have d9 : (L.drop at0).drop 9 = L.drop (at0 + 1 + 8) := List.drop_drop
  unfold rdV
  rw [d1, d9]
  by_cases k1 : (L.drop at0).getD 0 0 = 1
  · by_cases h9 : at0 + 9 ≤ L.length
    · rw [if_neg (by omega), if_pos k1, if_neg (by omega)]
      exact rval_int hI hb hB hl ha k1 h9
    · rw [if_pos k1, if_pos (show (L.drop at0).length < 9 by omega)]
      have e : (if (L.drop at0).length < 3 then none else (none : Option (V × Nat))) = none := by split <;> rfl
      rw [e]
      exact rval_int_cut hI hb hB hl ha k1 (by omega) (by omega)
  by_cases k2 : (L.drop at0).getD 0 0 = 2
  · by_cases h9 : at0 + 9 ≤ L.length
    · rw [if_neg (by omega), if_neg k1, if_pos k2, if_neg (by omega)]
      split
      · rename_i hf; exact rval_real hI hb hB hl ha k2 h9 hf
      · rename_i hf; exact rval_real_bad hI hb hB hl ha k2 h9 (by simpa using hf)
    · rw [if_neg k1, if_pos k2, if_pos (show (L.drop at0).length < 9 by omega)]
      have e : (if (L.drop at0).length < 3 then none else (none : Option (V × Nat))) = none := by split <;> rfl
      rw [e]
      exact rval_real_cut hI hb hB hl ha k2 (by omega) (by omega)
  by_cases k3 : (L.drop at0).getD 0 0 = 3
  · by_cases h17 : at0 + 17 ≤ L.length
    · rw [if_neg (by omega), if_neg k1, if_neg k2, if_pos k3, if_neg (by omega)]
      split
      · rename_i hf; exact rval_comp hI hb hB hl ha k3 h17 hf.1 hf.2
      · rename_i hf
        cases e1 : fineB (num ((L.drop (at0 + 1)).take 8)).toNat with
        | false => exact rval_comp_bad1 hI hb hB hl ha k3 (by omega) (.inl (by rw [e1]; rfl))
        | true =>
          cases e2 : fineB (num ((L.drop (at0 + 1 + 8)).take 8)).toNat with
          | false => exact rval_comp_bad2 hI hb hB hl ha k3 h17 e1 e2
          | true => exact absurd ⟨e1, e2⟩ hf
    · rw [if_neg k1, if_neg k2, if_pos k3, if_pos (show (L.drop at0).length < 17 by omega)]
      have e : (if (L.drop at0).length < 3 then none else (none : Option (V × Nat))) = none := by split <;> rfl
      rw [e]
      by_cases h9 : at0 + 9 ≤ L.length
      · exact rval_comp_bad1 hI hb hB hl ha k3 h9 (.inr (by omega))
      · exact rval_comp_cut hI hb hB hl ha k3 (by omega) (by omega)
  by_cases k4 : (L.drop at0).getD 0 0 = 4
  · rw [if_neg k1, if_neg k2, if_neg k3, if_pos k4]
    by_cases h3 : at0 + 3 ≤ L.length
    · rw [if_neg (by omega)]
      have g1 := (hB.drop at0).at 1
      have g2 := (hB.drop at0).at 2
      have hn : num ((L.drop (at0 + 1)).take 2) = (((L.drop at0).getD 1 0).toNat * 256 + ((L.drop at0).getD 2 0).toNat : Nat) := by
        have hl1 : (L.drop (at0 + 1)).length = L.length - (at0 + 1) := List.length_drop
        rw [num_take _ 1 (by omega), num_take _ 0 (by omega)]
        have q1 : (L.drop (at0 + 1)).getD 0 0 = (L.drop at0).getD 1 0 := by simp [List.getD, List.getElem?_drop]
        have q2 : (L.drop (at0 + 1)).getD 1 0 = (L.drop at0).getD 2 0 := by simp [List.getD, List.getElem?_drop]
        have q3 : num ((L.drop (at0 + 1)).take 0) = 0 := rfl
        rw [q1, q2, q3]
        omega
      have hb2 : ((L.drop at0).getD 1 0).toNat * 256 + ((L.drop at0).getD 2 0).toNat < 65536 := by omega
      generalize hN : ((L.drop at0).getD 1 0).toNat * 256 + ((L.drop at0).getD 2 0).toNat = N at hn hb2 ⊢
      have eN : 3 + ((L.drop at0).getD 1 0).toNat * 256 + ((L.drop at0).getD 2 0).toNat = 3 + N := by omega
      rw [eN]
      by_cases h256 : N ≤ 256
      · by_cases hc : at0 + 3 + N ≤ L.length
        · rw [if_neg (by omega), if_pos h256, drop_take']
          have h := rval_text hI hb hB hl ha k4 h3 N hn hb2 h256 hc
          rw [show at0 + 1 + 2 + N = at0 + (3 + N) from by omega, show at0 + 1 + 2 = at0 + 3 from by omega] at h
          exact h
        · rw [if_pos (by omega)]
          exact rval_text_cut hI hb hB hl ha k4 h3 N hn hb2 h256 (by omega)
      · have e : (if (L.drop at0).length < 3 + N then none else if N ≤ 256 then some (vT (strOfNums (((L.drop at0).take (3 + N)).drop 3)), 3 + N) else (none : Option (V × Nat))) = none := by
          rw [if_neg h256]; split <;> rfl
        rw [e]
        exact rval_text_long hI hb hB hl ha k4 h3 N hn hb2 (by omega)
    · rw [if_pos (by omega)]
      exact rval_text_cut0 hI hb hB hl ha k4 (by omega) (by omega)
  · rw [if_neg k1, if_neg k2, if_neg k3, if_neg k4]
    have e : (if (L.drop at0).length < 3 then none else (none : Option (V × Nat))) = none := by split <;> rfl
    rw [e]
    exact rval_kind hI hb hB hl ha (by omega) _ rfl hq ⟨k1, k2, k3, k4⟩
theorem rval_none (hI : IsS62 w0 w g L at0 true) (hb : Below w0.heap.size w0 w) (hB : By L) (hl : L.length ≤ 140737488355328) (ha : at0 ≤ L.length) :
    Calls Try.prog 21 #[.pointer (some ⟨g, 0, none⟩)] w (VPost w0 w g L none at0) := rval_short hI hb hB hl ha (.inl rfl)
end
end Go.Proofs.Ytlbfnnngemonoaa.Wir
