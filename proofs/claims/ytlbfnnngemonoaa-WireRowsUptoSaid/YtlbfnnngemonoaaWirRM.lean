/- The document's Reading: Message as one law; End. -/
import Derived.Test.YtlbfnnngemonoaaWirRMsg
namespace Go.Proofs.Ytlbfnnngemonoaa.Wir
open Go.RowKit Go.Proofs.Ytlbfnnngemonoaa.PWireReads
open Go.Proofs.Ytlbfnnngemonoaa.Fat (Blk Chg Off)
open Go.Proofs.YtlbfnnngemonoaaW.PrintWords Go.Proofs.YtlbfnnngemonoaaW.PrintLast Go.Proofs.YtlbfnnngemonoaaW.PrintMore
set_option linter.unusedVariables false
set_option linter.unusedSimpArgs false
section
variable {w0 w : World} {g at0 : Nat} {L : List Int} {bad : Bool}
theorem rmsg_any (hI : IsS62 w0 w g L at0 false) (hb : Below w0.heap.size w0 w) (hB : By L) (hl : L.length ≤ 140737488355328) (ha : at0 ≤ L.length) :
    Calls Try.prog 23 #[.pointer (some ⟨g, 0, none⟩)] w (NPost w0 w g L (rdM (L.drop at0)) at0) := by
  have hlen : (L.drop at0).length = L.length - at0 := List.length_drop
  by_cases h4 : L.length < at0 + 4
  · have hr : rdM (L.drop at0) = none := by unfold rdM; rw [if_pos (by omega)]
    rw [hr]; exact rmsg_short4 hI hb hB hl ha h4
  by_cases h5 : L.length < at0 + 5
  · have hr : rdM (L.drop at0) = none := by unfold rdM; rw [if_pos (by omega)]
    rw [hr]; exact rmsg_short5 hI hb hB hl ha (by omega) h5
  by_cases hc : 1048576 ≤ num ((L.drop at0).take 4) ∨ (L.drop at0).getD 4 0 < 1 ∨ 32 < (L.drop at0).getD 4 0
  · have hr : rdM (L.drop at0) = none := by
      unfold rdM
      split
      · rfl
      · rw [if_pos (by
          rcases hc with h | h | h
          · exact .inl h
          · exact .inr (.inl h)
          · exact .inr (.inr (.inl h)))]
    rw [hr]; exact rmsg_head hI hb hB hl ha (by omega) hc
  by_cases hn : L.length < at0 + 5 + ((L.drop at0).getD 4 0).toNat
  · have hr : rdM (L.drop at0) = none := by
      unfold rdM
      split
      · rfl
      · rw [if_pos (.inr (.inr (.inr (by omega))))]
    rw [hr]; exact rmsg_tag hI hb hB hl ha (by omega) hc hn
  · have hr : rdM (L.drop at0) = (match rdP (L.drop (at0 + 4 + 1 + ((L.drop at0).getD 4 0).toNat)) with | none => none | some (vs, m) => some (⟨num ((L.drop at0).take 4), strOfNums ((L.take (at0 + 4 + 1 + ((L.drop at0).getD 4 0).toNat)).drop (at0 + 4 + 1)), vs⟩, 5 + ((L.drop at0).getD 4 0).toNat + m)) := by
      unfold rdM
      rw [if_neg (by omega), if_neg (by omega), List.drop_drop, drop_take', show at0 + (5 + ((L.drop at0).getD 4 0).toNat) = at0 + 4 + 1 + ((L.drop at0).getD 4 0).toNat from by omega, show at0 + 5 = at0 + 4 + 1 from by omega]
      rfl
    rw [hr]
    exact rmsg_main hI hb hB hl ha (by omega) hc (by omega)
theorem end_any (hI : IsS62 w0 w g L at0 bad) (hb : Below w0.heap.size w0 w) :
    Calls Try.prog 24 #[.pointer (some ⟨g, 0, none⟩)] w fun e w' => e = .returned (.tuple #[.int .i64 (if bad = true then 0 else at0), .int .i64 (if bad = true then 110 else 0)]) ∧ RS w0 w w' g L at0 bad := by
  have hf : chordmailref11_Reading_End.f L at0 bad = some (if bad = true then (0 : Int) else (at0 : Int), if bad = true then (110 : Int) else 0, (at0 : Int), bad) := by
    unfold chordmailref11_Reading_End.f
    cases bad <;> rfl
  exact (chordmailref11_Reading_End.calls g L at0 bad _ _ _ _ w0 w hI hb hf).mono fun e w' ⟨h1, h2, h3, h4⟩ => ⟨h1, h2, h3, h4⟩
end
end Go.Proofs.Ytlbfnnngemonoaa.Wir
