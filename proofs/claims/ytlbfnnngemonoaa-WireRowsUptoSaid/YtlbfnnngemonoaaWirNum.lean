/- The document's Reading: number, real, text. -/
import Derived.Test.YtlbfnnngemonoaaWirMsg
namespace Go.Proofs.Ytlbfnnngemonoaa.Wir
open Go.RowKit Go.Proofs.Ytlbfnnngemonoaa.PWireReads
open Go.Proofs.Ytlbfnnngemonoaa.Fat (Blk Chg Off)
open Go.Proofs.YtlbfnnngemonoaaW.PrintWords Go.Proofs.YtlbfnnngemonoaaW.PrintLast Go.Proofs.YtlbfnnngemonoaaW.PrintMore
set_option linter.unusedVariables false
set_option linter.unusedSimpArgs false

theorem Blk.keep {w w' : World} {k g : Nat} {t : TypeId} {cs : Array Value} (h : Blk w k t cs) (hk : KeepBut w w' g none) (hne : k ≠ g) : Blk w' k t cs := (hk.2 k h.lt hne (by simp)).trans h
/-- A Reading at block g; what it may have changed. -/
def RS (w0 w w' : World) (g : Nat) (L : List Int) (at' : Nat) (bad : Bool) : Prop := IsS62 w0 w' g L at' bad ∧ Below w0.heap.size w0 w' ∧ KeepBut w w' g none
theorem num_law (L : List Int) (hB : By L) (at0 size : Nat) (ha : at0 + size ≤ L.length) (hs : size ≤ 8) (hl : L.length ≤ 140737488355328) :
    chordmailref11_Reading_number.f (size + 2) L at0 false size = some (num ((L.drop at0).take size), ((at0 + size : Nat) : Int), false) := by
  have hlen : (L.drop at0).length = L.length - at0 := List.length_drop
  have go : ∀ d j : Nat, j + d = size → chordmailref11_Reading_number.l0 (d + 1) size (num ((L.drop at0).take j)) j L at0 false = some (num ((L.drop at0).take size), ((at0 + size : Nat) : Int), false) := by
    intro d
    induction d with
    | zero =>
      intro j hj
      obtain rfl : j = size := by omega
      rw [chordmailref11_Reading_number.l0, if_neg (by omega)]
      have : wrap64 ((at0 : Int) + (j : Int)) = ((at0 + j : Nat) : Int) := by unfold wrap64; omega
      rw [this]
    | succ d ih =>
      intro j hj
      have hw : wrap64 ((at0 : Int) + (j : Int)) = ((at0 + j : Nat) : Int) := by unfold wrap64; omega
      rw [chordmailref11_Reading_number.l0, if_pos (by omega), hw, if_pos (by omega), if_pos (by omega), w64n j (by omega)]
      have hb := num_bound (L.drop at0) (hB.drop at0) j (by omega)
      have hp : (256 : Int) ^ j ≤ 72057594037927936 := (by decide : ∀ k : Nat, k < 8 → (256 : Int) ^ k ≤ 72057594037927936) j (by omega)
      have hr : rd L ((at0 + j : Nat) : Int) = (L.drop at0).getD j 0 := by
        unfold rd
        rw [Int.toNat_natCast]
        simp [List.getD, List.getElem?_drop]
      have h2 := (hB.drop at0).at j
      rw [hr]
      have e1 : IntKind.u64.wrap (256 * num ((L.drop at0).take j)) = 256 * num ((L.drop at0).take j) := by rw [IntKind.wrap_u64]; omega
      have e2 : IntKind.u64.wrap ((L.drop at0).getD j 0) = (L.drop at0).getD j 0 := by rw [IntKind.wrap_u64]; omega
      rw [e1, e2]
      have e3 : IntKind.u64.wrap (256 * num ((L.drop at0).take j) + (L.drop at0).getD j 0) = num ((L.drop at0).take (j + 1)) := by
        rw [num_take _ j (by omega), IntKind.wrap_u64]; omega
      rw [e3]
      exact ih (j + 1) (by omega)
  unfold chordmailref11_Reading_number.f
  rw [if_neg (by simp)]
  have hd : decide (wrap64 ((L.length : Int) - (at0 : Int)) < (size : Int)) = false := by
    have : wrap64 ((L.length : Int) - (at0 : Int)) = (L.length : Int) - (at0 : Int) := by unfold wrap64; omega
    rw [this]; simp; omega
  rw [hd]
  show chordmailref11_Reading_number.j0 ((size + 1) + 1) _ _ _ _ _ = _
  rw [chordmailref11_Reading_number.j0, if_neg (by simp)]
  have h0 : num ((L.drop at0).take 0) = 0 := rfl
  rw [← h0]
  exact go size 0 (by omega)
theorem num_law_bad (L : List Int) (at0 size : Nat) (bad : Bool) (h : bad = true ∨ L.length < at0 + size) (ha : at0 ≤ L.length) (hl : L.length ≤ 140737488355328) (hs : size ≤ 100000) :
    chordmailref11_Reading_number.f 1 L at0 bad size = some (0, (at0 : Int), true) := by
  unfold chordmailref11_Reading_number.f
  cases bad with
  | true => rfl
  | false =>
    have h2 : L.length < at0 + size := by simpa using h
    rw [if_neg (by simp)]
    have hd : decide (wrap64 ((L.length : Int) - (at0 : Int)) < (size : Int)) = true := by
      have : wrap64 ((L.length : Int) - (at0 : Int)) = (L.length : Int) - (at0 : Int) := by unfold wrap64; omega
      rw [this]; simp; omega
    rw [hd]
    rfl
section
variable {w0 w : World} {g at0 : Nat} {L : List Int} {bad : Bool}
theorem num_ok (hI : IsS62 w0 w g L at0 false) (hb : Below w0.heap.size w0 w) (hB : By L) (size : Nat) (ha : at0 + size ≤ L.length) (hs : size ≤ 8) (hl : L.length ≤ 140737488355328) :
    Calls Try.prog 56 #[.pointer (some ⟨g, 0, none⟩), .int .i64 size] w fun e w' => e = .returned (.int .u64 (num ((L.drop at0).take size))) ∧ RS w0 w w' g L (at0 + size) false :=
  (chordmailref11_Reading_number.calls _ g L at0 false size _ _ _ w0 w hI hb (num_law L hB at0 size ha hs hl)).mono fun e w' ⟨h1, h2, h3, h4⟩ => ⟨h1, h2, h3, h4⟩
theorem num_bad (hI : IsS62 w0 w g L at0 bad) (hb : Below w0.heap.size w0 w) (size : Nat) (h : bad = true ∨ L.length < at0 + size) (ha : at0 ≤ L.length) (hl : L.length ≤ 140737488355328) (hs : size ≤ 100000) :
    Calls Try.prog 56 #[.pointer (some ⟨g, 0, none⟩), .int .i64 size] w fun e w' => e = .returned (.int .u64 0) ∧ RS w0 w w' g L at0 true :=
  (chordmailref11_Reading_number.calls _ g L at0 bad size _ _ _ w0 w hI hb (num_law_bad L at0 size bad h ha hl hs)).mono fun e w' ⟨h1, h2, h3, h4⟩ => ⟨h1, h2, h3, h4⟩
theorem RS.set_2 {w1 : World} (h : RS w0 w w1 g L at0 bad) (x : Bool) : RS w0 w (w1.setCell ⟨g, 2, none⟩ (.bool x)) g L at0 x :=
  ⟨h.1.set_2 x, h.2.1.setCell h.1.ge _, h.2.2.set_ 2 _⟩
theorem RS.trans {w1 w2 : World} {at1 at2 : Nat} {b1 b2 : Bool} (h : RS w0 w w1 g L at1 b1) (k : RS w0 w1 w2 g L at2 b2) : RS w0 w w2 g L at2 b2 :=
  ⟨k.1, k.2.1, h.2.2.trans k.2.2 (.inl rfl)⟩
theorem rs_cell (h : IsS62 w0 w g L at0 bad) : w.cell? ⟨g, 2, none⟩ = some (.bool bad) ∧ w.frozen? ⟨g, 2, none⟩ = false := by
  obtain ⟨A0, c0, hb, _, _⟩ := h
  exact ⟨cellS62_2 hb, Fat.Blk.frozen (show Blk w g 62 _ from hb) 2⟩

set_option maxRecDepth 20000 in
set_option maxHeartbeats 1000000 in
theorem real_ok (hI : IsS62 w0 w g L at0 false) (hb : Below w0.heap.size w0 w) (hB : By L) (ha : at0 + 8 ≤ L.length) (hl : L.length ≤ 140737488355328) :
    Calls Try.prog 57 #[.pointer (some ⟨g, 0, none⟩)] w fun e w' => e = .returned (.float .f64 (num ((L.drop at0).take 8)).toNat) ∧ RS w0 w w' g L (at0 + 8) (!fineB (num ((L.drop at0).take 8)).toNat) := by
  have HN := Lib.hid (num_ok hI hb hB 8 ha (by omega) hl)
  have h0 := (num8 (L.drop at0) (hB.drop at0) (by rw [List.length_drop]; omega)).1
  have h74 := run74
  clear hI hb
  generalize num ((L.drop at0).take 8) = n at HN h0 ⊢
  have he : (n == 9221120237041090561) = (n.toNat == none64) := by
    unfold none64
    by_cases h : n = 9221120237041090561
    · subst h; rfl
    · have h2 : ¬ n.toNat = 9221120237041090561 := by omega
      rw [beq_eq_false_iff_ne.2 h, beq_eq_false_iff_ne.2 h2]
  have hf : fineB n.toNat = ((FloatKind.f64.format.order n.toNat n.toNat == some .eq) || (n == 9221120237041090561)) := by rw [he]; rfl
  rw [hf]
  clear he hf h0
  cases hx : (FloatKind.f64.format.order n.toNat n.toNat == some .eq) with
  | true =>
    have hx2 : (FloatKind.f64.format.order n.toNat n.toNat != some .eq) = false := by simpa using hx
    go_enter Try.func57, Try.ntmps57
    go_wp2_with fail
    refine HN.out.mono ?_
    rintro e w1 ⟨rfl, hR⟩
    go_wp2_with fail
    go_ret
    exact ⟨rfl, by simpa using hR⟩
  | false =>
    have hx2 : (FloatKind.f64.format.order n.toNat n.toNat != some .eq) = true := by simpa using hx
    cases hy : (n == 9221120237041090561) with
    | true =>
      have hy2 : (n != 9221120237041090561) = false := by simpa using hy
      go_enter Try.func57, Try.ntmps57
      go_wp2_with fail
      refine HN.out.mono ?_
      rintro e w1 ⟨rfl, hR⟩
      go_wp2_with fail
      go_ret
      exact ⟨rfl, by simpa using hR⟩
    | false =>
      have hy2 : (n != 9221120237041090561) = true := by simpa using hy
      go_enter Try.func57, Try.ntmps57
      go_wp2_with fail
      refine HN.out.mono ?_
      rintro e w1 ⟨rfl, hR⟩
      obtain ⟨z0, z1⟩ := rs_cell hR.1
      go_wp2_with fail
      go_ret
      exact ⟨rfl, by simpa using hR.set_2 true⟩
set_option maxRecDepth 20000 in
set_option maxHeartbeats 1000000 in
theorem real_bad (hI : IsS62 w0 w g L at0 bad) (hb : Below w0.heap.size w0 w) (h : bad = true ∨ L.length < at0 + 8) (ha : at0 ≤ L.length) (hl : L.length ≤ 140737488355328) :
    Calls Try.prog 57 #[.pointer (some ⟨g, 0, none⟩)] w fun e w' => e = .returned (.float .f64 0) ∧ RS w0 w w' g L at0 true := by
  have HN := Lib.hid (num_bad hI hb 8 h ha hl (by omega))
  have h74 := run74
  have hx2 : (FloatKind.f64.format.order 0 0 != some .eq) = false := by decide
  clear hI hb h
  go_enter Try.func57, Try.ntmps57
  go_wp2_with fail
  refine HN.out.mono ?_
  rintro e w1 ⟨rfl, hR⟩
  go_wp2_with fail
  go_ret
  exact ⟨rfl, hR⟩
end
end Go.Proofs.Ytlbfnnngemonoaa.Wir
