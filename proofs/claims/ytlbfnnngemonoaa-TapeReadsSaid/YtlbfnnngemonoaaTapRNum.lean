/- The tape document's Reading: byte1, name and long read just what rdW and rdL say. -/
import Derived.Test.YtlbfnnngemonoaaTapHas
import Derived.Test.YtlbfnnngemonoaaTapRd
namespace Go.Proofs.Ytlbfnnngemonoaa.Wir
open Go.RowKit Go.Proofs.Ytlbfnnngemonoaa.PWireReads
open Go.Proofs.Ytlbfnnngemonoaa.Fat (Blk Chg Off chg_opt)
open Go.Proofs.YtlbfnnngemonoaaW.PrintWords Go.Proofs.YtlbfnnngemonoaaW.PrintLast Go.Proofs.YtlbfnnngemonoaaW.PrintMore
set_option linter.unusedVariables false
set_option linter.unusedSimpArgs false

/-- A Reading of the tape's document at block g; what it may have changed. -/
def RT (w0 w w' : World) (g : Nat) (L : List Int) (at' : Nat) (bad : Bool) : Prop := IsS127 w0 w' g L at' bad ∧ Below w0.heap.size w0 w' ∧ KeepBut w w' g none
theorem byte_law (L : List Int) (hB : By L) (at0 : Nat) (h : at0 < L.length) (hl : L.length ≤ 140737488355328) : chordmailref26_Reading_byte1.f L at0 false = some (L.getD at0 0, ((at0 + 1 : Nat) : Int), false) := by
  have e1 : wrap64 ((at0 : Int) + 1) = ((at0 + 1 : Nat) : Int) := by unfold wrap64; omega
  have e2 : wrap64 (((at0 + 1 : Nat) : Int) - 1) = (at0 : Int) := by unfold wrap64; omega
  have hb := hB.at at0
  have e3 : rd L (at0 : Int) = L.getD at0 0 := by unfold rd; rw [Int.toNat_natCast]
  unfold chordmailref26_Reading_byte1.f
  rw [if_neg (by simp), if_neg (by omega), e1, e2, if_pos (by omega), if_pos (by omega), e3]
  have e4 : wrap64 (L.getD at0 0) = L.getD at0 0 := by unfold wrap64; omega
  rw [e4]
theorem byte_law_bad (L : List Int) (at0 : Nat) (bad : Bool) (h : bad = true ∨ L.length ≤ at0) : chordmailref26_Reading_byte1.f L at0 bad = some (0, (at0 : Int), true) := by
  unfold chordmailref26_Reading_byte1.f
  cases bad with
  | true => rfl
  | false =>
    rw [if_neg (by simp), if_pos]
    have : L.length ≤ at0 := by simpa using h
    show (at0 : Int) ≥ (L.length : Int)
    omega
theorem take_step (L : List Int) (a j : Nat) (h : a + j < L.length) : (L.take (a + j)).drop a ++ [L.getD (a + j) 0] = (L.take (a + (j + 1))).drop a := by
  rw [show a + (j + 1) = a + j + 1 from by omega, List.take_add_one, List.getElem?_eq_getElem h]
  have : (L.take (a + j)).length = a + j := by rw [List.length_take]; omega
  rw [Option.toList_some, List.drop_append_of_le_length (by omega)]
  congr 1
  simp [List.getD, List.getElem?_eq_getElem h]
theorem name_go (L : List Int) (hB : By L) (hl : L.length ≤ 140737488355328) (a y : Nat) (hy : a + y ≤ L.length) : ∀ d j : Nat, j + d = y →
    chordmailref26_Reading_name.l0 (d + 1) y ((L.take (a + j)).drop a) j L ((a + j : Nat) : Int) false = some (strOfNums ((L.take (a + y)).drop a), ((a + y : Nat) : Int), false) := by
  intro d
  induction d with
  | zero =>
    intro j hj
    obtain rfl : j = y := by omega
    rw [chordmailref26_Reading_name.l0, if_neg (by omega)]
  | succ d ih =>
    intro j hj
    rw [chordmailref26_Reading_name.l0, if_pos (by omega), if_neg (by simp), byte_law L hB (a + j) (by omega) hl, Option.bind_some]
    simp only
    have hlen : ((L.take (a + j)).drop a).length = j := by rw [List.length_drop, List.length_take]; omega
    rw [hlen, if_pos (by omega)]
    have hb := hB.at (a + j)
    rw [show L.getD (a + j) 0 % 256 = L.getD (a + j) 0 from by omega, take_step L a j (by omega), show wrap64 ((j : Int) + 1) = ((j + 1 : Nat) : Int) from by unfold wrap64; omega]
    exact ih (j + 1) (by omega)
theorem name_short (L : List Int) (hB : By L) (hl : L.length ≤ 140737488355328) (a y : Nat) (hy32 : y ≤ 32) : ∀ d j : Nat, a + j + d = L.length → j + d < y →
    ∃ s, chordmailref26_Reading_name.l0 (d + 2) y ((L.take (a + j)).drop a) j L ((a + j : Nat) : Int) false = some (s, (L.length : Int), true) := by
  intro d
  induction d with
  | zero =>
    intro j hj hjy
    rw [chordmailref26_Reading_name.l0, if_pos (by omega), if_neg (by simp), byte_law_bad L (a + j) false (.inr (by omega)), Option.bind_some]
    simp only
    have hlen : ((L.take (a + j)).drop a).length = j := by rw [List.length_drop, List.length_take]; omega
    rw [hlen, if_pos (by omega), show wrap64 ((j : Int) + 1) = ((j + 1 : Nat) : Int) from by unfold wrap64; omega]
    rw [chordmailref26_Reading_name.l0]
    by_cases h : ((j + 1 : Nat) : Int) < (y : Int)
    · rw [if_pos h, if_pos rfl, show a + j = L.length from by omega]; exact ⟨_, rfl⟩
    · rw [if_neg h, show a + j = L.length from by omega]; exact ⟨_, rfl⟩
  | succ d ih =>
    intro j hj hjy
    rw [chordmailref26_Reading_name.l0, if_pos (by omega), if_neg (by simp), byte_law L hB (a + j) (by omega) hl, Option.bind_some]
    simp only
    have hlen : ((L.take (a + j)).drop a).length = j := by rw [List.length_drop, List.length_take]; omega
    rw [hlen, if_pos (by omega)]
    have hb := hB.at (a + j)
    rw [show L.getD (a + j) 0 % 256 = L.getD (a + j) 0 from by omega, take_step L a j (by omega), show wrap64 ((j : Int) + 1) = ((j + 1 : Nat) : Int) from by unfold wrap64; omega]
    exact ih (j + 1) (by omega) (by omega)
theorem drop_getD (L : List Int) (p a : Nat) : (L.drop p).getD a 0 = L.getD (p + a) 0 := by simp [List.getD, List.getElem?_drop]
theorem drop_cut (L : List Int) (p a b : Nat) : ((L.drop p).take b).drop a = (L.take (p + b)).drop (p + a) := by
  rw [List.take_drop, List.drop_drop]
theorem name_law (L : List Int) (hB : By L) (hl : L.length ≤ 140737488355328) (p a : Nat) (hp : p + a ≤ L.length) (s : ByteArray) (n : Nat) (hr : rdW (L.drop p) a = some (s, n)) : ∃ k, chordmailref26_Reading_name.f k L ((p + a : Nat) : Int) false = some (s, ((p + n : Nat) : Int), false) := by
  have hlen : (L.drop p).length = L.length - p := List.length_drop
  unfold rdW at hr
  split at hr
  · cases hr
  rename_i h1
  split at hr
  · cases hr
  rename_i h2
  split at hr
  · cases hr
  rename_i h3
  rw [drop_getD] at hr h2 h3
  injection hr with hr
  injection hr with hr1 hr2
  have hb := hB.at (p + a)
  obtain ⟨y, hy⟩ : ∃ y : Nat, L.getD (p + a) 0 = (y : Int) := ⟨(L.getD (p + a) 0).toNat, by omega⟩
  rw [hy] at hr1 hr2 h2 h3
  rw [Int.toNat_natCast] at hr1 hr2 h3
  refine ⟨y + 2, ?_⟩
  unfold chordmailref26_Reading_name.f
  rw [byte_law L hB (p + a) (by omega) hl, Option.bind_some, hy]
  simp only
  rw [if_neg (by omega), chordmailref26_Reading_name.j0]
  have h := name_go L hB hl (p + a + 1) y (by omega) y 0 (by omega)
  rw [show (L.take (p + a + 1 + 0)).drop (p + a + 1) = [] from by simp, show p + a + 1 + 0 = p + a + 1 from rfl] at h
  rw [drop_cut, show p + (a + 1 + y) = p + a + 1 + y from by omega, show p + (a + 1) = p + a + 1 from by omega] at hr1
  rw [hr1, show p + a + 1 + y = p + n from by omega] at h
  exact h
theorem name_law_bad (L : List Int) (hB : By L) (hl : L.length ≤ 140737488355328) (p a : Nat) (hp : p + a ≤ L.length) (hr : rdW (L.drop p) a = none) : ∃ k s a', chordmailref26_Reading_name.f k L ((p + a : Nat) : Int) false = some (s, ((a' : Nat) : Int), true) := by
  have hlen : (L.drop p).length = L.length - p := List.length_drop
  unfold rdW at hr
  split at hr
  · rename_i h1
    refine ⟨2, { data := #[] }, p + a, ?_⟩
    unfold chordmailref26_Reading_name.f
    rw [byte_law_bad L (p + a) false (.inr (by omega)), Option.bind_some]
    simp only
    rw [if_neg (by omega), chordmailref26_Reading_name.j0, chordmailref26_Reading_name.l0, if_neg (by omega)]
    rfl
  rename_i h1
  have hb := hB.at (p + a)
  obtain ⟨y, hy⟩ : ∃ y : Nat, L.getD (p + a) 0 = (y : Int) := ⟨(L.getD (p + a) 0).toNat, by omega⟩
  split at hr
  · rename_i h2
    rw [drop_getD, hy] at h2
    refine ⟨2, { data := #[] }, p + a + 1, ?_⟩
    unfold chordmailref26_Reading_name.f
    rw [byte_law L hB (p + a) (by omega) hl, Option.bind_some, hy]
    simp only
    rw [if_pos (by omega), chordmailref26_Reading_name.j0, chordmailref26_Reading_name.l0, if_pos (by omega), if_pos rfl]
    rfl
  rename_i h2
  split at hr
  · rename_i h3
    rw [drop_getD, hy] at h2 h3
    rw [Int.toNat_natCast] at h3
    obtain ⟨s, hs⟩ := name_short L hB hl (p + a + 1) y (by omega) (L.length - (p + a + 1)) 0 (by omega) (by omega)
    rw [show (L.take (p + a + 1 + 0)).drop (p + a + 1) = [] from by simp, show p + a + 1 + 0 = p + a + 1 from rfl] at hs
    refine ⟨L.length - (p + a + 1) + 3, s, L.length, ?_⟩
    unfold chordmailref26_Reading_name.f
    rw [byte_law L hB (p + a) (by omega) hl, Option.bind_some, hy]
    simp only
    rw [if_neg (by omega), chordmailref26_Reading_name.j0]
    exact hs
  · cases hr
theorem name_law_was (L : List Int) (at0 : Nat) : chordmailref26_Reading_name.f 2 L at0 true = some ({ data := #[] }, (at0 : Int), true) := by
  unfold chordmailref26_Reading_name.f
  rw [byte_law_bad L at0 true (.inl rfl), Option.bind_some]
  simp only
  rw [if_neg (by omega), chordmailref26_Reading_name.j0, chordmailref26_Reading_name.l0, if_neg (by omega)]
  rfl
theorem long_go (L : List Int) (hB : By L) (hl : L.length ≤ 140737488355328) (a : Nat) (hy : a + 8 ≤ L.length) : ∀ d j : Nat, j + d = 8 →
    chordmailref26_Reading_long.l0 (d + 1) (num ((L.drop a).take j)) j L ((a + j : Nat) : Int) false = some (wrap64 (num ((L.drop a).take 8)), ((a + 8 : Nat) : Int), false) := by
  have hlen : (L.drop a).length = L.length - a := List.length_drop
  intro d
  induction d with
  | zero =>
    intro j hj
    obtain rfl : j = 8 := by omega
    rw [chordmailref26_Reading_long.l0, if_neg (by omega)]
  | succ d ih =>
    intro j hj
    rw [chordmailref26_Reading_long.l0, if_pos (by omega), byte_law L hB (a + j) (by omega) hl, Option.bind_some]
    simp only
    have hb := num_bound (L.drop a) (hB.drop a) j (by omega)
    have hp : (256 : Int) ^ j ≤ 72057594037927936 := (by decide : ∀ k : Nat, k < 8 → (256 : Int) ^ k ≤ 72057594037927936) j (by omega)
    have h2 := hB.at (a + j)
    rw [← drop_getD] at h2 ⊢
    have e1 : IntKind.u64.wrap (num ((L.drop a).take j) * 256) = 256 * num ((L.drop a).take j) := by rw [IntKind.wrap_u64]; omega
    have e2 : IntKind.u64.wrap ((L.drop a).getD j 0) = (L.drop a).getD j 0 := by rw [IntKind.wrap_u64]; omega
    rw [e1, e2]
    have e3 : IntKind.u64.wrap (256 * num ((L.drop a).take j) + (L.drop a).getD j 0) = num ((L.drop a).take (j + 1)) := by
      rw [num_take _ j (by omega), IntKind.wrap_u64]; omega
    rw [e3, show wrap64 ((j : Int) + 1) = ((j + 1 : Nat) : Int) from by unfold wrap64; omega]
    exact ih (j + 1) (by omega)
theorem long_tail (L : List Int) (at0 : Nat) : ∀ (d j : Nat) (u : Int), j + d = 8 → ∃ x, chordmailref26_Reading_long.l0 (d + 1) u j L at0 true = some (x, (at0 : Int), true) := by
  intro d
  induction d with
  | zero =>
    intro j u hj
    rw [chordmailref26_Reading_long.l0, if_neg (by omega)]
    exact ⟨_, rfl⟩
  | succ d ih =>
    intro j u hj
    rw [chordmailref26_Reading_long.l0, if_pos (by omega), byte_law_bad L at0 true (.inl rfl), Option.bind_some]
    simp only
    rw [show wrap64 ((j : Int) + 1) = ((j + 1 : Nat) : Int) from by unfold wrap64; omega]
    exact ih (j + 1) _ (by omega)
theorem long_short (L : List Int) (hB : By L) (hl : L.length ≤ 140737488355328) (a : Nat) (hy : L.length < a + 8) : ∀ (d j : Nat) (u : Int), j + d = 8 → a + j ≤ L.length → ∃ x a', chordmailref26_Reading_long.l0 (d + 1) u j L ((a + j : Nat) : Int) false = some (x, ((a' : Nat) : Int), true) := by
  intro d
  induction d with
  | zero => intro j u hj hj2; omega
  | succ d ih =>
    intro j u hj hj2
    by_cases h : a + j < L.length
    · rw [chordmailref26_Reading_long.l0, if_pos (by omega), byte_law L hB (a + j) h hl, Option.bind_some]
      simp only
      rw [show wrap64 ((j : Int) + 1) = ((j + 1 : Nat) : Int) from by unfold wrap64; omega]
      exact ih (j + 1) _ (by omega) (by omega)
    · rw [chordmailref26_Reading_long.l0, if_pos (by omega), byte_law_bad L (a + j) false (.inr (by omega)), Option.bind_some]
      simp only
      rw [show wrap64 ((j : Int) + 1) = ((j + 1 : Nat) : Int) from by unfold wrap64; omega]
      obtain ⟨x, hx⟩ := long_tail L (a + j) d (j + 1) (IntKind.u64.wrap ((IntKind.u64.wrap (u * 256)) + (IntKind.u64.wrap 0))) (by omega)
      exact ⟨x, a + j, hx⟩
theorem long_law (L : List Int) (hB : By L) (hl : L.length ≤ 140737488355328) (p a : Nat) (hp : p + a ≤ L.length) (x : Int) (hr : rdL (L.drop p) a = some x) : ∃ k, chordmailref26_Reading_long.f k L ((p + a : Nat) : Int) false = some (x, ((p + (a + 8) : Nat) : Int), false) := by
  have hlen : (L.drop p).length = L.length - p := List.length_drop
  unfold rdL at hr
  split at hr
  · cases hr
  rename_i h1
  injection hr with hr
  rw [drop_cut, show p + (a + 8) = p + a + 8 from by omega, ← List.take_drop] at hr
  refine ⟨9, ?_⟩
  have h := long_go L hB hl (p + a) (by omega) 8 0 (by omega)
  rw [hr] at h
  exact h
theorem long_law_bad (L : List Int) (hB : By L) (hl : L.length ≤ 140737488355328) (p a : Nat) (hp : p + a ≤ L.length) (hr : rdL (L.drop p) a = none) : ∃ k x a', chordmailref26_Reading_long.f k L ((p + a : Nat) : Int) false = some (x, ((a' : Nat) : Int), true) := by
  have hlen : (L.drop p).length = L.length - p := List.length_drop
  unfold rdL at hr
  split at hr
  · rename_i h1
    obtain ⟨x, a', h⟩ := long_short L hB hl (p + a) (by omega) 8 0 0 (by omega) (by omega)
    exact ⟨9, x, a', h⟩
  · cases hr
section
variable {w0 w : World} {g at0 : Nat} {L : List Int} {bad : Bool}
theorem byte_ok (hI : IsS127 w0 w g L at0 false) (hb : Below w0.heap.size w0 w) (hB : By L) (ha : at0 < L.length) (hl : L.length ≤ 140737488355328) :
    Calls Try.prog 83 #[.pointer (some ⟨g, 0, none⟩)] w fun e w' => e = .returned (.int .i64 (L.getD at0 0)) ∧ RT w0 w w' g L (at0 + 1) false :=
  (chordmailref26_Reading_byte1.calls g L at0 false _ _ _ w0 w hI hb (byte_law L hB at0 ha hl)).mono fun e w' ⟨h1, h2, h3, h4⟩ => ⟨h1, h2, h3, h4⟩
theorem name_ok (hB : By L) (hl : L.length ≤ 140737488355328) (p a : Nat) (hp : p + a ≤ L.length) (s : ByteArray) (n : Nat) (hr : rdW (L.drop p) a = some (s, n)) (hI : IsS127 w0 w g L ((p + a : Nat) : Int) false) (hb : Below w0.heap.size w0 w) :
    Calls Try.prog 84 #[.pointer (some ⟨g, 0, none⟩)] w fun e w' => e = .returned (.string s) ∧ RT w0 w w' g L (p + n) false := by
  obtain ⟨k, h⟩ := name_law L hB hl p a hp s n hr
  exact (chordmailref26_Reading_name.calls k g L _ false _ _ _ w0 w hI hb h).mono fun e w' ⟨h1, h2, h3, h4⟩ => ⟨h1, h2, h3, h4⟩
theorem name_bad (hB : By L) (hl : L.length ≤ 140737488355328) (p a : Nat) (hp : p + a ≤ L.length) (hr : rdW (L.drop p) a = none) (hI : IsS127 w0 w g L ((p + a : Nat) : Int) false) (hb : Below w0.heap.size w0 w) :
    Calls Try.prog 84 #[.pointer (some ⟨g, 0, none⟩)] w fun e w' => ∃ s a', e = .returned (.string s) ∧ RT w0 w w' g L a' true := by
  obtain ⟨k, s, a', h⟩ := name_law_bad L hB hl p a hp hr
  exact (chordmailref26_Reading_name.calls k g L _ false _ _ _ w0 w hI hb h).mono fun e w' ⟨h1, h2, h3, h4⟩ => ⟨s, a', h1, h2, h3, h4⟩
theorem name_was (at1 : Nat) (hI : IsS127 w0 w g L (at1 : Int) true) (hb : Below w0.heap.size w0 w) :
    Calls Try.prog 84 #[.pointer (some ⟨g, 0, none⟩)] w fun e w' => e = .returned (.string { data := #[] }) ∧ RT w0 w w' g L at1 true :=
  (chordmailref26_Reading_name.calls 2 g L _ true _ _ _ w0 w hI hb (name_law_was L at1)).mono fun e w' ⟨h1, h2, h3, h4⟩ => ⟨h1, h2, h3, h4⟩
theorem long_ok (hB : By L) (hl : L.length ≤ 140737488355328) (p a : Nat) (hp : p + a ≤ L.length) (x : Int) (hr : rdL (L.drop p) a = some x) (hI : IsS127 w0 w g L ((p + a : Nat) : Int) false) (hb : Below w0.heap.size w0 w) :
    Calls Try.prog 85 #[.pointer (some ⟨g, 0, none⟩)] w fun e w' => e = .returned (.int .i64 x) ∧ RT w0 w w' g L (p + (a + 8)) false := by
  obtain ⟨k, h⟩ := long_law L hB hl p a hp x hr
  exact (chordmailref26_Reading_long.calls k g L _ false _ _ _ w0 w hI hb h).mono fun e w' ⟨h1, h2, h3, h4⟩ => ⟨h1, h2, h3, h4⟩
theorem long_bad (hB : By L) (hl : L.length ≤ 140737488355328) (p a : Nat) (hp : p + a ≤ L.length) (hr : rdL (L.drop p) a = none) (hI : IsS127 w0 w g L ((p + a : Nat) : Int) false) (hb : Below w0.heap.size w0 w) :
    Calls Try.prog 85 #[.pointer (some ⟨g, 0, none⟩)] w fun e w' => ∃ x a', e = .returned (.int .i64 x) ∧ RT w0 w w' g L a' true := by
  obtain ⟨k, x, a', h⟩ := long_law_bad L hB hl p a hp hr
  exact (chordmailref26_Reading_long.calls k g L _ false _ _ _ w0 w hI hb h).mono fun e w' ⟨h1, h2, h3, h4⟩ => ⟨x, a', h1, h2, h3, h4⟩
theorem RT.trans {w1 w2 : World} {at1 at2 : Nat} {b1 b2 : Bool} (h : RT w0 w w1 g L at1 b1) (k : RT w0 w1 w2 g L at2 b2) : RT w0 w w2 g L at2 b2 :=
  ⟨k.1, k.2.1, h.2.2.trans k.2.2 (.inl rfl)⟩
theorem RT.refl (h : IsS127 w0 w g L at0 bad) (hb : Below w0.heap.size w0 w) : RT w0 w w g L at0 bad := ⟨h, hb, KeepBut.refl _ _ _⟩
theorem RT.set_2 {w1 : World} (h : RT w0 w w1 g L at0 bad) (x : Bool) : RT w0 w (w1.setCell ⟨g, 2, none⟩ (.bool x)) g L at0 x :=
  ⟨h.1.set_2 x, h.2.1.setCell h.1.ge _, h.2.2.set_ 2 _⟩
theorem RT.set_1 {w1 : World} (h : RT w0 w w1 g L at0 bad) (x : Nat) : RT w0 w (w1.setCell ⟨g, 1, none⟩ (.int .i64 x)) g L x bad :=
  ⟨h.1.set_1 x, h.2.1.setCell h.1.ge _, h.2.2.set_ 1 _⟩
theorem is_move7 {w' : World} (h : IsS127 w0 w g L at0 bad) (e : w'.heap[g]? = w.heap[g]?) : IsS127 w0 w' g L at0 bad := by
  obtain ⟨A0, c0, h1, h2⟩ := h
  exact ⟨A0, c0, e.trans h1, h2⟩
theorem RT.below {w1 w2 : World} (h : RT w0 w w1 g L at0 bad) (hb : Below w1.heap.size w1 w2) : RT w0 w w2 g L at0 bad :=
  ⟨is_move7 h.1 (hb.block g h.1.lt), h.2.1.trans (hb.mono h.2.1.size), h.2.2.trans (KeepBut.of_below hb g none) (.inl rfl)⟩
theorem RT.alloc {w1 : World} (h : RT w0 w w1 g L at0 bad) (o : Obj) : RT w0 w (w1.alloc o) g L at0 bad := h.below ((Below.refl _ _).alloc (Nat.le_refl _) o)
theorem RT.setNew {w1 : World} (h : RT w0 w w1 g L at0 bad) (hle : w0.heap.size ≤ w.heap.size) (k j : Nat) (u : Value) (hk : w.heap.size ≤ k) (hg : g ≠ k) : RT w0 w (w1.setCell ⟨k, j, none⟩ u) g L at0 bad :=
  ⟨is_move7 h.1 (Below.heap_setCell w1 ⟨k, j, none⟩ u g hg), h.2.1.setCell (Nat.le_trans hle hk) _, ⟨by simpa [World.setCell] using h.2.2.1, fun i hi hig hr => (Below.heap_setCell w1 ⟨k, j, none⟩ u i (by
    have : i ≠ k := by omega
    exact this)).trans (h.2.2.2 i hi hig hr)⟩⟩
theorem RT.drewN (h : IsS127 w0 w g L at0 bad) (hb : Below w0.heap.size w0 w) (n : Nat) : RT w0 w (w.drewN n) g L at0 bad := by
  obtain ⟨A0, c0, h1, h2, h3⟩ := h
  exact ⟨⟨A0, c0, h1, h2, h3⟩, pw_below_drewN hb n, keep_drewN (KeepBut.refl _ _ _) n⟩
theorem RT.more {w1 : World} (h : RT w0 w w1 g L at0 bad) (n : Nat) : RT w0 w (w1.drewN n) g L at0 bad := h.trans (RT.drewN h.1 h.2.1 n)
theorem rt_cells (h : IsS127 w0 w g L at0 bad) : ∃ A c, w.cell? ⟨g, 0, none⟩ = some (.slice A L.length c) ∧ w.cell? ⟨g, 1, none⟩ = some (.int .i64 at0) ∧ w.frozen? ⟨g, 1, none⟩ = false ∧ w.cell? ⟨g, 2, none⟩ = some (.bool bad) ∧ w.frozen? ⟨g, 2, none⟩ = false ∧ Kd.C (Kd.int .u8) w0 A L.length L ∧ L.length ≤ c := by
  obtain ⟨A0, c0, hb, _, h2, h3⟩ := h
  exact ⟨A0, c0, cellS127_0 hb, cellS127_1 hb, Fat.Blk.frozen (show Blk w g 127 _ from hb) 1, cellS127_2 hb, Fat.Blk.frozen (show Blk w g 127 _ from hb) 2, h2, h3⟩
end
end Go.Proofs.Ytlbfnnngemonoaa.Wir
