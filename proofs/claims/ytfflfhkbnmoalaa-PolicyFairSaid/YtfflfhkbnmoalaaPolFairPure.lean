/- Plain facts for PolicyFair: Old goes round the places, Turns goes round the actors. -/
import Derived.Test.YtfflfhkbnmoalaaPolFair1
namespace Go.Proofs.Ytfflfhkbnmoalaa.Pol.Fair

theorem oldTo_min (f : Int → Int → Int) (L : List (Int × Int)) (r : Nat) (hr : r < L.length) (hlo : ∀ j (h : j < L.length), j < r → f L[r].1 L[r].2 < f L[j].1 L[j].2) (hhi : ∀ j (h : j < L.length), r < j → f L[r].1 L[r].2 ≤ f L[j].1 L[j].2) : oldTo f L L.length = r := by
  have low : ∀ k, k ≤ r → 0 < k → oldTo f L k < k := by
    intro k
    induction k with
    | zero => omega
    | succ k ih =>
      intro h1 _
      simp only [oldTo]
      split
      · omega
      · by_cases h : k = 0
        · subst h; simp [oldTo]
        · have := ih (by omega) (by omega); omega
  have at_ : ∀ k, r < k → k ≤ L.length → oldTo f L k = r := by
    intro k
    induction k with
    | zero => omega
    | succ k ih =>
      intro h1 h2
      by_cases h : k = r
      · subst h
        by_cases h0 : k = 0
        · subst h0; simp [oldTo]
        · have hl := low k (Nat.le_refl _) (by omega)
          have := hlo (oldTo f L k) (by omega) hl
          rw [oldTo_step f L k (by omega) (by omega), if_pos this]
      · have he := ih (by omega) (by omega)
        rw [oldTo_step f L k (by omega) (by rw [he]; exact hr)]
        have := hhi k (by omega) (by omega)
        simp only [he]
        rw [if_neg (by omega)]
  exact at_ L.length hr (Nat.le_refl _)

theorem ne_of_sorted {L : List (Int × Int)} (h : Sorted L) {i j : Nat} (hi : i < L.length) (hj : j < L.length) (e : L[i] = L[j]) : i = j := by
  have hp := List.pairwise_iff_getElem.1 h
  rcases Nat.lt_trichotomy i j with h1 | h1 | h1
  · have := hp i j hi hj h1; rw [e] at this; unfold lt at this; omega
  · exact h1
  · have := hp j i hj hi h1; rw [e] at this; unfold lt at this; omega

/-- What Old keeps behind i rounds over one list. -/
structure OldAt (L : List (Int × Int)) (i : Nat) (s : PS) (Q r : Nat) : Prop where
  is : ∃ f, s = .old i f ∧ (∀ j (h : j < L.length), j < r → f L[j].1 L[j].2 = (Q + j + 1 : Nat)) ∧ (∀ j (h : j < L.length), r ≤ j → (Q = 0 ∧ f L[j].1 L[j].2 = 0) ∨ (L.length ≤ Q ∧ f L[j].1 L[j].2 = (Q - L.length + j + 1 : Nat)))
  sum : i = Q + r
  lt : r < L.length
  mod : Q % L.length = 0

theorem old_at (L : List (Int × Int)) (hL : Sorted L) (h0 : 0 < L.length) : ∀ i, ∃ Q r, OldAt L i ((PS.start 5 7).steps L i) Q r ∧ (((PS.start 5 7).steps L i).next L).1 = r := by
  have place : ∀ i s Q r, OldAt L i s Q r → (s.next L).1 = r := by
    intro i s Q r h
    obtain ⟨f, rfl, hlo, hhi⟩ := h.is
    have hr := h.lt
    refine oldTo_min f L r hr (fun j hj hjr => ?_) (fun j hj hjr => ?_)
    · have e1 := hlo j hj hjr
      rcases hhi r hr (Nat.le_refl _) with ⟨_, e2⟩ | ⟨_, e2⟩ <;> omega
    · rcases hhi j hj (by omega) with ⟨q1, e1⟩ | ⟨q1, e1⟩ <;> rcases hhi r hr (Nat.le_refl _) with ⟨_, e2⟩ | ⟨_, e2⟩ <;> omega
  intro i
  induction i with
  | zero =>
    have h : OldAt L 0 ((PS.start 5 7).steps L 0) 0 0 := ⟨⟨fun _ _ => 0, rfl, fun j _ h => absurd h (by omega), fun j _ _ => .inl ⟨rfl, rfl⟩⟩, rfl, h0, Nat.zero_mod _⟩
    exact ⟨0, 0, h, place _ _ _ _ h⟩
  | succ i ih =>
    obtain ⟨Q, r, h, hp⟩ := ih
    obtain ⟨f, hs, hlo, hhi⟩ := h.is
    have hr := h.lt
    have hsum := h.sum
    have hmod := h.mod
    have hto : oldTo f L L.length = r := by rw [hs] at hp; exact hp
    have hst : (PS.start 5 7).steps L (i + 1) = .old (i + 1) (fun a c => if (a, c) = L[r] then ((i + 1 : Nat) : Int) else f a c) := by
      show (((PS.start 5 7).steps L i).next L).2 = _
      rw [hs]
      simp only [PS.next, hto]
      congr 1
      funext a c
      simp [List.getD, hr]
    have hval : ∀ j (hj : j < L.length), (if (L[j].1, L[j].2) = L[r] then ((i + 1 : Nat) : Int) else f L[j].1 L[j].2) = if j = r then ((i + 1 : Nat) : Int) else f L[j].1 L[j].2 := by
      intro j hj
      by_cases e : j = r
      · subst e; rw [if_pos rfl, if_pos rfl]
      · rw [if_neg e, if_neg (fun h => e (ne_of_sorted hL hj hr h))]
    by_cases hl : r + 1 < L.length
    · have h' : OldAt L (i + 1) ((PS.start 5 7).steps L (i + 1)) Q (r + 1) := by
        refine ⟨⟨_, hst, fun j hj hjr => ?_, fun j hj hjr => ?_⟩, by omega, hl, hmod⟩
        · simp only [hval j hj]
          by_cases e : j = r
          · rw [if_pos e]; omega
          · rw [if_neg e]; exact hlo j hj (by omega)
        · simp only [hval j hj]
          rw [if_neg (by omega)]
          exact hhi j hj (by omega)
      exact ⟨Q, r + 1, h', place _ _ _ _ h'⟩
    · have h' : OldAt L (i + 1) ((PS.start 5 7).steps L (i + 1)) (Q + L.length) 0 := by
        refine ⟨⟨_, hst, fun j hj hjr => absurd hjr (by omega), fun j hj hjr => .inr ⟨by omega, ?_⟩⟩, by omega, h0, by rw [Nat.add_mod_right]; exact hmod⟩
        simp only [hval j hj]
        by_cases e : j = r
        · rw [if_pos e]; omega
        · rw [if_neg e, hlo j hj (by omega)]; omega
      exact ⟨Q + L.length, 0, h', place _ _ _ _ h'⟩

/-- The place that Old names in its t-th round, and Turns. -/
def yO (L : List (Int × Int)) (t : Nat) : Nat := (((PS.start 5 7).steps L t).next L).1
def yT (L : List (Int × Int)) (t : Nat) : Nat := (((PS.start 3 7).steps L t).next L).1
theorem yO_eq (L : List (Int × Int)) (hL : Sorted L) (h0 : 0 < L.length) (t : Nat) : yO L t = t % L.length := by
  obtain ⟨Q, r, h, hp⟩ := old_at L hL h0 t
  unfold yO
  rw [hp, h.sum, Nat.add_mod, h.mod, Nat.zero_add, Nat.mod_mod]
  exact (Nat.mod_eq_of_lt h.lt).symm
theorem old_ok (L : List (Int × Int)) (hL : Sorted L) (h0 : 0 < L.length) (t : Nat) (ht : t < 1048576) : ((PS.start 5 7).steps L t).ok := by
  obtain ⟨Q, r, h, _⟩ := old_at L hL h0 t
  obtain ⟨f, hs, _⟩ := h.is
  rw [hs]
  exact ht
theorem yO_ne (L : List (Int × Int)) (hL : Sorted L) (h0 : 0 < L.length) (i j : Nat) (hij : j < i) (hw : i < j + L.length) : yO L i ≠ yO L j := by
  rw [yO_eq L hL h0, yO_eq L hL h0]
  intro e
  have h1 := Nat.div_add_mod i L.length
  have h2 := Nat.div_add_mod j L.length
  have h3 : L.length * (i / L.length) = L.length * (j / L.length) + (i - j) := by omega
  rcases Nat.lt_or_ge (i / L.length) (j / L.length + 1) with h | h
  · have : L.length * (i / L.length) ≤ L.length * (j / L.length) := Nat.mul_le_mul_left _ (by omega)
    omega
  · have : L.length * (j / L.length + 1) ≤ L.length * (i / L.length) := Nat.mul_le_mul_left _ h
    rw [Nat.mul_add] at this
    omega

theorem turns_steps (L : List (Int × Int)) : ∀ t, ∃ a, (PS.start 3 7).steps L t = .turns a ∧ (t = 0 → a = -1) ∧ (∀ s, t = s + 1 → a = (L.getD (yT L s) (0, 0)).1)
  | 0 => ⟨-1, rfl, fun _ => rfl, fun s h => absurd h (by omega)⟩
  | t + 1 => by
    obtain ⟨a, h, _⟩ := turns_steps L t
    have e : yT L t = turnAt a L := by unfold yT; rw [h]; rfl
    refine ⟨(L.getD (turnAt a L) (0, 0)).1, ?_, fun h => absurd h (by omega), fun s hs => ?_⟩
    · show (((PS.start 3 7).steps L t).next L).2 = _
      rw [h]; rfl
    · have : s = t := by omega
      subst this
      rw [e]
theorem yT_lt (L : List (Int × Int)) (h0 : 0 < L.length) (t : Nat) : yT L t < L.length := by
  obtain ⟨a, h, _⟩ := turns_steps L t
  unfold yT
  rw [h]
  exact turnAt_lt h0
theorem turns_ok (L : List (Int × Int)) (t : Nat) : ((PS.start 3 7).steps L t).ok := by
  obtain ⟨a, h, _⟩ := turns_steps L t
  rw [h]; trivial

theorem mono1 {L : List (Int × Int)} (hL : Sorted L) {i j : Nat} (hij : i ≤ j) (hj : j < L.length) : L[i].1 ≤ L[j].1 := by
  by_cases e : i = j
  · subst e; omega
  · have := List.pairwise_iff_getElem.1 hL i j (by omega) hj (by omega)
    unfold lt at this; omega
theorem grp_mono (L : List (Int × Int)) {i j : Nat} (hij : i ≤ j) : grp L i ≤ grp L j := by
  induction j with
  | zero => have : i = 0 := by omega
            subst this; omega
  | succ j ih =>
    by_cases e : i = j + 1
    · subst e; omega
    · have := ih (by omega); simp only [grp]; omega
theorem grp_same {L : List (Int × Int)} (hL : Sorted L) {i j : Nat} (hij : i ≤ j) (hj : j < L.length) : L[i].1 = L[j].1 ↔ grp L i = grp L j := by
  induction j with
  | zero => have : i = 0 := by omega
            subst this; simp
  | succ j ih =>
    by_cases e : i = j + 1
    · subst e; simp
    · have ih := ih (by omega) (by omega)
      have m1 := mono1 hL (show i ≤ j by omega) (by omega)
      have m2 := mono1 hL (show j ≤ j + 1 by omega) hj
      have g1 := grp_mono L (show i ≤ j by omega)
      have g2 := grp_at L (j + 1) (by omega) hj
      simp only [Nat.add_sub_cancel] at g2
      by_cases e2 : L[j + 1].1 = L[j].1
      · rw [if_pos e2] at g2; rw [e2, g2]; simpa using ih
      · rw [if_neg e2] at g2
        constructor
        · intro h; omega
        · intro h
          omega

theorem turn_step {L : List (Int × Int)} (hL : Sorted L) (y : Nat) (hy : y < L.length) : grp L (turnAt L[y].1 L) = if grp L y + 1 < grp L (L.length - 1) + 1 then grp L y + 1 else 0 := by
  have h0 : 0 < L.length := by omega
  by_cases hex : ∃ j, ∃ h : j < L.length, L[y].1 < L[j].1
  · -- the first such place
    have hfind : ∃ k, ∃ h : k < L.length, L[y].1 < L[k].1 ∧ ∀ j (h : j < L.length), j < k → L[j].1 ≤ L[y].1 := by
      have hk : turnAt L[y].1 L < L.length := turnAt_lt h0
      obtain ⟨j, hj, hlt⟩ := hex
      cases e : L.findIdx? (fun p => decide (L[y].1 < p.1)) with
      | none =>
        rw [List.findIdx?_eq_none_iff] at e
        have := e L[j] (List.getElem_mem hj)
        simp at this; omega
      | some k =>
        rw [List.findIdx?_eq_some_iff_getElem] at e
        obtain ⟨h1, h2, h3⟩ := e
        refine ⟨k, h1, by simpa using h2, fun j hj hjk => ?_⟩
        have := h3 j hjk
        simpa using this
    obtain ⟨k, hk, hlt, hno⟩ := hfind
    rw [turnAt_hit hk hlt (fun j a d hj hx => by
      have hjl : j < L.length := (List.getElem?_eq_some_iff.1 hx).1
      rw [List.getElem?_eq_getElem hjl] at hx
      injection hx with hx
      have := hno j hjl hj
      rw [hx] at this
      exact this)]
    have hky : y < k := by
      rcases Nat.lt_or_ge y k with h | h
      · exact h
      · have := mono1 hL h hy; omega
    have hk1 := hno (k - 1) (by omega) (by omega)
    have hk2 := mono1 hL (show y ≤ k - 1 by omega) (by omega)
    have hg := (grp_same hL (show y ≤ k - 1 by omega) (by omega)).1 (by omega)
    have hga := grp_at L k (by omega) hk
    rw [if_neg (by omega)] at hga
    have := grp_mono L (show k ≤ L.length - 1 by omega)
    rw [if_pos (by omega), hga, hg]
  · have hno : ∀ j (h : j < L.length), L[j].1 ≤ L[y].1 := fun j hj => by
      rcases Int.lt_or_le L[y].1 L[j].1 with h | h
      · exact absurd ⟨j, hj, h⟩ hex
      · exact h
    rw [turnAt_none (fun j a d hj hx => by
      rw [List.getElem?_eq_getElem hj] at hx
      injection hx with hx
      have := hno j hj
      rw [hx] at this
      exact this)]
    have h1 := hno (L.length - 1) (by omega)
    have h2 := mono1 hL (show y ≤ L.length - 1 by omega) (by omega)
    have := (grp_same hL (show y ≤ L.length - 1 by omega) (by omega)).1 (by omega)
    rw [if_neg (by omega)]
    rfl

theorem yT_grp {L : List (Int × Int)} (hL : Sorted L) (h0 : 0 < L.length) (t : Nat) : grp L (yT L (t + 1)) = if grp L (yT L t) + 1 < grp L (L.length - 1) + 1 then grp L (yT L t) + 1 else 0 := by
  obtain ⟨a, h, _, hs⟩ := turns_steps L (t + 1)
  have ha := hs t rfl
  have hy := yT_lt L h0 t
  have e : yT L (t + 1) = turnAt a L := by unfold yT; rw [h]; rfl
  have e2 : a = L[yT L t].1 := by rw [ha]; simp [List.getD, hy]
  rw [e, e2]
  exact turn_step hL _ hy
theorem grp_lt (L : List (Int × Int)) {y : Nat} (hy : y < L.length) : grp L y < grp L (L.length - 1) + 1 := by
  have := grp_mono L (show y ≤ L.length - 1 by omega); omega
theorem yT_cyc {L : List (Int × Int)} (hL : Sorted L) (h0 : 0 < L.length) (t : Nat) : ∀ d, d < grp L (L.length - 1) + 1 → grp L (yT L (t + d)) = if grp L (yT L t) + d < grp L (L.length - 1) + 1 then grp L (yT L t) + d else grp L (yT L t) + d - (grp L (L.length - 1) + 1)
  | 0, _ => by
    have := grp_lt L (yT_lt L h0 t)
    rw [Nat.add_zero, Nat.add_zero, if_pos this]
  | d + 1, hd => by
    have ih := yT_cyc hL h0 t d (by omega)
    have hs := yT_grp hL h0 (t + d)
    have := grp_lt L (yT_lt L h0 t)
    rw [show t + (d + 1) = t + d + 1 by omega, hs, ih]
    split <;> split <;> split <;> omega
theorem yT_ne {L : List (Int × Int)} (hL : Sorted L) (h0 : 0 < L.length) (i j : Nat) (hij : j < i) (hw : i < j + (grp L (L.length - 1) + 1)) : (L.getD (yT L i) (0, 0)).1 ≠ (L.getD (yT L j) (0, 0)).1 := by
  have hi := yT_lt L h0 i
  have hj := yT_lt L h0 j
  have e1 : (L.getD (yT L i) (0, 0)).1 = L[yT L i].1 := by simp [List.getD, hi]
  have e2 : (L.getD (yT L j) (0, 0)).1 = L[yT L j].1 := by simp [List.getD, hj]
  rw [e1, e2]
  intro e
  have hg : grp L (yT L i) = grp L (yT L j) := by
    rcases Nat.le_total (yT L i) (yT L j) with h | h
    · exact (grp_same hL h hj).1 e
    · exact ((grp_same hL h hi).1 e.symm).symm
  have hc := yT_cyc hL h0 j (i - j) (by omega)
  rw [show j + (i - j) = i by omega, hg] at hc
  have := grp_lt L hj
  split at hc <;> omega

end Go.Proofs.Ytfflfhkbnmoalaa.Pol.Fair
