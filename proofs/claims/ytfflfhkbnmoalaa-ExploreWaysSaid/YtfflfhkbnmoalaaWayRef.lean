/- The plain law of the document's near and Way: the states that are so near, and the way by them. -/
import Derived.Test.YtfflfhkbnmoalaaWayPure
namespace Go.Proofs.Ytfflfhkbnmoalaa.PExploreWays
open Go.RowKit Go.Proofs.YtfflfhkbnmoalaaW.PrintWords Go.Proofs.YtfflfhkbnmoalaaW.PrintLast Go.Proofs.YtfflfhkbnmoalaaW.PrintMore

/-- A row of marks that says P of each state. -/
def Mk (n : Nat) (P : Int → Prop) (xs : List Bool) : Prop := xs.length = n ∧ ∀ v : Int, 0 ≤ v → v < n → (rdOf false xs v = true ↔ P v)
theorem rdB_set (xs : List Bool) (i j : Int) (v : Bool) (hi : 0 ≤ i) (hj : 0 ≤ j) (hl : i < xs.length) : rdOf false (xs.set i.toNat v) j = if j = i then v else rdOf false xs j := by
  unfold rdOf
  by_cases h : j = i
  · subst h
    rw [if_pos rfl, List.getD_eq_getElem?_getD, List.getElem?_set_self (by omega)]
    rfl
  · rw [if_neg h, List.getD_eq_getElem?_getD, List.getElem?_set_ne (by omega), List.getD_eq_getElem?_getD]
theorem Mk.congr {n : Nat} {P Q : Int → Prop} {xs : List Bool} (h : Mk n P xs) (e : ∀ v : Int, 0 ≤ v → v < n → (P v ↔ Q v)) : Mk n Q xs := ⟨h.1, fun v h0 h1 => (h.2 v h0 h1).trans (e v h0 h1)⟩
theorem Mk.set {n : Nat} {P : Int → Prop} {xs : List Bool} (h : Mk n P xs) (u : Int) (h0 : 0 ≤ u) (h1 : u < n) : Mk n (fun v => P v ∨ v = u) (xs.set u.toNat true) := by
  have hl := h.1
  refine ⟨by simpa using h.1, fun v hv0 hv1 => ?_⟩
  rw [rdB_set _ _ _ _ h0 hv0 (by omega)]
  by_cases e : v = u
  · rw [if_pos e]
    simp [e]
  · rw [if_neg e]
    simp only [e, or_false]
    exact h.2 v hv0 hv1

/-- Within so many steps. -/
def In (far : List Int) (i : Int) (v : Int) : Prop := 0 ≤ rd far v ∧ rd far v ≤ i
instance (far : List Int) (i v : Int) : Decidable (In far i v) := by unfold In; infer_instance
theorem Dist.back {n : Nat} {m : List S55} {s : Int} {far : List Int} (D : Dist n m s far) (hV : Val n m) (i : Int) (h0 : 0 ≤ i) (hno : ∀ v : Int, 0 ≤ v → v < n → rd far v ≠ i + 1) : ∀ (d : Nat) (v : Int), 0 ≤ v → v < n → rd far v ≠ i + 1 + d
  | 0, v, h0, h1 => by simpa using hno v h0 h1
  | d + 1, v, hv0, hv1 => by
    intro e
    obtain ⟨x, hx, hx0, hx3⟩ := D.down v hv0 hv1 (by omega)
    exact Dist.back D hV i h0 hno d x.f3 (hV x hx).2.1 (hV x hx).2.2 (by omega)

section
variable {n : Nat} {m : List S55} {s : Int} {far : List Int} {q2 q3 : List Int}

set_option maxHeartbeats 400000 in
/-- The third loop of near. -/
theorem n2_ok (few i : Int) (more : List Int) (hl : more.length ≤ 65536) (hmo : ∀ u ∈ more, 0 ≤ u ∧ u < n) (P : Int → Prop)
    (next : ∀ xs, Mk n (fun v => P v ∨ v ∈ more) xs → ∃ k r, chordmailref27_near.l0 k few xs (wrap64 (i + 1)) n m q2 q3 = some r ∧ Mk n (In far few) r) :
    ∀ (d j : Nat) (xs : List Bool), j + d = more.length → Mk n (fun v => P v ∨ v ∈ more.take j) xs → ∃ k r, chordmailref27_near.l2 k few xs i more (j : Nat) n m q2 q3 = some r ∧ Mk n (In far few) r := by
  intro d
  induction d with
  | zero =>
    intro j xs hj h
    rw [List.take_of_length_le (by omega)] at h
    obtain ⟨k, r, hk, hr⟩ := next xs h
    refine ⟨k + 1, r, ?_, hr⟩
    simp only [chordmailref27_near.l2]
    rw [if_neg (by omega)]
    exact hk
  | succ d ih =>
    intro j xs hj h
    have hlt : j < more.length := by omega
    have hu := hmo _ (rd_mem more j hlt)
    have hxl := h.1
    have e : more.take (j + 1) = more.take j ++ [rd more j] := by
      rw [List.take_succ_eq_append_getElem hlt]
      simp [rd, hlt]
    obtain ⟨k, r, hk, hr⟩ := ih (j + 1) _ (by omega) ((h.set _ hu.1 hu.2).congr (fun v _ _ => by rw [e, List.mem_append, List.mem_singleton, or_assoc]))
    refine ⟨k + 1, r, ?_, hr⟩
    simp only [chordmailref27_near.l2]
    rw [if_pos (by omega), if_pos (by omega), if_pos hu.1, if_pos (by omega), wrap_nat j (by omega)]
    exact hk

set_option maxHeartbeats 400000 in
/-- The second loop of near. -/
theorem n1_ok (hm : m.length ≤ 65536) (hV : Val n m) (few i : Int) (xs : List Bool) (P : Int → Prop) (hx : Mk n P xs) (Q : Int → Prop)
    (stop : (∀ x ∈ m, P x.f3 → P x.f0) → Mk n Q xs)
    (next : ∀ ys, Mk n (fun v => P v ∨ ∃ x ∈ m, P x.f3 ∧ x.f0 = v) ys → ∃ k r, chordmailref27_near.l0 k few ys (wrap64 (i + 1)) n m q2 q3 = some r ∧ Mk n (In far few) r) (hQ : ∀ r, Mk n Q r → Mk n (In far few) r) :
    ∀ (d j : Nat) (more : List Int), j + d = m.length → more.length ≤ j → (∀ v, v ∈ more ↔ ∃ x ∈ m.take j, P x.f3 ∧ ¬ P x.f0 ∧ x.f0 = v) → ∃ k r, chordmailref27_near.l1 k few xs i more (j : Nat) n m q2 q3 = some r ∧ Mk n (In far few) r := by
  intro d
  induction d with
  | zero =>
    intro j more hj hml hmo
    rw [List.take_of_length_le (by omega)] at hmo
    by_cases h0 : more.length = 0
    · refine ⟨1, xs, ?_, hQ _ (stop (fun x hx hp => Classical.byContradiction (fun hn => ?_)))⟩
      · simp only [chordmailref27_near.l1]
        rw [if_neg (by omega), if_pos (by omega)]
      · have : x.f0 ∈ more := (hmo x.f0).2 ⟨x, hx, hp, hn, rfl⟩
        rw [List.length_eq_zero_iff.1 h0] at this
        simp at this
    · obtain ⟨k, r, hk, hr⟩ := n2_ok few i more (by omega) (fun u hu => by
        obtain ⟨x, hx, _, _, rfl⟩ := (hmo u).1 hu
        exact (hV x hx).1) P (fun ys hy => next ys (hy.congr (fun v _ _ => by
          constructor
          · rintro (h | h)
            · exact .inl h
            · obtain ⟨x, hx, a, _, c⟩ := (hmo v).1 h
              exact .inr ⟨x, hx, a, c⟩
          · rintro (h | ⟨x, hx, a, c⟩)
            · exact .inl h
            · by_cases hp : P v
              · exact .inl hp
              · exact .inr ((hmo v).2 ⟨x, hx, a, by rw [c]; exact hp, c⟩)))) more.length 0 xs (by omega) (hx.congr (fun v _ _ => by simp))
      refine ⟨k + 1, r, ?_, hr⟩
      simp only [chordmailref27_near.l1]
      rw [if_neg (by omega), if_neg (by omega)]
      exact hk
  | succ d ih =>
    intro j more hj hml hmo
    have hlt : j < m.length := by omega
    have hxv := hV m[j] (List.getElem_mem hlt)
    have hxl := hx.1
    have e : m.take (j + 1) = m.take j ++ [m[j]] := List.take_succ_eq_append_getElem hlt
    have h3 := hx.2 m[j].f3 hxv.2.1 hxv.2.2
    have h0 := hx.2 m[j].f0 hxv.1.1 hxv.1.2
    have skip : ¬ (P m[j].f3 ∧ ¬ P m[j].f0) → ∃ k r, chordmailref27_near.l1 k few xs i more ((j + 1 : Nat) : Int) n m q2 q3 = some r ∧ Mk n (In far few) r := fun hs => ih (j + 1) more (by omega) (by omega) (fun v => by
      rw [hmo v, e]
      constructor
      · rintro ⟨x, hx, r⟩
        exact ⟨x, List.mem_append_left _ hx, r⟩
      · rintro ⟨x, hx, r⟩
        rw [List.mem_append, List.mem_singleton] at hx
        rcases hx with hx | rfl
        · exact ⟨x, hx, r⟩
        · exact absurd ⟨r.1, r.2.1⟩ hs)
    by_cases c3 : rdOf false xs m[j].f3 = true
    · by_cases c0 : rdOf false xs m[j].f0 = true
      · obtain ⟨k, r, hk, hr⟩ := skip (fun h => h.2 (h0.1 c0))
        refine ⟨k + 1, r, ?_, hr⟩
        simp only [chordmailref27_near.l1]
        rw [if_pos (by omega), if_pos (by omega), rd_at m j hlt, if_pos hxv.2.1, if_pos (by omega), if_pos c3, if_pos hxv.1.1, if_pos (by omega), if_pos c0, wrap_nat j (by omega)]
        exact hk
      · obtain ⟨k, r, hk, hr⟩ := ih (j + 1) (more ++ [m[j].f0]) (by omega) (by simp only [List.length_append, List.length_cons, List.length_nil]; omega) (fun v => by
          rw [List.mem_append, List.mem_singleton, hmo v, e]
          constructor
          · rintro (⟨x, hx, r⟩ | rfl)
            · exact ⟨x, List.mem_append_left _ hx, r⟩
            · exact ⟨m[j], List.mem_append_right _ (by simp), h3.1 c3, fun h => c0 (h0.2 h), rfl⟩
          · rintro ⟨x, hx, r⟩
            rw [List.mem_append, List.mem_singleton] at hx
            rcases hx with hx | rfl
            · exact .inl ⟨x, hx, r⟩
            · exact .inr r.2.2.symm)
        refine ⟨k + 1, r, ?_, hr⟩
        simp only [chordmailref27_near.l1]
        rw [if_pos (by omega), if_pos (by omega), rd_at m j hlt, if_pos hxv.2.1, if_pos (by omega), if_pos c3, if_pos hxv.1.1, if_pos (by omega), if_neg c0, if_pos (by omega), wrap_nat j (by omega)]
        exact hk
    · obtain ⟨k, r, hk, hr⟩ := skip (fun h => c3 (h3.2 h.1))
      refine ⟨k + 1, r, ?_, hr⟩
      simp only [chordmailref27_near.l1]
      rw [if_pos (by omega), if_pos (by omega), rd_at m j hlt, if_pos hxv.2.1, if_pos (by omega), if_neg c3, wrap_nat j (by omega)]
      exact hk

theorem n0_ok (hm : m.length ≤ 65536) (hV : Val n m) (D : Dist n m s far) (few : Nat) (hf : few ≤ 65536) :
    ∀ (d i : Nat) (xs : List Bool), i + d = few → Mk n (In far i) xs → ∃ k r, chordmailref27_near.l0 k few xs (i : Nat) n m q2 q3 = some r ∧ Mk n (In far few) r := by
  intro d
  induction d with
  | zero =>
    intro i xs hi h
    obtain rfl : i = few := by omega
    refine ⟨1, xs, ?_, h⟩
    simp only [chordmailref27_near.l0]
    rw [if_neg (by omega)]
  | succ d ih =>
    intro i xs hi h
    obtain ⟨k, r, hk, hr⟩ := n1_ok (q2 := q2) (q3 := q3) (far := far) hm hV few i xs (In far i) h (In far few) (fun hc => h.congr (fun v h0 h1 => by
        refine ⟨fun a => ⟨a.1, by have := a.2; omega⟩, fun a => ⟨a.1, ?_⟩⟩
        refine Classical.byContradiction (fun hgt => ?_)
        refine D.back hV i (by omega) (fun u hu0 hu1 e => ?_) (rd far v - i - 1).toNat v h0 h1 (by omega)
        obtain ⟨x, hx, hx0, hx3⟩ := D.down u hu0 hu1 (by omega)
        have hp : In far i x.f0 := hc x hx ⟨by omega, by omega⟩
        unfold In at hp
        rw [hx0] at hp
        omega)) (fun ys hy => by
        rw [wrap_nat i (by omega)]
        refine ih (i + 1) ys (by omega) (hy.congr (fun v h0 h1 => ?_))
        constructor
        · rintro (a | ⟨x, hx, a, rfl⟩)
          · exact ⟨a.1, by have := a.2; omega⟩
          · have := D.edge x hx a.1
            have := a.2
            exact ⟨by omega, by omega⟩
        · intro a
          by_cases e : rd far v ≤ i
          · exact .inl ⟨a.1, e⟩
          · have := a.2
            obtain ⟨x, hx, hx0, hx3⟩ := D.down v h0 h1 (by omega)
            exact .inr ⟨x, hx, ⟨by omega, by omega⟩, hx0⟩) (fun r hr => hr) m.length 0 [] (by omega) (by simp) (fun v => by simp)
    refine ⟨k + 1, r, ?_, hr⟩
    simp only [chordmailref27_near.l0]
    rw [if_pos (by omega)]
    exact hk

theorem near_ok (hn : n ≤ 4096) (hm : m.length ≤ 65536) (hV : Val n m) (hs : 0 ≤ s ∧ s < n) (D : Dist n m s far) (few : Nat) (hf : few ≤ 65536) :
    ∃ k r, chordmailref27_near.f k n m q2 q3 s few = some r ∧ Mk n (In far few) r := by
  have h0 : Mk n (In far (0 : Nat)) ((List.replicate n false).set s.toNat true) := by
    refine ⟨by simp, fun v h0 h1 => ?_⟩
    rw [rdB_set _ _ _ _ hs.1 h0 (by simpa using hs.2)]
    by_cases e : v = s
    · subst e
      rw [if_pos rfl]
      simp [In, D.s0]
    · rw [if_neg e]
      have : rdOf false (List.replicate n false) v = false := by
        simp only [rdOf, List.getD_eq_getElem?_getD, List.getElem?_replicate]
        split <;> rfl
      rw [this]
      simp only [In, Bool.false_eq_true, false_iff, not_and]
      intro a b
      exact e (D.zero v h0 h1 (by omega))
  obtain ⟨k, r, hk, hr⟩ := n0_ok (q2 := q2) (q3 := q3) hm hV D few hf few 0 _ (by omega) h0
  refine ⟨k, r, ?_, hr⟩
  unfold chordmailref27_near.f
  rw [if_pos (by omega), if_pos (by omega), Option.bind_some, if_pos hs.1, if_pos (by simpa using hs.2)]
  simpa using hk

/-- The way by the steps that lead nearer. -/
def path (m : List S55) (far : List Int) : Nat → Int → List S55
  | 0, _ => []
  | f + 1, at_ => match m.find? (fun x => decide (x.f0 = at_ ∧ In far f x.f3)) with
    | some x => x :: path m far f x.f3
    | none => path m far f at_

theorem w3_ok (hm : m.length ≤ 65536) (hV : Val n m) (few : Nat) (at_ : Int) (out : List S55) (hout : out.length ≤ 65536) (xs : List Bool) (hx : Mk n (In far few) xs) (q : List S55 → Int → List S55)
    (next : ∀ out2 at2, out2.length ≤ out.length + 1 → ∃ k, chordmailref27_Way.l2 k s few out2 at2 n m q2 q3 = some (out2 ++ q out2 at2, 0)) :
    ∀ (d j : Nat), j + d = m.length → ∃ k, chordmailref27_Way.l3 k s few out at_ xs (j : Nat) n m q2 q3 =
      some (match (m.drop j).find? (fun x => decide (x.f0 = at_ ∧ In far few x.f3)) with
        | some x => (out ++ [x]) ++ q (out ++ [x]) x.f3
        | none => out ++ q out at_, 0) := by
  intro d
  induction d with
  | zero =>
    intro j hj
    obtain ⟨k, hk⟩ := next out at_ (by omega)
    refine ⟨k + 1, ?_⟩
    rw [List.drop_of_length_le (by omega)]
    simp only [chordmailref27_Way.l3, List.find?_nil]
    rw [if_neg (by omega)]
    exact hk
  | succ d ih =>
    intro j hj
    have hlt : j < m.length := by omega
    have hxv := hV m[j] (List.getElem_mem hlt)
    have hxl := hx.1
    have h3 := hx.2 m[j].f3 hxv.2.1 hxv.2.2
    rw [List.drop_eq_getElem_cons hlt, List.find?_cons]
    by_cases c0 : m[j].f0 = at_
    · by_cases c3 : rdOf false xs m[j].f3 = true
      · obtain ⟨k, hk⟩ := next (out ++ [m[j]]) m[j].f3 (by simp)
        refine ⟨k + 1, ?_⟩
        rw [decide_eq_true (show m[j].f0 = at_ ∧ In far few m[j].f3 from ⟨c0, h3.1 c3⟩)]
        simp only [chordmailref27_Way.l3]
        rw [if_pos (by omega), if_pos (by omega), rd_at m j hlt, if_pos c0, if_pos hxv.2.1, if_pos (by omega), if_pos c3, if_pos (by omega)]
        exact hk
      · obtain ⟨k, hk⟩ := ih (j + 1) (by omega)
        refine ⟨k + 1, ?_⟩
        rw [decide_eq_false (show ¬ (m[j].f0 = at_ ∧ In far few m[j].f3) from fun h => c3 (h3.2 h.2))]
        simp only [chordmailref27_Way.l3]
        rw [if_pos (by omega), if_pos (by omega), rd_at m j hlt, if_pos c0, if_pos hxv.2.1, if_pos (by omega), if_neg c3, wrap_nat j (by omega)]
        exact hk
    · obtain ⟨k, hk⟩ := ih (j + 1) (by omega)
      refine ⟨k + 1, ?_⟩
      rw [decide_eq_false (show ¬ (m[j].f0 = at_ ∧ In far few m[j].f3) from fun h => c0 h.1)]
      simp only [chordmailref27_Way.l3]
      rw [if_pos (by omega), if_pos (by omega), rd_at m j hlt, if_neg c0, wrap_nat j (by omega)]
      exact hk

theorem w2_ok (hn : n ≤ 4096) (hm : m.length ≤ 65536) (hV : Val n m) (hs : 0 ≤ s ∧ s < n) (D : Dist n m s far) :
    ∀ (few : Nat) (at_ : Int) (out : List S55), out.length + few ≤ 65536 → ∃ k, chordmailref27_Way.l2 k s few out at_ n m q2 q3 = some (out ++ path m far few at_, 0) := by
  intro few
  induction few with
  | zero =>
    intro at_ out _
    refine ⟨1, ?_⟩
    simp only [chordmailref27_Way.l2, path, List.append_nil]
    rw [if_neg (by omega)]
  | succ few ih =>
    intro at_ out ho
    obtain ⟨k1, xs, hk1, hxs⟩ := near_ok (q2 := q2) (q3 := q3) hn hm hV hs D few (by omega)
    obtain ⟨k2, hk2⟩ := w3_ok (s := s) (q2 := q2) (q3 := q3) hm hV few at_ out (by omega) xs hxs (fun _ a => path m far few a) (fun out2 at2 h => ih at2 out2 (by omega)) m.length 0 (by omega)
    refine ⟨k1 + k2 + 1, ?_⟩
    have e1 := more_rounds (fun k => chordmailref27_near.mono n m q2 q3 s few k) k1 k2 _ hk1
    have e2 := more_rounds (fun k => (chordmailref27_Way.mono_l k).2.2.2.2 s few out at_ xs (0 : Nat) n m q2 q3) k2 k1 _ hk2
    rw [Nat.add_comm k2 k1] at e2
    have w : wrap64 (((few + 1 : Nat) : Int) - 1) = few := by rw [w64 _ (by omega)]; omega
    simp only [chordmailref27_Way.l2]
    rw [if_pos (by omega), w, e1, Option.bind_some]
    refine e2.trans ?_
    rw [List.drop_zero, path]
    cases m.find? (fun x => decide (x.f0 = at_ ∧ In far few x.f3)) with
    | none => rfl
    | some x => simp

theorem w1_ok (hn : n ≤ 4096) (hm : m.length ≤ 65536) (hV : Val n m) (hs : 0 ≤ s ∧ s < n) (D : Dist n m s far) :
    ∀ (d few : Nat), few + d = n + 1 → (0 ≤ rd far 0 → few ≤ rd far 0) → ∃ k, chordmailref27_Way.l1 k s few n m q2 q3 = some (if 0 ≤ rd far 0 then (path m far (rd far 0).toNat 0, 0) else ([], 230)) := by
  intro d
  induction d with
  | zero =>
    intro few hf hle
    have hb := D.bnd 0 (by omega) (by omega)
    obtain ⟨k1, xs, hk1, hxs⟩ := near_ok (q2 := q2) (q3 := q3) hn hm hV hs D few (by omega)
    have hz := hxs.2 0 (by omega) (by omega)
    have hl := hxs.1
    have hneg : ¬ 0 ≤ rd far 0 := fun h => by have := hle h; omega
    refine ⟨k1 + 1, ?_⟩
    have hnz : ¬ rdOf false xs 0 = true := fun h => hneg (hz.1 h).1
    simp only [chordmailref27_Way.l1]
    rw [hk1, Option.bind_some, if_pos (by omega), if_neg hnz, wrap_nat few (by omega), if_pos (by omega), if_neg hneg]
  | succ d ih =>
    intro few hf hle
    have hb := D.bnd 0 (by omega) (by omega)
    obtain ⟨k1, xs, hk1, hxs⟩ := near_ok (q2 := q2) (q3 := q3) hn hm hV hs D few (by omega)
    have hz := hxs.2 0 (by omega) (by omega)
    have hl := hxs.1
    by_cases c : rdOf false xs 0 = true
    · have hin := hz.1 c
      unfold In at hin
      have hle' := hle hin.1
      obtain ⟨k2, hk2⟩ := w2_ok (q2 := q2) (q3 := q3) hn hm hV hs D few 0 [] (by simp; omega)
      refine ⟨k1 + k2 + 1, ?_⟩
      have e1 := more_rounds (fun k => chordmailref27_near.mono n m q2 q3 s few k) k1 k2 _ hk1
      have e2 := more_rounds (fun k => (chordmailref27_Way.mono_l k).2.2.2.1 s few [] 0 n m q2 q3) k2 k1 _ hk2
      rw [Nat.add_comm k2 k1] at e2
      simp only [chordmailref27_Way.l1]
      rw [e1, Option.bind_some, if_pos (by omega), if_pos c, e2, if_pos hin.1, List.nil_append]
      rw [show few = (rd far 0).toNat from by omega]
    · have hgt : 0 ≤ rd far 0 → ((few + 1 : Nat) : Int) ≤ rd far 0 := fun h => by
        have := hle h
        refine Classical.byContradiction (fun hn => c (hz.2 ⟨h, by omega⟩))
      by_cases hl2 : ((few + 1 : Nat) : Int) > n
      · have hneg : ¬ 0 ≤ rd far 0 := fun h => by have := hgt h; omega
        refine ⟨k1 + 1, ?_⟩
        simp only [chordmailref27_Way.l1]
        rw [hk1, Option.bind_some, if_pos (by omega), if_neg c, wrap_nat few (by omega), if_pos hl2, if_neg hneg]
      · obtain ⟨k2, hk2⟩ := ih (few + 1) (by omega) hgt
        refine ⟨k1 + k2 + 1, ?_⟩
        have e1 := more_rounds (fun k => chordmailref27_near.mono n m q2 q3 s few k) k1 k2 _ hk1
        have e2 := more_rounds (fun k => (chordmailref27_Way.mono_l k).2.2.1 s ((few + 1 : Nat) : Int) n m q2 q3) k2 k1 _ hk2
        rw [Nat.add_comm k2 k1] at e2
        simp only [chordmailref27_Way.l1]
        rw [e1, Option.bind_some, if_pos (by omega), if_neg c, wrap_nat few (by omega), if_neg hl2]
        exact e2

theorem within_eq (a : Int) (v : Int) (m : List S55) : chordmailref27_within.f a m q2 q3 v = some (decide (0 ≤ v ∧ v < a)) := by
  unfold chordmailref27_within.f
  by_cases h : 0 ≤ v
  · rw [if_pos (by omega)]
    simp [h]
  · rw [if_neg (by omega), decide_eq_false (by omega)]

theorem w0_ok (hm : m.length ≤ 65536) (res : List S55 × Int)
    (next : Val n m → ∃ k, chordmailref27_Way.l1 k s 0 n m q2 q3 = some res) :
    ∀ (d j : Nat), j + d = m.length → (Val n (m.take j)) → (Val n m ∧ (∃ k, chordmailref27_Way.l0 k s (j : Nat) n m q2 q3 = some res)) ∨ (¬ Val n m ∧ (∃ k, chordmailref27_Way.l0 k s (j : Nat) n m q2 q3 = some ([], 2))) := by
  intro d
  induction d with
  | zero =>
    intro j hj hv
    rw [List.take_of_length_le (by omega)] at hv
    obtain ⟨k, hk⟩ := next hv
    refine .inl ⟨hv, k + 1, ?_⟩
    simp only [chordmailref27_Way.l0]
    rw [if_neg (by omega)]
    exact hk
  | succ d ih =>
    intro j hj hv
    have hlt : j < m.length := by omega
    by_cases c0 : 0 ≤ m[j].f0 ∧ m[j].f0 < n
    · by_cases c3 : 0 ≤ m[j].f3 ∧ m[j].f3 < n
      · have hv2 : Val n (m.take (j + 1)) := by
          intro x hx
          rw [List.take_succ_eq_append_getElem hlt, List.mem_append, List.mem_singleton] at hx
          rcases hx with hx | rfl
          · exact hv x hx
          · exact ⟨c0, c3⟩
        rcases ih (j + 1) (by omega) hv2 with ⟨h, k, hk⟩ | ⟨h, k, hk⟩
        · refine .inl ⟨h, k + 1, ?_⟩
          simp only [chordmailref27_Way.l0]
          rw [if_pos (by omega), if_pos (by omega), rd_at m j hlt, within_eq, Option.bind_some, if_pos (decide_eq_true c0), within_eq, Option.bind_some, if_pos (decide_eq_true c3), wrap_nat j (by omega)]
          exact hk
        · refine .inr ⟨h, k + 1, ?_⟩
          simp only [chordmailref27_Way.l0]
          rw [if_pos (by omega), if_pos (by omega), rd_at m j hlt, within_eq, Option.bind_some, if_pos (decide_eq_true c0), within_eq, Option.bind_some, if_pos (decide_eq_true c3), wrap_nat j (by omega)]
          exact hk
      · refine .inr ⟨fun h => c3 (h m[j] (List.getElem_mem hlt)).2, 1, ?_⟩
        simp only [chordmailref27_Way.l0]
        rw [if_pos (by omega), if_pos (by omega), rd_at m j hlt, within_eq, Option.bind_some, if_pos (decide_eq_true c0), within_eq, Option.bind_some, if_neg (by simp only [decide_eq_true_eq]; exact c3)]
    · refine .inr ⟨fun h => c0 (h m[j] (List.getElem_mem hlt)).1, 1, ?_⟩
      simp only [chordmailref27_Way.l0]
      rw [if_pos (by omega), if_pos (by omega), rd_at m j hlt, within_eq, Option.bind_some, if_neg (by simp only [decide_eq_true_eq]; exact c0)]
end

/-- What the document's Way answers. -/
theorem way_ok (a : Int) (m : List S55) (s : Int) (q2 q3 : List Int) (hm : m.length ≤ 65536) :
    (¬ (1 ≤ a ∧ a ≤ 4096 ∧ 0 ≤ s ∧ s < a) ∧ ∃ k, chordmailref27_Way.f k a m q2 q3 s = some ([], 2)) ∨
    ∃ n : Nat, a = n ∧ 1 ≤ n ∧ n ≤ 4096 ∧ (0 ≤ s ∧ s < n) ∧
      ((¬ Val n m ∧ ∃ k, chordmailref27_Way.f k a m q2 q3 s = some ([], 2)) ∨
       (Val n m ∧ ∀ far, Dist n m s far → ∃ k, chordmailref27_Way.f k a m q2 q3 s = some (if 0 ≤ rd far 0 then (path m far (rd far 0).toNat 0, 0) else ([], 230)))) := by
  have bad : ∀ k, chordmailref27_Way.j0 (k + 1) s true a m q2 q3 = some ([], 2) := fun k => by
    simp only [chordmailref27_Way.j0, if_true]
  by_cases h1 : a < 1
  · exact .inl ⟨by omega, 1, by unfold chordmailref27_Way.f; rw [if_pos h1]; exact bad 0⟩
  by_cases h2 : a > 4096
  · exact .inl ⟨by omega, 1, by unfold chordmailref27_Way.f; rw [if_neg h1, if_pos h2]; exact bad 0⟩
  by_cases h3 : 0 ≤ s ∧ s < a
  · obtain ⟨n, rfl⟩ : ∃ n : Nat, a = n := ⟨a.toNat, by omega⟩
    refine .inr ⟨n, rfl, by omega, by omega, h3, ?_⟩
    have go : ∀ k r, chordmailref27_Way.l0 k s ((0 : Nat) : Int) n m q2 q3 = some r → chordmailref27_Way.f (k + 1) n m q2 q3 s = some r := fun k r hk => by
      unfold chordmailref27_Way.f
      rw [if_neg h1, if_neg h2, within_eq, Option.bind_some, if_pos (decide_eq_true h3), decide_eq_false (by omega)]
      simp only [chordmailref27_Way.j0]
      rw [if_neg (by simp)]
      exact hk
    by_cases hV : Val n m
    · refine .inr ⟨hV, fun far D => ?_⟩
      rcases w0_ok (q2 := q2) (q3 := q3) hm _ (fun _ => w1_ok (q2 := q2) (q3 := q3) (by omega) hm hV h3 D (n + 1) 0 (by omega) (fun h => by omega)) m.length 0 (by omega) (fun x hx => by simp at hx) with ⟨_, k, hk⟩ | ⟨h, _⟩
      · exact ⟨k + 1, go k _ hk⟩
      · exact absurd hV h
    · rcases w0_ok (s := s) (q2 := q2) (q3 := q3) hm ([], 2) (fun h => absurd h hV) m.length 0 (by omega) (fun x hx => by simp at hx) with ⟨h, _⟩ | ⟨_, k, hk⟩
      · exact absurd h hV
      · exact .inl ⟨hV, k + 1, go k _ hk⟩
  · refine .inl ⟨by omega, 1, ?_⟩
    unfold chordmailref27_Way.f
    rw [if_neg h1, if_neg h2, within_eq, Option.bind_some, if_neg (by simp only [decide_eq_true_eq]; exact h3)]
    exact bad 0
end Go.Proofs.Ytfflfhkbnmoalaa.PExploreWays
