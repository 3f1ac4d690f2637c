/- chordmaillaw24.does: a step at both books. -/
import Derived.Test.YtlbfnnngemonoaaFatSay
namespace Go.Proofs.Ytlbfnnngemonoaa.Fat
open Go.RowKit Go.Proofs.Ytlbfnnngemonoaa.PFateBooks
open Go.Proofs.YtlbfnnngemonoaaW.PrintWords Go.Proofs.YtlbfnnngemonoaaW.PrintLast Go.Proofs.YtlbfnnngemonoaaW.PrintMore
set_option linter.unusedVariables false
set_option linter.unusedSimpArgs false

theorem num_any (e : Int) (w : World) : Calls Try.prog 44 #[.int .i64 e] w fun r w' => r = .returned (.int .i64 e) ∧ Below w.heap.size w w' :=
  (chordmaillaw24_num.calls e e w rfl).mono fun r w' ⟨h1, h2⟩ => ⟨h1, h2.below⟩
theorem empty3 {W : World} {base g : Nat} (h : Blk W g 3 #[]) (hg : base ≤ g) : Kd.R (Kd.int .i64) 3 W base (fun _ => True) (.slice (some ⟨g, 0, none⟩) 0 0) [] :=
  ⟨fun _ _ => trivial, [], ⟨rfl, .inr ⟨g, 0, #[], rfl, hg, h, Nat.le_refl _, by unfold maxLen; omega, rfl, rfl⟩⟩, Reps.none _ _⟩
/-- Two pointers: both nil, or like books; G: their blocks. -/
def Bo (W : World) (P1 P2 : Option Addr) (G : List Nat) (ts : List S134) (n : Int) : Prop :=
  (P1 = none ∧ P2 = none ∧ G = []) ∨ ∃ (p d : Nat) (S T : List Nat), P1 = some ⟨p, 0, none⟩ ∧ P2 = some ⟨d, 0, none⟩ ∧ G = S ++ T ∧ (∀ x ∈ S, x ∉ T) ∧ Bk W p S ts n ∧ Rk W d T ts n
theorem Bk.lt {w : World} {p : Nat} {S : List Nat} {ts : List S134} {n : Int} (h : Bk w p S ts n) : ∀ x ∈ S, x < w.heap.size := by
  obtain ⟨v, rfl, hB, hR⟩ := h
  intro x hx
  rcases List.mem_cons.1 hx with rfl | hx
  · exact hB.lt
  · exact Kd.R_lt hR x (by simpa using hx)
theorem Rk.lt {w : World} {p : Nat} {S : List Nat} {ts : List S134} {n : Int} (h : Rk w p S ts n) : ∀ x ∈ S, x < w.heap.size := by
  obtain ⟨v, rfl, hB, hR⟩ := h
  intro x hx
  rcases List.mem_cons.1 hx with rfl | hx
  · exact hB.lt
  · exact Kd.R_lt hR x (by simpa using hx)
theorem Bk.chg {w w' : World} {p : Nat} {S G : List Nat} {ts : List S134} {n : Int} (h : Bk w p S ts n) (hc : Chg G w w') (hd : ∀ x ∈ S, x ∉ G) : Bk w' p S ts n := by
  obtain ⟨v, rfl, hB, hR⟩ := h
  refine ⟨v, rfl, hB.chg hc (hd p (by simp)), ?_⟩
  obtain ⟨h0, inner, ho, hr⟩ := hR
  refine ⟨h0, inner, own_move ho (fun k hk => hc.block k (own_lt ho k hk) (hd k (by rw [hk]; simp))), hr.imp_ (fun x cs hp => ?_)⟩
  rw [k43_openM hp]
  exact k43_mkM _ _ _ x
theorem Rk.chg {w w' : World} {p : Nat} {S G : List Nat} {ts : List S134} {n : Int} (h : Rk w p S ts n) (hc : Chg G w w') (hd : ∀ x ∈ S, x ∉ G) : Rk w' p S ts n := by
  obtain ⟨v, rfl, hB, hR⟩ := h
  refine ⟨v, rfl, hB.chg hc (hd p (by simp)), ?_⟩
  obtain ⟨h0, inner, ho, hr⟩ := hR
  refine ⟨h0, inner, own_move ho (fun k hk => hc.block k (own_lt ho k hk) (hd k (by rw [hk]; simp))), hr.imp_ (fun x cs hp => ?_)⟩
  rw [k134_openM hp]
  exact k134_mkM _ _ _ x
theorem Bo.lt {W : World} {P1 P2 : Option Addr} {G : List Nat} {ts : List S134} {n : Int} (h : Bo W P1 P2 G ts n) : ∀ x ∈ G, x < W.heap.size := by
  rcases h with ⟨_, _, rfl⟩ | ⟨p, d, S, T, _, _, rfl, _, hP, hR⟩
  · simp
  · intro x hx
    rcases List.mem_append.1 hx with hx | hx
    · exact hP.lt x hx
    · exact hR.lt x hx
theorem Bo.chg {W W' : World} {P1 P2 : Option Addr} {G H : List Nat} {ts : List S134} {n : Int} (h : Bo W P1 P2 G ts n) (hc : Chg H W W') (hd : ∀ x ∈ G, x ∉ H) : Bo W' P1 P2 G ts n := by
  rcases h with h | ⟨p, d, S, T, h1, h2, rfl, h3, hP, hR⟩
  · exact .inl h
  · exact .inr ⟨p, d, S, T, h1, h2, rfl, h3, hP.chg hc (fun x hx => hd x (List.mem_append_left _ hx)), hR.chg hc (fun x hx => hd x (List.mem_append_right _ hx))⟩
theorem Bo.below {W W' : World} {P1 P2 : Option Addr} {G : List Nat} {ts : List S134} {n : Int} (h : Bo W P1 P2 G ts n) (hb : Below W.heap.size W W') : Bo W' P1 P2 G ts n := h.chg (Chg.of_below hb []) (by simp)
theorem told_bo {W : World} {P1 P2 : Option Addr} {G : List Nat} {ts : List S134} {n : Int} (h : Bo W P1 P2 G ts n) (hl : ts.length * 40 ≤ 140737488355328) :
    Calls Try.prog 12 #[.pointer P1, .pointer P2] W fun e w' => e = .returned (.bool true) ∧ Below W.heap.size W w' := by
  rcases h with ⟨rfl, rfl, _⟩ | ⟨p, d, S, T, rfl, rfl, _, _, hP, hR⟩
  · exact told_nil W
  · exact told_any p d S T ts n W hP hR hl
/-- An Offer at both. -/
theorem bo_offer {W : World} {P1 P2 : Option Addr} {G : List Nat} {ts : List S134} {n : Int} (h : Bo W P1 P2 G ts n) (ac e : Int) (hm : (ts.length + 1) * 40 ≤ 140737488355328) :
    ∃ (k z : Int) (Mid : World → Prop), (Calls Try.prog 15 #[.pointer P1, .int .i64 ac, .int .i64 e] W fun r W1 => r = .returned (.tuple #[.int .i64 k, .int .i64 z]) ∧ Mid W1 ∧ Chg G W W1) ∧
      ∀ W1 W2, Mid W1 → Below W1.heap.size W1 W2 → Calls Try.prog 45 #[.pointer P2, .int .i64 ac, .int .i64 e] W2 fun r W3 => r = .returned (.tuple #[.int .i64 k, .int .i64 z]) ∧ ∃ G' ts', Bo W3 P1 P2 G' ts' n ∧ ts'.length ≤ ts.length + 1 ∧ Chg G W2 W3 ∧ ∀ x ∈ G', x ∈ G ∨ W.heap.size ≤ x := by
  rcases h with ⟨rfl, rfl, rfl⟩ | ⟨p, d, S, T, rfl, rfl, rfl, hST, hP, hR⟩
  · exact ⟨-1, 1, fun _ => True, (offer_nil ac e W).mono fun r W1 ⟨h1, h2⟩ => ⟨h1, trivial, Chg.of_below h2 _⟩, fun W1 W2 _ _ => (roffer_nil ac e W2).mono fun r W3 ⟨h1, h2⟩ => ⟨h1, [], ts, .inl ⟨rfl, rfl, rfl⟩, by omega, Chg.of_below h2 _, by simp⟩⟩
  · refine ⟨ts.length, 0, fun W1 => ∃ S', Bk W1 p S' (ts ++ [⟨ac, e, -1⟩]) n ∧ Chg S W W1 ∧ ∀ x ∈ S', x ∈ S ∨ W.heap.size ≤ x, (offer_ok p S ts n ac e W hP hm).mono ?_, ?_⟩
    · rintro r W1 ⟨h1, S', h2, h3, h4⟩
      exact ⟨h1, ⟨S', h2, h3, h4⟩, h3.mono (fun x hx => List.mem_append_left _ hx)⟩
    · rintro W1 W2 ⟨S', hP', hC, hS'⟩ hb
      have hR2 := (hR.chg hC (fun x hx hS => hST x hS hx)).below hb
      refine (roffer_ok d T ts n ac e W2 hR2 hm).mono ?_
      rintro r W3 ⟨h1, T', h2, h3, h4⟩
      have hs1 := hC.size
      have hs2 := hb.size
      have hST' : ∀ x ∈ S', x ∉ T := fun x hx hT => by
        rcases hS' x hx with h | h
        · exact hST x h hT
        · have := hR.lt x hT; omega
      refine ⟨h1, S' ++ T', ts ++ [⟨ac, e, -1⟩], .inr ⟨p, d, S', T', rfl, rfl, rfl, ?_, (hP'.below hb).chg h3 hST', h2⟩, by simp, h3.mono (fun x hx => List.mem_append_right _ hx), ?_⟩
      · intro x hx hT
        rcases h4 x hT with h | h
        · exact hST' x hx h
        · have := hP'.lt x hx; omega
      · intro x hx
        rcases List.mem_append.1 hx with hx | hx
        · rcases hS' x hx with h | h
          · exact .inl (List.mem_append_left _ h)
          · exact .inr h
        · rcases h4 x hx with h | h
          · exact .inl (List.mem_append_right _ h)
          · exact .inr (by omega)

theorem okTo.first {ts : List S134} {ac : Int} {ids : List Int} : ∀ m, ¬ okTo ts ac ids m → ∃ k, k < m ∧ okTo ts ac ids k ∧ errAt ts ac ids k ≠ 0
  | 0, h => absurd (fun j hj => by omega) h
  | m + 1, h => by
    by_cases h1 : okTo ts ac ids m
    · refine ⟨m, by omega, h1, fun he => h (fun j hj => ?_)⟩
      by_cases e : j = m
      · rw [e]; exact he
      · exact h1 j (by omega)
    · obtain ⟨k, h2, h3, h4⟩ := okTo.first m h1
      exact ⟨k, by omega, h3, h4⟩
/-- A Fire at both. -/
theorem bo_fire {W : World} {P1 P2 : Option Addr} {G : List Nat} {ts : List S134} {n : Int} (h : Bo W P1 P2 G ts n) (ac : Int) (A3 A2 : Option Addr) (c3 c2 : Nat) (ids : List Int) (hl : ids.length ≤ 4611686018427387000) (hn : 0 ≤ n ∧ n ≤ 4611686018427387000) (h3 : ids.length ≤ c3) (h2 : ids.length ≤ c2)
    (hI3 : Kd.C (Kd.int .i64) W A3 ids.length ids) (o3 : ids.length ≠ 0 → Off G A3) (hI2 : ∀ W', Chg G W W' → Kd.C (Kd.int .i64) W' A2 ids.length ids) (o2 : ids.length ≠ 0 → Off G A2) :
    ∃ (k z : Int) (Mid : World → Prop), (Calls Try.prog 14 #[.pointer P1, .int .i64 ac, .slice A3 ids.length c3] W fun r W1 => r = .returned (.tuple #[.int .i64 k, .int .i64 z]) ∧ Mid W1 ∧ Chg G W W1) ∧
      ∀ W1, Mid W1 → Chg G W W1 → Calls Try.prog 43 #[.pointer P2, .int .i64 ac, .slice A2 ids.length c2] W1 fun r W3 => r = .returned (.tuple #[.int .i64 k, .int .i64 z]) ∧ ∃ G' ts' n', Bo W3 P1 P2 G' ts' n' ∧ ts'.length = ts.length ∧ n ≤ n' ∧ n' ≤ n + 1 ∧ Chg G W1 W3 ∧ ∀ x ∈ G', x ∈ G ∨ W.heap.size ≤ x := by
  rcases h with ⟨rfl, rfl, rfl⟩ | ⟨p, d, S, T, rfl, rfl, rfl, hST, hP, hR⟩
  · exact ⟨-1, 1, fun _ => True, (fire_nil ac A3 _ c3 W).mono fun r W1 ⟨h1, h2⟩ => ⟨h1, trivial, Chg.of_below h2 _⟩, fun W1 _ _ => (rfire_nil ac A2 _ c2 W1).mono fun r W3 ⟨h1, h2⟩ => ⟨h1, [], ts, n, .inl ⟨rfl, rfl, rfl⟩, rfl, by omega, by omega, Chg.of_below h2 _, by simp⟩⟩
  · have oS : ids.length ≠ 0 → Off S A3 := fun h0 ad e hx => o3 h0 ad e (List.mem_append_left _ hx)
    have oT : ids.length ≠ 0 → Off T A2 := fun h0 ad e hx => o2 h0 ad e (List.mem_append_right _ hx)
    by_cases hok : okTo ts ac ids ids.length
    · refine ⟨n, 0, fun W1 => ∃ S', Bk W1 p S' (setAll n ts ids) (n + 1) ∧ Chg S W W1 ∧ ∀ x ∈ S', x ∈ S ∨ W.heap.size ≤ x, (fire_ok p S ts n ac A3 c3 ids W hP hI3 h3 hl oS hn).mono ?_, ?_⟩
      · rintro r W1 (⟨k, hk, _, he, _⟩ | ⟨_, h1, S', h2, h3, h4⟩)
        · exact absurd (hok k hk) he
        · exact ⟨h1, ⟨S', h2, h3, h4⟩, h3.mono (fun x hx => List.mem_append_left _ hx)⟩
      · rintro W1 ⟨S', hP', hC, hS'⟩ hCG
        have hR2 := hR.chg hC (fun x hx hS => hST x hS hx)
        refine (rfire_ok d T ts n ac A2 c2 ids W1 hR2 (hI2 W1 hCG) h2 hl oT hn).mono ?_
        have hs1 := hC.size
        have hST' : ∀ x ∈ S', x ∉ T := fun x hx hT => by
          rcases hS' x hx with h | h
          · exact hST x h hT
          · have := hR.lt x hT; omega
        rintro r W3 (⟨k, hk, _, he, _⟩ | ⟨_, h1, T', h2, h3, h4⟩)
        · exact absurd (hok k hk) he
        · refine ⟨h1, S' ++ T', setAll n ts ids, n + 1, .inr ⟨p, d, S', T', rfl, rfl, rfl, ?_, hP'.chg h3 hST', h2⟩, setAll_len n ids ts, by omega, by omega, h3.mono (fun x hx => List.mem_append_right _ hx), ?_⟩
          · intro x hx hT
            rcases h4 x hT with h | h
            · exact hST' x hx h
            · have := hP'.lt x hx; omega
          · intro x hx
            rcases List.mem_append.1 hx with hx | hx
            · rcases hS' x hx with h | h
              · exact .inl (List.mem_append_left _ h)
              · exact .inr h
            · rcases h4 x hx with h | h
              · exact .inl (List.mem_append_right _ h)
              · exact .inr (by omega)
    · obtain ⟨k0, hk0, hok0, he0⟩ := okTo.first _ hok
      refine ⟨-1, errAt ts ac ids k0, fun W1 => Below W.heap.size W W1, (fire_ok p S ts n ac A3 c3 ids W hP hI3 h3 hl oS hn).mono ?_, ?_⟩
      · rintro r W1 (⟨k, hk, h1, he, hr, hb⟩ | ⟨h1, _⟩)
        · obtain rfl := okTo.uniq h1 he hok0 he0
          exact ⟨hr, hb, Chg.of_below hb _⟩
        · exact absurd h1 hok
      · intro W1 hb hCG
        refine (rfire_ok d T ts n ac A2 c2 ids W1 (hR.below hb) (hI2 W1 hCG) h2 hl oT hn).mono ?_
        rintro r W3 (⟨k, hk, h1, he, hr, hb3⟩ | ⟨h1, _⟩)
        · obtain rfl := okTo.uniq h1 he hok0 he0
          exact ⟨hr, S ++ T, ts, n, .inr ⟨p, d, S, T, rfl, rfl, rfl, hST, (hP.below hb).below hb3, (hR.below hb).below hb3⟩, rfl, by omega, by omega, Chg.of_below hb3 _, fun x hx => .inl hx⟩
        · exact absurd h1 hok
end Go.Proofs.Ytlbfnnngemonoaa.Fat
