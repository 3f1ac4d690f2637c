/- chordmaillaw24.awake; two books of the program, side by side. -/
import Derived.Test.YtlbfnnngemonoaaFatLaw
import Derived.StillTailTactics
namespace Go.Proofs.Ytlbfnnngemonoaa.Fat
open Go.RowKit Go.Proofs.Ytlbfnnngemonoaa.PFateBooks
open Go.Proofs.YtlbfnnngemonoaaW.PrintWords Go.Proofs.YtlbfnnngemonoaaW.PrintLast Go.Proofs.YtlbfnnngemonoaaW.PrintMore
set_option linter.unusedVariables false
set_option linter.unusedSimpArgs false

theorem C_one (w : World) (x : Int) : Kd.C (Kd.int .i64) (w.alloc (.cells #[.int .i64 x] 3)) (some ⟨w.heap.size, 0, none⟩) 1 [x] := by
  refine ⟨rfl, by simp [maxLen], fun _ => ⟨_, rfl, fun j p hj => ?_⟩⟩
  obtain ⟨rfl, rfl⟩ : j = 0 ∧ p = x := by
    rcases j with _ | j
    · simp at hj; exact ⟨rfl, hj.symm⟩
    · simp at hj
  refine ⟨[.int .i64 p], rfl, rfl, fun i u hu => ?_⟩
  have h := (Blk.new w 3 #[.int .i64 p]).cell 0
  rcases i with _ | i
  · simp at hu
    subst hu
    exact h
  · simp at hu

set_option maxRecDepth 20000 in
set_option maxHeartbeats 2000000 in
theorem awake_any (w : World) : Calls Try.prog 13 #[] w fun e w' => e = .returned (.bool true) ∧ Below w.heap.size w w' := by
  go_enter Try.func13, Try.ntmps13
  go_wp2_with fail
  refine (new_any w).mono ?_
  rintro r w1 ⟨p, rfl, hp, hP, hb1⟩
  have H1 := Lib.hid (offer_ok p [p] [] 0 0 0 w1 hP (by simp))
  clear hP
  go_wp2_with fail
  refine H1.out.mono ?_
  rintro r w2 ⟨rfl, S2, hP2, hC2, hS2⟩
  have H2 := Lib.hid (offer_ok p S2 _ 0 0 141 w2 hP2 (by simp))
  have HB2 := Lib.hid (hb1.trans (hC2.below hb1.size (by simp; omega)))
  have HS2 : Hid (∀ x ∈ S2, w.heap.size ≤ x) := Lib.hid (fun x hx => by
    rcases hS2 x hx with h | h
    · simp at h; omega
    · have := hb1.size; omega)
  clear H1 hP2 hC2 hS2
  go_wp2_with fail
  refine H2.out.mono ?_
  rintro r w3 ⟨rfl, S3, hP3, hC3, hS3⟩
  have HB3 := Lib.hid (HB2.out.trans (hC3.below HB2.out.size HS2.out))
  have HS3 : Hid (∀ x ∈ S3, w.heap.size ≤ x) := Lib.hid (fun x hx => by
    rcases hS3 x hx with h | h
    · exact HS2.out x h
    · have := HB2.out.size; omega)
  have hP4 := hP3.below ((Below.refl w3.heap.size w3).alloc (Nat.le_refl _) (.cells #[.int .i64 0] 3))
  have hlt := hP3.lt
  have H4 := Lib.hid (fire_ok p S3 _ 0 0 (some ⟨w3.heap.size, 0, none⟩) 1 [0] _ hP4 (C_one w3 0) (by simp) (by simp) (fun _ ad e hx => by
    obtain rfl := Option.some.inj e
    have := hlt _ hx
    simp at this) (by omega))
  have HB4 := Lib.hid (HB3.out.alloc HB3.out.size (.cells #[.int .i64 0] 3))
  clear H2 hP3 hC3 hS3 hP4 hlt
  go_wp2_with fail
  refine H4.out.mono ?_
  rintro r w4 (⟨k, hk, _, he, _⟩ | ⟨_, rfl, S5, hP5, hC5, hS5⟩)
  · obtain rfl : k = 0 := by simpa using hk
    exact absurd rfl he
  have HB5 := Lib.hid (HB4.out.trans (hC5.below HB4.out.size HS3.out))
  have H6 := Lib.hid (counts_any p S5 _ _ w4 hP5 (by simp [setAll, setOne]))
  clear H4 hP5 hC5 hS5
  go_wp2_with fail
  refine H6.out.mono ?_
  rintro r w6 ⟨rfl, hb6⟩
  go_wp2_with fail
  go_ret
  exact ⟨rfl, HB5.out.trans (hb6.mono HB5.out.size)⟩

/-- Two books of one state, apart. -/
def Tw (W : World) (p q : Nat) (S T : List Nat) (ts : List S134) (n : Int) : Prop := Bk W p S ts n ∧ Bk W q T ts n ∧ ∀ x ∈ S, x ∉ T
theorem Tw.lt {W : World} {p q : Nat} {S T : List Nat} {ts : List S134} {n : Int} (h : Tw W p q S T ts n) : ∀ x ∈ S ++ T, x < W.heap.size := by
  intro x hx
  rcases List.mem_append.1 hx with hx | hx
  · exact h.1.lt x hx
  · exact h.2.1.lt x hx
theorem Tw.chg {W W' : World} {p q : Nat} {S T G : List Nat} {ts : List S134} {n : Int} (h : Tw W p q S T ts n) (hc : Chg G W W') (hd : ∀ x ∈ S ++ T, x ∉ G) : Tw W' p q S T ts n :=
  ⟨h.1.chg hc (fun x hx => hd x (List.mem_append_left _ hx)), h.2.1.chg hc (fun x hx => hd x (List.mem_append_right _ hx)), h.2.2⟩
theorem Tw.below {W W' : World} {p q : Nat} {S T : List Nat} {ts : List S134} {n : Int} (h : Tw W p q S T ts n) (hb : Below W.heap.size W W') : Tw W' p q S T ts n := h.chg (Chg.of_below hb []) (by simp)
/-- What a step at both leaves. -/
def TwPost (W W1 : World) (p q : Nat) (S T : List Nat) (ts : List S134) (n : Int) (r : Ending) (W3 : World) : Prop :=
  (∃ k z : Int, r = .returned (.tuple #[.int .i64 k, .int .i64 z])) ∧ ∃ S' T' ts' n', Tw W3 p q S' T' ts' n' ∧ ts'.length ≤ ts.length + 1 ∧ n ≤ n' ∧ n' ≤ n + 1 ∧ Chg (S ++ T) W1 W3 ∧ ∀ x ∈ S' ++ T', x ∈ S ++ T ∨ W.heap.size ≤ x
theorem tw_join {W W1 W3 : World} {p q : Nat} {S T S' T' : List Nat} {ts' : List S134} {n' : Int} (hST : ∀ x ∈ S, x ∉ T) (hs : W.heap.size ≤ W1.heap.size) (hP : Bk W1 p S' ts' n') (hS' : ∀ x ∈ S', x ∈ S ∨ W.heap.size ≤ x) (hT0 : ∀ x ∈ T, x < W.heap.size) (hQ : Bk W3 q T' ts' n') (hC : Chg T W1 W3) (hT' : ∀ x ∈ T', x ∈ T ∨ W1.heap.size ≤ x) :
    Tw W3 p q S' T' ts' n' ∧ Chg (S ++ T) W1 W3 ∧ ∀ x ∈ S' ++ T', x ∈ S ++ T ∨ W.heap.size ≤ x := by
  have hd : ∀ x ∈ S', x ∉ T := fun x hx hT => by
    rcases hS' x hx with h | h
    · exact hST x h hT
    · have := hT0 x hT; omega
  refine ⟨⟨hP.chg hC hd, hQ, fun x hx h2 => ?_⟩, hC.mono (fun x hx => List.mem_append_right _ hx), fun x hx => ?_⟩
  · rcases hT' x h2 with h | h
    · exact hd x hx h
    · have := hP.lt x hx; omega
  · rcases List.mem_append.1 hx with hx | hx
    · rcases hS' x hx with h | h
      · exact .inl (List.mem_append_left _ h)
      · exact .inr h
    · rcases hT' x hx with h | h
      · exact .inl (List.mem_append_right _ h)
      · exact .inr (by omega)
theorem tw_offer {W : World} {p q : Nat} {S T : List Nat} {ts : List S134} {n : Int} (h : Tw W p q S T ts n) (ac e : Int) (hm : (ts.length + 1) * 40 ≤ 140737488355328) :
    ∃ Mid : World → Prop, (Calls Try.prog 15 #[.pointer (some ⟨p, 0, none⟩), .int .i64 ac, .int .i64 e] W fun r W1 => (∃ k z : Int, r = .returned (.tuple #[.int .i64 k, .int .i64 z])) ∧ Mid W1 ∧ Chg (S ++ T) W W1) ∧
      ∀ W1 W2, Mid W1 → Below W1.heap.size W1 W2 → Calls Try.prog 15 #[.pointer (some ⟨q, 0, none⟩), .int .i64 ac, .int .i64 e] W2 (TwPost W W2 p q S T ts n) := by
  obtain ⟨hP, hQ, hST⟩ := h
  refine ⟨fun W1 => ∃ S', Bk W1 p S' (ts ++ [⟨ac, e, -1⟩]) n ∧ Chg S W W1 ∧ ∀ x ∈ S', x ∈ S ∨ W.heap.size ≤ x, (offer_ok p S ts n ac e W hP hm).mono ?_, ?_⟩
  · rintro r W1 ⟨h1, S', h2, h3, h4⟩
    exact ⟨⟨_, _, h1⟩, ⟨S', h2, h3, h4⟩, h3.mono (fun x hx => List.mem_append_left _ hx)⟩
  · rintro W1 W2 ⟨S', hP', hC, hS'⟩ hb
    have hQ2 := (hQ.chg hC (fun x hx h1 => hST x h1 hx)).below hb
    refine (offer_ok q T ts n ac e W2 hQ2 hm).mono ?_
    rintro r W3 ⟨h1, T', h2, h3, h4⟩
    obtain ⟨j1, j2, j3⟩ := tw_join hST (Nat.le_trans hC.size hb.size) (hP'.below hb) hS' hQ.lt h2 h3 h4
    exact ⟨⟨_, _, h1⟩, S', T', _, n, j1, by simp, Int.le_refl _, by omega, j2, j3⟩
theorem tw_fire {W : World} {p q : Nat} {S T : List Nat} {ts : List S134} {n : Int} (h : Tw W p q S T ts n) (ac : Int) (A3 A2 : Option Addr) (c3 c2 : Nat) (ids : List Int) (hl : ids.length ≤ 4611686018427387000) (hn : 0 ≤ n ∧ n ≤ 4611686018427387000) (h3 : ids.length ≤ c3) (h2 : ids.length ≤ c2)
    (hI3 : Kd.C (Kd.int .i64) W A3 ids.length ids) (o3 : ids.length ≠ 0 → Off (S ++ T) A3) (hI2 : Kd.C (Kd.int .i64) W A2 ids.length ids) (o2 : ids.length ≠ 0 → Off (S ++ T) A2) :
    ∃ Mid : World → Prop, (Calls Try.prog 14 #[.pointer (some ⟨p, 0, none⟩), .int .i64 ac, .slice A3 ids.length c3] W fun r W1 => (∃ k z : Int, r = .returned (.tuple #[.int .i64 k, .int .i64 z])) ∧ Mid W1 ∧ Chg (S ++ T) W W1) ∧
      ∀ W1 W2, Mid W1 → Chg (S ++ T) W W1 → Below W1.heap.size W1 W2 → Calls Try.prog 14 #[.pointer (some ⟨q, 0, none⟩), .int .i64 ac, .slice A2 ids.length c2] W2 (TwPost W W2 p q S T ts n) := by
  obtain ⟨hP, hQ, hST⟩ := h
  have oS : ids.length ≠ 0 → Off S A3 := fun h0 ad e hx => o3 h0 ad e (List.mem_append_left _ hx)
  have oT : ids.length ≠ 0 → Off T A2 := fun h0 ad e hx => o2 h0 ad e (List.mem_append_right _ hx)
  refine ⟨fun W1 => (Below W.heap.size W W1 ∧ ¬ okTo ts ac ids ids.length) ∨ (okTo ts ac ids ids.length ∧ ∃ S', Bk W1 p S' (setAll n ts ids) (n + 1) ∧ Chg S W W1 ∧ ∀ x ∈ S', x ∈ S ∨ W.heap.size ≤ x), (fire_ok p S ts n ac A3 c3 ids W hP hI3 h3 hl oS hn).mono ?_, ?_⟩
  · rintro r W1 (⟨k, hk, h1, he, hr, hb⟩ | ⟨h0, h1, S', h2, h3, h4⟩)
    · exact ⟨⟨_, _, hr⟩, .inl ⟨hb, fun h => he (h k hk)⟩, Chg.of_below hb _⟩
    · exact ⟨⟨_, _, h1⟩, .inr ⟨h0, S', h2, h3, h4⟩, h3.mono (fun x hx => List.mem_append_left _ hx)⟩
  · intro W1 W2 hM hCG hb
    have hI2' := Kd.C_below (C_chg hI2 hCG o2) hb
    rcases hM with ⟨hbM, hno⟩ | ⟨hok, S', hP', hC, hS'⟩
    · refine (fire_ok q T ts n ac A2 c2 ids W2 ((hQ.below hbM).below hb) hI2' h2 hl oT hn).mono ?_
      rintro r W3 (⟨k, hk, h1, he, hr, hb3⟩ | ⟨h0, _⟩)
      · exact ⟨⟨_, _, hr⟩, S, T, ts, n, ⟨((hP.below hbM).below hb).below hb3, ((hQ.below hbM).below hb).below hb3, hST⟩, by omega, by omega, by omega, Chg.of_below hb3 _, fun x hx => .inl hx⟩
      · exact absurd h0 hno
    · refine (fire_ok q T ts n ac A2 c2 ids W2 ((hQ.chg hC (fun x hx h1 => hST x h1 hx)).below hb) hI2' h2 hl oT hn).mono ?_
      rintro r W3 (⟨k, hk, h1, he, hr, hb3⟩ | ⟨_, h1, T', h2, h3, h4⟩)
      · exact absurd (hok k hk) he
      · obtain ⟨j1, j2, j3⟩ := tw_join hST (Nat.le_trans hC.size hb.size) (hP'.below hb) hS' hQ.lt h2 h3 h4
        exact ⟨⟨_, _, h1⟩, S', T', _, n + 1, j1, by rw [setAll_len]; omega, by omega, by omega, j2, j3⟩
end Go.Proofs.Ytlbfnnngemonoaa.Fat
