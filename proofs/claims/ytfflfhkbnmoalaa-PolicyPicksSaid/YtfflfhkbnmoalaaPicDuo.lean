/- The program's policy and the document's, side by side. -/
import Derived.Test.YtfflfhkbnmoalaaPicRef4
import Derived.Test.YtfflfhkbnmoalaaPolAwake
namespace Go.Proofs.Ytfflfhkbnmoalaa.Pic
open Go.RowKit Go.Proofs.Ytfflfhkbnmoalaa.Pol Go.Proofs.Ytfflfhkbnmoalaa.PPolicyPicks
open Go.Proofs.YtfflfhkbnmoalaaW.PrintWords Go.Proofs.YtfflfhkbnmoalaaW.PrintLast Go.Proofs.YtfflfhkbnmoalaaW.PrintMore
set_option linter.unusedVariables false
set_option linter.unusedSimpArgs false

def cnt : PS → Nat
  | .old n _ => n
  | _ => 0
/-- They keep the same. -/
def Mt : PS → RS → Prop
  | .first, t => t.k = 1 ∧ t.ps = []
  | .last, t => t.k = 2 ∧ t.ps = []
  | .turns a, t => t.k = 3 ∧ t.a = a ∧ t.ps = []
  | .lot x, t => t.k = 4 ∧ t.x = x ∧ t.ps = []
  | .old n f, t => t.k = 5 ∧ t.n = (n : Int) ∧ t.ps.length = n ∧ ∀ a c, whenOf t.ps a c = f a c

theorem Mt.start (k : Nat) (seed : Int) (h0 : 1 ≤ k) (h1 : k ≤ 5) : Mt (PS.start k seed) ⟨k, -1, seed, 0, []⟩ ∧ cnt (PS.start k seed) = 0 := by
  rcases (by omega : k = 1 ∨ k = 2 ∨ k = 3 ∨ k = 4 ∨ k = 5) with rfl | rfl | rfl | rfl | rfl
  · exact ⟨⟨rfl, rfl⟩, rfl⟩
  · exact ⟨⟨rfl, rfl⟩, rfl⟩
  · exact ⟨⟨rfl, rfl, rfl⟩, rfl⟩
  · exact ⟨⟨rfl, rfl, rfl⟩, rfl⟩
  · exact ⟨⟨rfl, rfl, rfl, fun _ _ => rfl⟩, rfl⟩

theorem cnt_next (s : PS) (xs : List (Int × Int)) : cnt (s.next xs).2 ≤ cnt s + 1 := by
  cases s <;> simp [PS.next, cnt]

theorem rnext_any (p : Nat) (S : List Nat) (s : PS) (t : RS) (A : Option Addr) (c : Nat) (xs : List S42) (w : World) (hR : Rf w p S t) (hM : Mt s t) (hcn : cnt s ≤ 800) (hn : 0 < xs.length) (hm : xs.length ≤ 400) (hx : Kd.C k104 w A xs.length (r104 xs)) (ho : Off S A) :
    ∃ t', Mt (s.next (pr xs)).2 t' ∧ Calls Try.prog 22 #[.pointer (some ⟨p, 0, none⟩), .slice A xs.length c] w (RPost w p S (s.next (pr xs)).1 t') := by
  cases s with
  | first => exact ⟨t, hM, rnext_first p S t A _ c w hR hM.1 hn⟩
  | last =>
    refine ⟨t, hM, ?_⟩
    have h := rnext_last p S t A _ c w hR hM.1 hn (by omega)
    simp only [PS.next, pr_len]
    exact h
  | turns a =>
    obtain ⟨hk, rfl, hps⟩ := hM
    exact ⟨{ t with a := ((pr xs).getD (turnAt t.a (pr xs)) (0, 0)).1 }, ⟨hk, rfl, hps⟩, rnext_turns p S t A c xs w hR hk hn (by omega) hx⟩
  | lot x =>
    obtain ⟨hk, rfl, hps⟩ := hM
    refine ⟨{ t with x := lotNext t.x }, ⟨hk, rfl, hps⟩, ?_⟩
    have h := rnext_lot p S t A _ c w hR hk hn (by omega)
    simp only [PS.next, pr_len]
    exact h
  | old n f =>
    obtain ⟨hk, hn', hl, hf⟩ := hM
    have hc : n ≤ 800 := hcn
    refine ⟨_, ⟨?_, ?_, ?_, ?_⟩, rnext_old p S t f A c xs w hR hk hn (by omega) hx (by omega) (by omega) hf ho⟩
    · exact hk
    · simp only [hn']; omega
    · simp [hl]
    · intro a c
      rw [whenOf_snoc, hf a c]
      simp only
      generalize (pr xs).getD (oldTo f (pr xs) (pr xs).length) (0, 0) = q
      obtain ⟨q0, q1⟩ := q
      simp only [Prod.mk.injEq]
      by_cases h : q0 = a ∧ q1 = c
      · rw [if_pos h, if_pos ⟨h.1.symm, h.2.symm⟩]; omega
      · rw [if_neg h, if_neg (fun h2 => h ⟨h2.1.symm, h2.2.symm⟩)]

/-- Two pointers: both nil, or policies that keep the same; G: the blocks that are theirs; n: so many lists at most. -/
def Du (W : World) (P1 P2 : Option Addr) (G : List Nat) (n : Nat) : Prop :=
  (P1 = none ∧ P2 = none ∧ G = []) ∨ ∃ (p d : Nat) (S T : List Nat) (s : PS) (t : RS), P1 = some ⟨p, 0, none⟩ ∧ P2 = some ⟨d, 0, none⟩ ∧ G = S ++ T ∧ (∀ x ∈ S, x ∉ T) ∧ Pl W p S s ∧ Rf W d T t ∧ Mt s t ∧ cnt s ≤ n

theorem Rf.lt {w : World} {p : Nat} {S : List Nat} {s : RS} (h : Rf w p S s) : ∀ x ∈ S, x < w.heap.size := by
  obtain ⟨v, rfl, hB, hR⟩ := h
  intro x hx
  rcases List.mem_cons.1 hx with rfl | hx
  · exact hB.lt
  · exact Kd.R_lt hR x (by simpa using hx)
theorem Rf.chg {w w' : World} {p : Nat} {S G : List Nat} {s : RS} (h : Rf w p S s) (hc : Chg G w w') (hd : ∀ x ∈ S, x ∉ G) : Rf w' p S s := by
  obtain ⟨v, rfl, hB, hR⟩ := h
  refine ⟨v, rfl, hB.chg hc (hd p (by simp)), ?_⟩
  obtain ⟨inner, ho⟩ := Kd.R_own hR
  have hE : k107.E = [] := rfl
  obtain ⟨h0, inner, ho, hr⟩ := hR
  refine ⟨h0, inner, own_move ho (fun k hk => hc.block k (own_lt ho k hk) (hd k (by rw [hk]; simp))), hr.imp_ (fun x cs hp => ?_)⟩
  rw [k107_openM hp]
  exact k107_mkM _ _ _ x
theorem Du.lt {W : World} {P1 P2 : Option Addr} {G : List Nat} {n : Nat} (h : Du W P1 P2 G n) : ∀ x ∈ G, x < W.heap.size := by
  rcases h with ⟨_, _, rfl⟩ | ⟨p, d, S, T, s, t, _, _, rfl, _, hP, hR, _⟩
  · simp
  · intro x hx
    rcases List.mem_append.1 hx with hx | hx
    · exact hP.lt x hx
    · exact hR.lt x hx
theorem Du.chg {W W' : World} {P1 P2 : Option Addr} {G H : List Nat} {n : Nat} (h : Du W P1 P2 G n) (hc : Chg H W W') (hd : ∀ x ∈ G, x ∉ H) : Du W' P1 P2 G n := by
  rcases h with h | ⟨p, d, S, T, s, t, h1, h2, rfl, h3, hP, hR, h4⟩
  · exact .inl h
  · exact .inr ⟨p, d, S, T, s, t, h1, h2, rfl, h3, hP.chg hc (fun x hx => hd x (List.mem_append_left _ hx)), hR.chg hc (fun x hx => hd x (List.mem_append_right _ hx)), h4⟩
theorem Du.below {W W' : World} {P1 P2 : Option Addr} {G : List Nat} {n : Nat} (h : Du W P1 P2 G n) (hb : Below W.heap.size W W') : Du W' P1 P2 G n := h.chg (Chg.of_below hb []) (by simp)
theorem Du.mono {W : World} {P1 P2 : Option Addr} {G : List Nat} {n m : Nat} (h : Du W P1 P2 G n) (hm : n ≤ m) : Du W P1 P2 G m := by
  rcases h with h | ⟨p, d, S, T, s, t, h1, h2, h3, h4, h5, h6, h7, h8⟩
  · exact .inl h
  · exact .inr ⟨p, d, S, T, s, t, h1, h2, h3, h4, h5, h6, h7, by omega⟩
theorem Du.nil (W : World) (n : Nat) : Du W none none [] n := .inl ⟨rfl, rfl, rfl⟩
theorem Du.isn {W : World} {P1 P2 : Option Addr} {G : List Nat} {n : Nat} (h : Du W P1 P2 G n) : P1.isNone = P2.isNone := by
  rcases h with ⟨rfl, rfl, _⟩ | ⟨p, d, S, T, s, t, rfl, rfl, _⟩ <;> rfl

theorem chs_of {w : World} {g : Nat} {xs : List S42} (h : Kd.C k46 w (some ⟨g, 0, none⟩) (xs.length + 1) (r46 xs ++ [mark])) : Chs w (some ⟨g, 0, none⟩) (pr xs) := by
  intro i a c hi
  have hlt : i < xs.length := by have := (List.getElem?_eq_some_iff.1 hi).1; rw [pr_len] at this; exact this
  obtain ⟨ad, A2, c2, e, x0, x1, x2, _⟩ := at_T46 h i (by omega) (by omega)
  obtain rfl : (⟨g, 0, none⟩ : Addr) = ad := by injection e
  have er : rd_T46 (r46 xs ++ [mark]) (i : Nat) = ⟨xs[i].f0, xs[i].f1, [(i : Int)]⟩ := by
    have := full_at xs i hlt
    simp [rd_T46, List.getD, this]
  rw [er] at x0 x1 x2
  have hp : xs[i].f0 = a ∧ xs[i].f1 = c := by
    have : (pr xs)[i]? = some (xs[i].f0, xs[i].f1) := by simp [pr, hlt]
    have h := hi.symm.trans this
    injection h with h
    injection h with h0 h1
    exact ⟨h0.symm, h1.symm⟩
  rw [hp.1] at x0
  rw [hp.2] at x1
  simp only [Int.toNat_natCast, Go.Proofs.Ytfflfhkbnmoalaa.Pol.Fair.add0] at x0 x1 x2
  exact ⟨g, rfl, x0, x1, A2, _, c2, x2⟩

/-- One list for both: the same place. -/
theorem du_next {W : World} {P1 P2 : Option Addr} {G : List Nat} {n : Nat} (hD : Du W P1 P2 G n) (hn : n ≤ 800) (g c : Nat) (Ab : Option Addr) (cb : Nat) (xs : List S42) (hm : xs.length ≤ 400) (hw : ∀ p ∈ pr xs, (Lit.int .i64 p.1).wf = true ∧ (Lit.int .i64 p.2).wf = true)
    (ha : Kd.C k46 W (some ⟨g, 0, none⟩) (xs.length + 1) (r46 xs ++ [mark])) (hb : Kd.C k104 W Ab xs.length (r104 xs)) (oa : Off G (some ⟨g, 0, none⟩)) (hbk : ∀ W', Chg G W W' → Kd.C k104 W' Ab xs.length (r104 xs)) (ob : Off G Ab) :
    ∃ (k : Int) (y : Bool) (Mid : World → Prop), (Calls Try.prog 14 #[.pointer P1, .slice (some ⟨g, 0, none⟩) xs.length c] W fun e W1 => e = .returned (.tuple #[.int .i64 k, .bool y]) ∧ Mid W1 ∧ Chg G W W1) ∧
      ∀ W1, Mid W1 → Chg G W W1 → Calls Try.prog 22 #[.pointer P2, .slice Ab xs.length cb] W1 fun e W2 => e = .returned (.tuple #[.int .i64 k, .bool y]) ∧ ∃ G', Du W2 P1 P2 G' (n + 1) ∧ Chg G W1 W2 ∧ ∀ x ∈ G', x ∈ G ∨ W.heap.size ≤ x := by
  have hD0 := hD
  rcases hD with ⟨rfl, rfl, rfl⟩ | ⟨p, d, S, T, s, t, rfl, rfl, rfl, hST, hP, hR, hM, hc⟩
  · refine ⟨0, false, fun _ => True, (next_nil _ _ _ W).mono fun e W1 ⟨h1, h2⟩ => ⟨h1, trivial, Chg.of_below h2 _⟩, fun W1 _ _ => (rnext_nil _ _ _ W1).mono fun e W2 ⟨h1, h2⟩ => ⟨h1, [], Du.nil _ _, Chg.of_below h2 _, by simp⟩⟩
  · by_cases hx : 0 < xs.length
    · refine ⟨((s.next (pr xs)).1 : Nat), true, fun W1 => Pl W1 p S (s.next (pr xs)).2 ∧ Chg S W W1, ?_, ?_⟩
      · have hok : s.ok := by
          cases s <;> simp only [PS.ok, cnt] at hc ⊢
          omega
        have h := next_any p S s (some ⟨g, 0, none⟩) c (pr xs) W hP hok (by rw [pr_len]; exact hx) (by rw [pr_len]; omega) hw (chs_of ha) (fun ad e => by have := oa ad e; simp at this ⊢; exact this.1)
        rw [pr_len] at h
        exact h.mono fun e W1 ⟨h1, h2, h3⟩ => ⟨h1, ⟨h2, h3⟩, h3.mono (fun x hx => List.mem_append_left _ hx)⟩
      · rintro W1 ⟨hP1, hC1⟩ hCG
        have hR1 := hR.chg hC1 (fun x hx hS => hST x hS hx)
        obtain ⟨t', hM', hcall⟩ := rnext_any d T s t Ab cb xs W1 hR1 hM (by omega) hx hm (hbk W1 hCG) (fun ad e => by have := ob ad e; simp at this ⊢; exact this.2)
        refine hcall.mono ?_
        rintro e W2 ⟨h1, T', hR2, hC2, hT'⟩
        have hsz := hC1.size
        have hsz2 := hC2.size
        refine ⟨h1, S ++ T', .inr ⟨p, d, S, T', _, t', rfl, rfl, rfl, ?_, hP1.chg hC2 (fun x hx hT => hST x hx hT), hR2, hM', ?_⟩, hC2.mono (fun x hx => List.mem_append_right _ hx), ?_⟩
        · intro x hx hT
          rcases hT' x hT with h | h
          · exact hST x hx h
          · have := hP.lt x hx; omega
        · have := cnt_next s (pr xs); omega
        · intro x hx
          rcases List.mem_append.1 hx with hx | hx
          · exact .inl (List.mem_append_left _ hx)
          · rcases hT' x hx with h | h
            · exact .inl (List.mem_append_right _ h)
            · exact .inr (by omega)
    · have hx0 : xs.length = 0 := by omega
      rw [hx0]
      refine ⟨0, false, fun W1 => Below W.heap.size W W1, (next_empty p S s _ c W hP).mono fun e W1 ⟨h1, h2⟩ => ⟨h1, h2, Chg.of_below h2 _⟩, fun W1 hB1 hC => (rnext_empty d Ab cb W1).mono fun e W2 ⟨h1, h2⟩ => ⟨h1, S ++ T, ?_, Chg.of_below h2 _, fun x hx => .inl hx⟩⟩
      exact ((hD0.below hB1).below h2).mono (by omega)

/-- A copy of both. -/
theorem du_copy {W : World} {P1 P2 : Option Addr} {G : List Nat} {n : Nat} (hD : Du W P1 P2 G n) (hn : n ≤ 800) :
    ∃ (Mid : Option Addr → World → Prop), (Calls Try.prog 24 #[.pointer P1] W fun e W1 => ∃ Q1, e = .returned (.pointer Q1) ∧ Mid Q1 W1 ∧ Below W.heap.size W W1) ∧
      ∀ Q1 W1, Mid Q1 W1 → Below W.heap.size W W1 → Calls Try.prog 25 #[.pointer P2] W1 fun e W2 => ∃ Q2 H, e = .returned (.pointer Q2) ∧ Du W2 P1 P2 G n ∧ Du W2 Q1 Q2 H n ∧ (∀ x ∈ H, W.heap.size ≤ x) ∧ Below W1.heap.size W1 W2 := by
  have hD0 := hD
  rcases hD with ⟨rfl, rfl, rfl⟩ | ⟨p, d, S, T, s, t, rfl, rfl, rfl, hST, hP, hR, hM, hc⟩
  · exact ⟨fun Q1 _ => Q1 = none, (copy_nil W).mono fun e W1 ⟨h1, h2⟩ => ⟨none, h1, rfl, h2⟩, fun Q1 W1 hQ _ => (rcopy_nil W1).mono fun e W2 ⟨h1, h2⟩ => ⟨none, [], h1, Du.nil _ _, by rw [hQ]; exact Du.nil _ _, by simp, h2⟩⟩
  · have hok : s.ok := by
      cases s <;> simp only [PS.ok, cnt] at hc ⊢
      omega
    refine ⟨fun Q1 W1 => ∃ p' S', Q1 = some ⟨p', 0, none⟩ ∧ Pl W1 p' S' s ∧ (∀ x ∈ S', W.heap.size ≤ x), (copy_any p S s W hP hok).mono ?_, ?_⟩
    · rintro e W1 ⟨p', S', h1, h2, h3, h4⟩
      exact ⟨_, h1, ⟨p', S', rfl, h2, h3⟩, h4⟩
    · rintro Q1 W1 ⟨p', S', rfl, hP', hS'⟩ hb
      have hR1 := hR.below hb
      have hl : t.ps.length ≤ 900 := by
        cases s with
        | old k f => obtain ⟨_, _, hl, _⟩ := hM; have : k ≤ n := hc; omega
        | first => rw [hM.2]; simp
        | last => rw [hM.2]; simp
        | turns a => rw [hM.2.2]; simp
        | lot x => rw [hM.2.2]; simp
      refine (rcopy_any d T t W1 hR1 hl).mono ?_
      rintro e W2 ⟨d', T', h1, h2, h3, h4⟩
      have hsz := hb.size
      refine ⟨_, S' ++ T', h1, (hD0.below hb).below h4, .inr ⟨p', d', S', T', s, t, rfl, rfl, rfl, ?_, hP'.chg (Chg.of_below h4 []) (by simp), h2, hM, hc⟩, ?_, h4⟩
      · intro x hx hT
        have := hP'.lt x hx
        have := h3 x hT
        omega
      · intro x hx
        rcases List.mem_append.1 hx with hx | hx
        · exact hS' x hx
        · have := h3 x hx; omega

/-- New policies. -/
theorem du_new (k seed : Int) (W : World) :
    ∃ (err : Int) (Mid : Option Addr → World → Prop), (Calls Try.prog 13 #[.int .i64 k, .int .u64 seed] W fun e W1 => ∃ P1, e = .returned (.tuple #[.pointer P1, .int .i64 err]) ∧ Mid P1 W1 ∧ Below W.heap.size W W1) ∧
      ∀ P1 W1, Mid P1 W1 → Below W.heap.size W W1 → Calls Try.prog 20 #[.int .i64 k, .int .u64 seed] W1 fun e W2 => ∃ P2 G, e = .returned (.tuple #[.pointer P2, .int .i64 err]) ∧ Du W2 P1 P2 G 0 ∧ (∀ x ∈ G, W.heap.size ≤ x) ∧ Below W1.heap.size W1 W2 := by
  by_cases h : 1 ≤ k ∧ k ≤ 5
  · obtain ⟨kn, rfl⟩ : ∃ m : Nat, k = m := ⟨k.toNat, by omega⟩
    obtain ⟨hM, hc⟩ := Mt.start kn seed (by omega) (by omega)
    refine ⟨0, fun P1 W1 => ∃ p S, P1 = some ⟨p, 0, none⟩ ∧ Pl W1 p S (PS.start kn seed) ∧ (∀ x ∈ S, W.heap.size ≤ x), (Pol.new_any kn seed W (by omega) (by omega)).mono ?_, ?_⟩
    · rintro e W1 ⟨p, S, h1, h2, h3, h4⟩
      exact ⟨_, h1, ⟨p, S, rfl, h2, h3⟩, h4⟩
    · rintro P1 W1 ⟨p, S, rfl, hP, hS⟩ hb
      refine (rnew_ok kn seed W1 (by omega) (by omega)).mono ?_
      rintro e W2 ⟨d, T, h1, h2, h3, h4⟩
      have hsz := hb.size
      refine ⟨_, S ++ T, h1, .inr ⟨p, d, S, T, _, _, rfl, rfl, rfl, ?_, hP.chg (Chg.of_below h4 []) (by simp), h2, hM, by omega⟩, ?_, h4⟩
      · intro x hx hT
        have := hP.lt x hx
        have := h3 x hT
        omega
      · intro x hx
        rcases List.mem_append.1 hx with hx | hx
        · exact hS x hx
        · have := h3 x hx; omega
  · have hbad : k < 1 ∨ 5 < k := by omega
    exact ⟨2, fun P1 _ => P1 = none, (new_bad k seed W hbad).mono fun e W1 ⟨h1, h2⟩ => ⟨none, h1, rfl, h2⟩, fun P1 W1 hP _ => (rnew_bad k seed W1 hbad).mono fun e W2 ⟨h1, h2⟩ => ⟨none, [], h1, by rw [hP]; exact Du.nil _ _, by simp, h2⟩⟩
end Go.Proofs.Ytfflfhkbnmoalaa.Pic
