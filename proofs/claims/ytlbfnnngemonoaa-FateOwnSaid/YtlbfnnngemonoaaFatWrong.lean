/- (*fate.Book).wrong: what is wrong with consuming a message. -/
import Derived.Test.YtlbfnnngemonoaaFatOffer
namespace Go.Proofs.Ytlbfnnngemonoaa.Fat
open Go.RowKit Go.Proofs.Ytlbfnnngemonoaa.PFateBooks
open Go.Proofs.YtlbfnnngemonoaaW.PrintWords Go.Proofs.YtlbfnnngemonoaaW.PrintLast Go.Proofs.YtlbfnnngemonoaaW.PrintMore
set_option linter.unusedVariables false
set_option linter.unusedSimpArgs false

theorem w64n (n : Nat) (h : n < 4611686018427387904) : wrap64 ((n : Int) + 1) = ((n + 1 : Nat) : Int) := by unfold wrap64; omega

theorem has_ok (l : List Int) (a : Int) (hl : l.length ≤ 4611686018427387000) : ∃ k, slices_Contains_int_int.f k l a = some (decide (a ∈ l)) := by
  have go : ∀ (d j : Nat), j + d = l.length → a ∉ l.take j → ∃ r, slices_Index_int_int.l0 (d + 1) l a (l.length : Nat) (j : Nat) = some r ∧ (0 ≤ r ↔ a ∈ l) := by
    intro d
    induction d with
    | zero =>
      intro j hj hn
      obtain rfl : j = l.length := by omega
      rw [List.take_length] at hn
      refine ⟨-1, ?_, ?_⟩
      · simp only [slices_Index_int_int.l0]
        rw [if_neg (by omega)]
      · exact ⟨fun h => by omega, fun h => absurd h hn⟩
    | succ d ih =>
      intro j hj hn
      have hlt : j < l.length := by omega
      have er : rd l (j : Nat) = l[j] := by simp [rd, List.getD, hlt]
      by_cases e : a = l[j]
      · refine ⟨j, ?_, ?_⟩
        · simp only [slices_Index_int_int.l0]
          rw [if_pos (by omega), if_pos (by omega), if_pos (by omega), er, if_pos e]
        · exact ⟨fun _ => by rw [e]; exact List.getElem_mem hlt, fun _ => by omega⟩
      · obtain ⟨r, h1, h2⟩ := ih (j + 1) (by omega) (by
          rw [List.take_add_one]
          simp only [List.mem_append, not_or]
          refine ⟨hn, ?_⟩
          simp [hlt, e])
        refine ⟨r, ?_, h2⟩
        rw [slices_Index_int_int.l0]
        rw [if_pos (by omega), if_pos (by omega), if_pos (by omega), er, if_neg e, w64n j (by omega)]
        exact h1
  obtain ⟨r, h1, h2⟩ := go l.length 0 (by omega) (by simp)
  refine ⟨l.length + 1, ?_⟩
  unfold slices_Contains_int_int.f slices_Index_int_int.f
  have h1' : slices_Index_int_int.l0 (l.length + 1) l a (l.length : Int) 0 = some r := h1
  rw [h1', Option.bind_some]
  congr 1
  exact decide_eq_decide.2 h2

/-- What is wrong with the i-th of ids; 0: nothing. -/
def errAt (ts : List S134) (ac : Int) (ids : List Int) (i : Nat) : Int :=
  if ids.getD i 0 < 0 ∨ (ts.length : Int) ≤ ids.getD i 0 then 244
  else if (ts.getD (ids.getD i 0).toNat z134).f1 ≠ 0 then 242
  else if 0 ≤ (ts.getD (ids.getD i 0).toNat z134).f2 ∨ ids.getD i 0 ∈ ids.take i then 241
  else if (ts.getD (ids.getD i 0).toNat z134).f0 ≠ ac then 243 else 0

theorem int_at {w : World} {A : Option Addr} {l : List Int} (h : Kd.C (Kd.int .i64) w A l.length l) (i : Nat) (hi : i < l.length) : ∃ ad, A = some ad ∧ w.cell? (ad.add i) = some (.int .i64 (l.getD i 0)) := by
  obtain ⟨ad, c, e, _, hK, hc0⟩ := Kd.C_get h (0 : Int) i (by omega) (by omega)
  have hK2 : c = [.int .i64 (l.getD i 0)] := by
    have h3 : c = [.int .i64 (l.getD ((i : Nat) : Int).toNat 0)] := hK
    simpa using h3
  subst hK2
  have hc : ∀ j u, [(.int .i64 (l.getD i 0) : Value)][j]? = some u → w.cell? (ad.add (i * 1 + j)) = some u := hc0
  exact ⟨ad, e, by have hq := hc 0 _ rfl; rwa [Nat.mul_one, Nat.add_zero] at hq⟩
theorem at_43 {w : World} {A : Option Addr} {ts : List S134} (h : Kd.C k43 w A ts.length (FF ts)) (i : Nat) (hi : i < ts.length) : ∃ ad, A = some ad ∧ w.cell? (ad.add (i * 5)) = some (.int .i64 (fateOf (ts.getD i z134) i).f0) ∧ w.cell? ⟨(ad.add (i * 5)).block, (ad.add (i * 5)).off + 1, none⟩ = some (.int .i64 (fateOf (ts.getD i z134) i).f1) ∧ w.cell? ⟨(ad.add (i * 5)).block, (ad.add (i * 5)).off + 2, none⟩ = some (.int .i64 (fateOf (ts.getD i z134) i).f2) ∧ w.cell? ⟨(ad.add (i * 5)).block, (ad.add (i * 5)).off + 3, none⟩ = some (.int .i64 (fateOf (ts.getD i z134) i).f3) ∧ w.cell? ⟨(ad.add (i * 5)).block, (ad.add (i * 5)).off + 4, none⟩ = some (.int .i64 (fateOf (ts.getD i z134) i).f4) := by
  obtain ⟨ad, e, x0, x1, x2, x3, x4⟩ := at_T43 h i (by omega) (by omega)
  have er : rd_T43 (FF ts) (i : Nat) = fateOf (ts.getD i z134) i := by
    unfold rd_T43
    rw [Int.toNat_natCast]
    exact FF_at ts i hi
  rw [er, Int.toNat_natCast] at x0 x1 x2 x3 x4
  exact ⟨ad, e, x0, x1, x2, x3, x4⟩

set_option maxRecDepth 20000 in
set_option maxHeartbeats 4000000 in
theorem wrong_any (p : Nat) (ts : List S134) (n ac : Int) (A : Option Addr) (c : Nat) (A2 : Option Addr) (c2 : Nat) (ids : List Int) (i : Nat) (w : World) (hB : Blk w p 93 #[.slice A ts.length c, .int .i64 n]) (hC : Kd.C k43 w A ts.length (FF ts)) (hI : Kd.C (Kd.int .i64) w A2 ids.length ids) (hc2 : ids.length ≤ c2) (hi : i < ids.length) (hl : ids.length ≤ 4611686018427387000) :
    Calls Try.prog 50 #[.pointer (some ⟨p, 0, none⟩), .int .i64 ac, .slice A2 ids.length c2, .int .i64 i] w fun e w' => e = .returned (.int .i64 (errAt ts ac ids i)) ∧ Below w.heap.size w w' := by
  have hc0 := hB.cell 0
  simp at hc0
  obtain ⟨ad2, hA2, x0⟩ := int_at hI i hi
  subst hA2
  have hi2 : (i : Int) < (ids.length : Int) := by omega
  have hE : ∃ err, errAt ts ac ids i = err := ⟨_, rfl⟩
  obtain ⟨err, hE⟩ := hE
  rw [hE]
  unfold errAt at hE
  obtain ⟨id, hid⟩ : ∃ id, ids.getD i 0 = id := ⟨_, rfl⟩
  rw [hid] at hE x0
  have HI := Lib.hid hI
  have HC := Lib.hid hC
  clear hI hC hB hid
  by_cases h1 : id < 0
  · have b1 : decide (id < 0) = true := by simpa using h1
    rw [if_pos (.inl h1)] at hE
    subst hE
    clear h1
    go_enter Try.func50, Try.ntmps50
    go_wp2_with fail
    go_ret
    exact ⟨rfl, Below.refl _ _⟩
  · have b1 : decide (id < 0) = false := by simpa using h1
    by_cases h2 : (ts.length : Int) ≤ id
    · have b2 : decide (id ≥ (ts.length : Int)) = true := by simpa using h2
      rw [if_pos (.inr h2)] at hE
      subst hE
      clear h1 h2
      go_enter Try.func50, Try.ntmps50
      go_wp2_with fail
      go_ret
      exact ⟨rfl, Below.refl _ _⟩
    · have b2 : decide (id ≥ (ts.length : Int)) = false := by simpa using h2
      obtain ⟨m, rfl⟩ : ∃ m : Nat, id = m := ⟨id.toNat, by omega⟩
      have hm : m < ts.length := by omega
      have hm2 : (m : Int) < (ts.length : Int) := by omega
      obtain ⟨ad, hA, y0, y1, y2, y3, y4⟩ := at_43 HC.out m hm
      subst hA
      rw [if_neg (by omega), Int.toNat_natCast] at hE
      generalize ts.getD m z134 = t at hE y0 y1 y2 y3 y4
      have HE := Lib.hid hE
      obtain ⟨f, hf⟩ : ∃ f : S43, f = fateOf t m := ⟨_, rfl⟩
      rw [← hf] at y0 y1 y2 y3 y4
      have HFt := Lib.hid hf
      clear h1 h2 hE hf
      have hcut9 : 0 ≤ (i : Int) ∧ (i : Int) ≤ (c2 : Int) := by omega
      go_enter Try.func50, Try.ntmps50
      go_upto_region 5 with fail
      have h1 := Blk.new w 43 #[.int .i64 f.f0, .int .i64 f.f1, .int .i64 f.f2, .int .i64 f.f3, .int .i64 f.f4]
      have hb1 : Below w.heap.size w (w.alloc (.cells #[.int .i64 f.f0, .int .i64 f.f1, .int .i64 f.f2, .int .i64 f.f3, .int .i64 f.f4] 43)) := (Below.refl _ _).alloc (Nat.le_refl _) _
      generalize hg1 : w.heap.size = g1 at h1
      have HB1 := Lib.hid hb1
      clear hb1
      generalize w.alloc (.cells #[.int .i64 f.f0, .int .i64 f.f1, .int .i64 f.f2, .int .i64 f.f3, .int .i64 f.f4] 43) = w1 at h1 HB1 ⊢
      have z1 := h1.cell 1
      have z3 := h1.cell 3
      simp at z1 z3
      clear x0 y0 y1 y2 y3 y4 hc0 hg1 b1 b2
      by_cases hr : t.f1 = 0
      · have he := HE.out
        rw [if_neg (by simpa using hr)] at he
        by_cases hq : 0 ≤ t.f2
        · rw [if_pos (.inl hq)] at he
          subst he
          have hf1 : f.f1 = 3 := by rw [HFt.out]; unfold fateOf; rw [if_neg (by simpa using hr), if_neg (by omega)]
          rw [hf1] at z1
          clear hf1 hq hr
          go_wp2_with fail
          go_ret
          exact ⟨rfl, HB1.out⟩
        · have hff : f.f1 = 2 ∧ f.f3 = t.f0 := by rw [HFt.out]; unfold fateOf; rw [if_neg (by simpa using hr), if_pos (by omega)]; exact ⟨rfl, rfl⟩
          rw [hff.1] at z1
          rw [hff.2] at z3
          clear hff
          obtain ⟨kc, hkc⟩ := has_ok (ids.take i) m (by rw [List.length_take]; omega)
          have HK := Lib.hid hkc
          clear hkc
          have hli : (ids.take i).length = i := by rw [List.length_take]; omega
          have hcall := slices_Contains_int_int.calls kc (some ad2) c2 (ids.take i) m _ w1 (Kd.C_take (Kd.C_below HI.out HB1.out) (by omega)) (by rw [hli]; omega) HK.out
          rw [hli] at hcall
          have HCall := Lib.hid hcall
          have HE2 := Lib.hid he
          clear hcall hli he
          go_wp2_with fail
          refine HCall.out.mono ?_
          rintro r w2 ⟨rfl, hd⟩
          have z3' : w2.cell? ⟨g1, 3, none⟩ = some (.int .i64 t.f0) := by
            obtain ⟨nq, rfl⟩ := hd.out
            exact z3
          have HB2 := Lib.hid (HB1.out.trans (hd.below.mono HB1.out.size))
          have he := HE2.out
          clear hd z1 z3 HCall
          by_cases hin : (m : Int) ∈ ids.take i
          · have bi : decide ((m : Int) ∈ ids.take i) = true := by simpa using hin
            rw [if_pos (.inr hin)] at he
            subst he
            rw [bi]
            clear hin
            go_wp2_with fail
            go_ret
            exact ⟨rfl, HB2.out⟩
          · have bi : decide ((m : Int) ∈ ids.take i) = false := by simpa using hin
            rw [if_neg (fun h => h.elim (fun h => by omega) hin)] at he
            rw [bi]
            clear hin hq hr
            by_cases ha : t.f0 = ac
            · have ba : (t.f0 != ac) = false := by simpa using ha
              rw [if_neg (by simpa using ha)] at he
              subst he
              clear ha
              go_wp2_with fail
              go_ret
              exact ⟨rfl, HB2.out⟩
            · have ba : (t.f0 != ac) = true := by simpa using ha
              rw [if_pos ha] at he
              subst he
              clear ha
              go_wp2_with fail
              go_ret
              exact ⟨rfl, HB2.out⟩
      · have he := HE.out
        rw [if_pos hr] at he
        subst he
        have hf1 : f.f1 = 1 := by rw [HFt.out]; unfold fateOf; rw [if_pos hr]
        rw [hf1] at z1
        clear hf1 hr
        go_wp2_with fail
        go_ret
        exact ⟨rfl, HB1.out⟩
end Go.Proofs.Ytlbfnnngemonoaa.Fat
