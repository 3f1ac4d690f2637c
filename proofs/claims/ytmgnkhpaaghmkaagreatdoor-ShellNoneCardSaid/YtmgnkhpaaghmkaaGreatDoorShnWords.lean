/- shell.words over a line without quotes. -/
import Derived.Test.YtmgnkhpaaghmkaaGreatDoorShnBase
import Derived.Test.YtmgnkhpaaghmkaaGreatDoorShnPure
namespace Go.Proofs.YtmgnkhpaaghmkaaGreatDoor.Shn
open Go.RowKit Go.Proofs.YtmgnkhpaaghmkaaGreatDoorW.PrintWords
set_option linter.unusedVariables false
set_option linter.unusedSimpArgs false

theorem wp_scope_loop {P : Program} {a : Act} {w : World} {Q : Exit → Act → World → Prop} {c rest : Code} (l : Nat) (J : Act → World → Prop) (μ : Act → World → Nat) (hf : findLabel c l = some (Code.skip.seq rest))
    (pass : ∀ a w, J a w → rest.wp P (Exit.jump l (fun a' w' => J a' w' ∧ μ a' w' < μ a w) Q) a w)
    (first : (∀ a w, J a w → rest.wp P (Exit.jump l J Q) a w) → c.wp P (Exit.jump l J Q) a w) : (Code.scope c).wp P Q a w :=
  wp_scope_jumps l J μ hf (first (fun a w h => Code.wp_mono (fun e a w h => by
    cases e with
    | goto l' => exact ⟨h.1, h.2.1⟩
    | normal => exact h
    | exit id => exact h
    | ret => exact h
    | panic ch => exact h
    | outgrown => exact h) (pass a w h))) (fun a w h => wp_seq (wp_skip (pass a w h)))
theorem info9 : (Tryz.prog.info? 9).map (fun i => (i.zero, i.size, i.bytes)) = some (some (.string { data := #[] }), 1, 16) := by kernel_rfl
def intOf : Value → Int | .int _ q => q | _ => 0
/-- What holds at every jump back: the words so far, and what is left. -/
def WJ (s : ByteArray) (w : World) (a : Act) (W : World) : Prop :=
  ∃ (f i : Nat) (pre : List ByteArray) (v : Value), a = { tmps := #[.string s, a.tmps.getD 1 undef, v, .int .i64 i, a.tmps.getD 4 undef, a.tmps.getD 5 undef, a.tmps.getD 6 undef, a.tmps.getD 7 undef, a.tmps.getD 8 undef, a.tmps.getD 9 undef, a.tmps.getD 10 undef, a.tmps.getD 11 undef, a.tmps.getD 12 undef, a.tmps.getD 13 undef, a.tmps.getD 14 undef, a.tmps.getD 15 undef, a.tmps.getD 16 undef, a.tmps.getD 17 undef, a.tmps.getD 18 undef, a.tmps.getD 19 undef, a.tmps.getD 20 undef, a.tmps.getD 21 undef, a.tmps.getD 22 undef, a.tmps.getD 23 undef, a.tmps.getD 24 undef, a.tmps.getD 25 undef, a.tmps.getD 26 undef, a.tmps.getD 27 undef, a.tmps.getD 28 undef, a.tmps.getD 29 undef, a.tmps.getD 30 undef, a.tmps.getD 31 undef, a.tmps.getD 32 undef, a.tmps.getD 33 undef, a.tmps.getD 34 undef, a.tmps.getD 35 undef, a.tmps.getD 36 undef, a.tmps.getD 37 undef, a.tmps.getD 38 undef, a.tmps.getD 39 undef, a.tmps.getD 40 undef, a.tmps.getD 41 undef, a.tmps.getD 42 undef, a.tmps.getD 43 undef, a.tmps.getD 44 undef, a.tmps.getD 45 undef, a.tmps.getD 46 undef, a.tmps.getD 47 undef, a.tmps.getD 48 undef, a.tmps.getD 49 undef, a.tmps.getD 50 undef, a.tmps.getD 51 undef, a.tmps.getD 52 undef, a.tmps.getD 53 undef, a.tmps.getD 54 undef, a.tmps.getD 55 undef, a.tmps.getD 56 undef, a.tmps.getD 57 undef, a.tmps.getD 58 undef, a.tmps.getD 59 undef, a.tmps.getD 60 undef, a.tmps.getD 61 undef, a.tmps.getD 62 undef, a.tmps.getD 63 undef, a.tmps.getD 64 undef, a.tmps.getD 65 undef, a.tmps.getD 66 undef, a.tmps.getD 67 undef, a.tmps.getD 68 undef, a.tmps.getD 69 undef, a.tmps.getD 70 undef, a.tmps.getD 71 undef, a.tmps.getD 72 undef, a.tmps.getD 73 undef, a.tmps.getD 74 undef, a.tmps.getD 75 undef, a.tmps.getD 76 undef, a.tmps.getD 77 undef], defers := [] } ∧ pre.length ≤ i ∧ i ≤ s.size ∧ s.size - i < f ∧ pre ++ wds s f i = wds s (s.size + 1) 0 ∧
    Kd.R Kd.string 9 W w.heap.size (fun _ => True) v pre ∧ Below w.heap.size w W
theorem WJ.open_ {s : ByteArray} {w W : World} {a : Act} (h : WJ s w a W) :
    ∃ (t : Nat → Value) (f i : Nat) (pre : List ByteArray) (v : Value), a = { tmps := #[.string s, t 1, v, .int .i64 i, t 4, t 5, t 6, t 7, t 8, t 9, t 10, t 11, t 12, t 13, t 14, t 15, t 16, t 17, t 18, t 19, t 20, t 21, t 22, t 23, t 24, t 25, t 26, t 27, t 28, t 29, t 30, t 31, t 32, t 33, t 34, t 35, t 36, t 37, t 38, t 39, t 40, t 41, t 42, t 43, t 44, t 45, t 46, t 47, t 48, t 49, t 50, t 51, t 52, t 53, t 54, t 55, t 56, t 57, t 58, t 59, t 60, t 61, t 62, t 63, t 64, t 65, t 66, t 67, t 68, t 69, t 70, t 71, t 72, t 73, t 74, t 75, t 76, t 77], defers := [] } ∧ pre.length ≤ i ∧ i ≤ s.size ∧ s.size - i < f ∧ pre ++ wds s f i = wds s (s.size + 1) 0 ∧
    Kd.R Kd.string 9 W w.heap.size (fun _ => True) v pre ∧ Below w.heap.size w W := by
  obtain ⟨f, i, pre, v, h1, h2⟩ := h
  exact ⟨fun n => a.tmps.getD n undef, f, i, pre, v, h1, h2⟩
set_option maxRecDepth 20000 in
set_option maxHeartbeats 1000000 in
theorem words_any (s : ByteArray) (w : World) (hq : ∀ j : Nat, j < s.size → bt s j ≠ 34) (hs : s.size ≤ 32768) :
    Calls Tryz.prog 9 #[.string s] w fun e w' => ∃ A c, e = .returned (.slice A (wds s (s.size + 1) 0).length c) ∧ Kd.C Kd.string w' A (wds s (s.size + 1) 0).length (wds s (s.size + 1) 0) ∧ (0 < (wds s (s.size + 1) 0).length → ∃ g, A = some ⟨g, 0, none⟩) ∧ Below w.heap.size w w' := by
  go_enter Tryz.func9, Tryz.ntmps9
  go_wp2_with fail
  refine wp_scope_loop 0 (WJ s w) (fun a _ => s.size - (intOf (a.tmps.getD 3 undef)).toNat) (by rfl) ?pass ?first
  case first =>
    intro HP
    go_wp2_with fail
    go_step3
    rename_i hK
    exact hK _ _ (HP _ _ ⟨s.size + 1, 0, [], .slice none 0 0, rfl, Nat.le_refl _, Nat.zero_le _, by omega, rfl, Kd.R_nil _ _ _ _ _, Below.refl _ _⟩)
  case pass =>
    intro a W hJ
    obtain ⟨t, f, i, pre, v, rfl, hpl, hi, hf, hp, hR, hB⟩ := WJ.open_ hJ
    obtain ⟨A0, c0, rfl⟩ := Kd.R_slice hR
    have HR := Lib.hid hR
    have HB := Lib.hid hB
    have HP := Lib.hid hp
    have HF := Lib.hid hf
    clear hJ hR hB hp hf
    go_wp2_with fail
    go_loopw [3] (fun i' wr => ∃ k : Nat, i' = .int .i64 k ∧ i ≤ k ∧ k ≤ s.size ∧ Hid (skp s (s.size - k) k = skp s (s.size - i) i) ∧ wr = W) (fun i' _ => s.size - (intOf i').toNat)
    case atStart => exact ⟨i, rfl, Nat.le_refl _, hi, Lib.hid rfl, rfl⟩
    case round =>
      obtain ⟨k, rfl, hik, hk, HS, rfl⟩ := hrel
      by_cases hlt : k < s.size
      · have b0 : decide ((k : Int) < (s.size : Int)) = true := by simp; omega
        have b1 : decide (k < s.size) = true := by simp; omega
        have hbe : ((s[k]'hlt).toNat : Int) = bt s k := bt_at s k hlt
        have hw : IntKind.i64.wrap ((k : Int) + 1) = ((k + 1 : Nat) : Int) := by rw [IntKind.wrap_i64]; omega
        by_cases hb : bt s k = 32
        · have b2 : (((s[k]'hlt).toNat : Int) == 32) = true := by rw [hbe]; simp [hb]
          have HS2 := Lib.hid ((skp_step hlt hb).symm.trans HS.out)
          clear hbe hb hs
          go_wp2_with fail
          go_roundw
          case rel => exact ⟨k + 1, by simp, by omega, by omega, HS2, trivial⟩
          case measure => simp [intOf]; omega
        · have b2 : (((s[k]'hlt).toNat : Int) == 32) = false := by rw [hbe]; simp [hb]
          have b3 : (((s[k]'hlt).toNat : Int) == 34) = false := by rw [hbe]; simp [hq k hlt]
          have b4 : ((k : Int) == (s.size : Int)) = false := by simp; omega
          have HS2 := Lib.hid (HS.out.symm.trans (skp_hit hlt hb))
          have HBK := Lib.hid hb
          have HBE := Lib.hid hbe
          clear hbe hb HS
          go_wp2_with fail
          clear b0 b1 b2 b3 b4 hw
          go_loopw [3] (fun i' wr2 => ∃ k2 : Nat, i' = .int .i64 k2 ∧ k ≤ k2 ∧ k2 ≤ s.size ∧ Hid (stp s (s.size - k2) k2 = stp s (s.size - k) k) ∧ wr2 = wr) (fun i' _ => s.size - (intOf i').toNat)
          case atStart => exact ⟨k, rfl, Nat.le_refl _, hk, Lib.hid rfl, rfl⟩
          case round =>
            obtain ⟨k2, rfl, hik2, hk2, HT, rfl⟩ := hrel
            by_cases hlt2 : k2 < s.size
            · have b0 : decide ((k2 : Int) < (s.size : Int)) = true := by simp; omega
              have b1 : decide (k2 < s.size) = true := by simp; omega
              have hbe2 : ((s[k2]'hlt2).toNat : Int) = bt s k2 := bt_at s k2 hlt2
              have hw : IntKind.i64.wrap ((k2 : Int) + 1) = ((k2 + 1 : Nat) : Int) := by rw [IntKind.wrap_i64]; omega
              by_cases hb2 : bt s k2 = 32
              · have b2 : (((s[k2]'hlt2).toNat : Int) == 32) = true := by rw [hbe2]; simp [hb2]
                have b2' : (((s[k2]'hlt2).toNat : Int) != 32) = false := by rw [hbe2]; simp [hb2]
                have hgt : k < k2 := by
                  rcases Nat.lt_or_ge k k2 with h | h
                  · exact h
                  · obtain rfl : k = k2 := by omega
                    exact absurd hb2 HBK.out
                have HT2 := Lib.hid (HT.out.symm.trans (stp_hit hlt2 hb2))
                clear hbe2 hb2 HT
                go_wp2_with (at_builtin; refine Kd.R_append Kd.string (w0 := w) w.heap.size rfl _ _ 39 9 (.string { data := #[] }) 16 rfl Tryz.underlying39 info9 rfl (by decide) (by omega) (.slice A0 pre.length c0) pre (s.extract k k2) [.string (s.extract k k2)] (fun _ => True) (fun _ => False) rfl rfl rfl (fun _ h => h.elim) (fun _ _ => trivial) HR.out HB.out HB.out.size (by omega) ?_; intro v1 w1 hR1 hB1 hg1 hat1; have HR1 := Lib.hid hR1; have HB1 := Lib.hid hB1; clear hR1 hB1 hg1 hat1)
                go_step3
                obtain ⟨f', rfl⟩ : ∃ f', f = f' + 1 := ⟨f - 1, by have := HF.out; omega⟩
                refine ⟨rfl, ⟨f', k2, pre ++ [s.extract k k2], v1, rfl, by simp; omega, by omega, by have := HF.out; omega, ?_, HR1.out, HB1.out⟩, by simp [intOf]; omega⟩
                rw [← HP.out, wds_word HS2.out HT2.out hlt, List.append_assoc, List.singleton_append]
              · have b2 : (((s[k2]'hlt2).toNat : Int) == 32) = false := by rw [hbe2]; simp [hb2]
                have b2' : (((s[k2]'hlt2).toNat : Int) != 32) = true := by rw [hbe2]; simp [hb2]
                have HT2 := Lib.hid ((stp_step hlt2 hb2).symm.trans HT.out)
                clear hbe2 hb2
                go_wp2_with fail
                go_roundw
                case rel => exact ⟨k2 + 1, by simp, by omega, by omega, HT2, trivial⟩
                case measure => simp [intOf]; omega
            · have b0 : decide ((k2 : Int) < (s.size : Int)) = false := by simp; omega
              have b1 : decide (k2 < s.size) = false := by simp; omega
              have hk2e : k2 = s.size := by omega
              have hgt : k < k2 := by omega
              have HT2 := Lib.hid (HT.out.symm.trans ((stp_end hk2e).trans hk2e.symm))
              clear HT hk2e
              go_wp2_with (at_builtin; refine Kd.R_append Kd.string (w0 := w) w.heap.size rfl _ _ 39 9 (.string { data := #[] }) 16 rfl Tryz.underlying39 info9 rfl (by decide) (by omega) (.slice A0 pre.length c0) pre (s.extract k k2) [.string (s.extract k k2)] (fun _ => True) (fun _ => False) rfl rfl rfl (fun _ h => h.elim) (fun _ _ => trivial) HR.out HB.out HB.out.size (by omega) ?_; intro v1 w1 hR1 hB1 hg1 hat1; have HR1 := Lib.hid hR1; have HB1 := Lib.hid hB1; clear hR1 hB1 hg1 hat1)
              go_step3
              obtain ⟨f', rfl⟩ : ∃ f', f = f' + 1 := ⟨f - 1, by have := HF.out; omega⟩
              refine ⟨rfl, ⟨f', k2, pre ++ [s.extract k k2], v1, rfl, by simp; omega, by omega, by have := HF.out; omega, ?_, HR1.out, HB1.out⟩, by simp [intOf]; omega⟩
              rw [← HP.out, wds_word HS2.out HT2.out hlt, List.append_assoc, List.singleton_append]
      · have b0 : decide ((k : Int) < (s.size : Int)) = false := by simp; omega
        have b1 : decide (k < s.size) = false := by simp; omega
        obtain rfl : k = s.size := by omega
        have b4 : ((s.size : Int) == (s.size : Int)) = true := by simp
        have HS2 := Lib.hid (HS.out.symm.trans (skp_end rfl))
        clear HS
        go_wp2_with fail
        simp only [Exit.jump]
        go_ret
        have hw := HP.out
        rw [wds_none HS2.out, List.append_nil] at hw
        rw [← hw]
        refine ⟨A0, c0, rfl, (Kd.R_reads' HR.out).2.2, fun h => ?_, HB.out⟩
        obtain ⟨g0, cap0, hv0, _⟩ := Kd.R_form HR.out h
        injection hv0 with hv0
        exact ⟨g0, hv0⟩
theorem words_empty (s : ByteArray) (w : World) (hq : ∀ j : Nat, j < s.size → bt s j ≠ 34) (hs : s.size ≤ 32768) (hw : wds s (s.size + 1) 0 = []) :
    Calls Tryz.prog 9 #[.string s] w fun e w' => ∃ A c, e = .returned (.slice A 0 c) ∧ Below w.heap.size w w' := by
  refine (words_any s w hq hs).mono ?_
  rintro e w' ⟨A, c, rfl, _, _, hb⟩
  rw [hw]
  exact ⟨A, c, rfl, hb⟩
theorem words_first (s x : ByteArray) (rest : List ByteArray) (w : World) (hq : ∀ j : Nat, j < s.size → bt s j ≠ 34) (hs : s.size ≤ 32768) (hw : wds s (s.size + 1) 0 = x :: rest) :
    Calls Tryz.prog 9 #[.string s] w fun e w' => ∃ g c, e = .returned (.slice (some ⟨g, 0, none⟩) (rest.length + 1) c) ∧ w'.cell? ⟨g, 0, none⟩ = some (.string x) ∧ Below w.heap.size w w' := by
  refine (words_any s w hq hs).mono ?_
  rintro e w' ⟨A, c, rfl, hC, hg, hb⟩
  rw [hw] at hC hg ⊢
  obtain ⟨g, rfl⟩ := hg (by simp)
  obtain ⟨ad, cs, e1, _, hK, hc⟩ := Kd.C_get hC (ByteArray.empty) 0 (by omega) (by simp)
  injection e1 with e1
  subst e1
  have hK' : cs = [.string x] := hK
  subst hK'
  exact ⟨g, c, rfl, hc 0 _ rfl, hb⟩
end Go.Proofs.YtmgnkhpaaghmkaaGreatDoor.Shn
