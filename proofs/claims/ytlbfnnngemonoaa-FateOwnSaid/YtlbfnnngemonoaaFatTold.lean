/- What the books tell: slices.Clone, Fates. -/
import Derived.Test.YtlbfnnngemonoaaFatRFire
import Derived.Lib.SliceRun
namespace Go.Proofs.Ytlbfnnngemonoaa.Fat
open Go.RowKit Go.Proofs.Ytlbfnnngemonoaa.PFateBooks
open Go.Proofs.YtlbfnnngemonoaaW.PrintWords Go.Proofs.YtlbfnnngemonoaaW.PrintLast Go.Proofs.YtlbfnnngemonoaaW.PrintMore
set_option linter.unusedVariables false
set_option linter.unusedSimpArgs false

theorem empty43 {W : World} {base g : Nat} (h : Blk W g 43 #[]) (hg : base ≤ g) : Kd.R k43 43 W base (fun _ => True) (.slice (some ⟨g, 0, none⟩) 0 0) [] :=
  ⟨fun _ _ => trivial, [], ⟨rfl, .inr ⟨g, 0, #[], rfl, hg, h, Nat.le_refl _, by unfold maxLen; omega, rfl, rfl⟩⟩, Reps.none _ _⟩

set_option maxRecDepth 20000 in
theorem clone_nil (w : World) : Calls Try.prog 51 #[.slice none 0 0] w fun e w' => e = .returned (.slice none 0 0) ∧ Below w.heap.size w w' := by
  have hq40 := fun (W : World) (a : Option Addr) (n c : Nat) => run_eql_nil_slice (P := Try.prog) W 40 43 a n c 0 0 Try.underlying40
  go_enter Try.func51, Try.ntmps51
  go_wp2_with fail
  go_ret
  exact ⟨rfl, Below.refl _ _⟩

set_option maxRecDepth 20000 in
set_option maxHeartbeats 1000000 in
theorem clone_any (g : Nat) (n c : Nat) (fs : List S43) (w : World) (hn : fs.length = n) (hC : Kd.C k43 w (some ⟨g, 0, none⟩) fs.length fs) (hl : n * 40 ≤ 140737488355328) :
    Calls Try.prog 51 #[.slice (some ⟨g, 0, none⟩) n c] w fun e w' => ∃ v, e = .returned v ∧ Kd.R k43 43 w' w.heap.size (fun _ => True) v fs ∧ Below w.heap.size w w' := by
  subst hn
  have HC := Lib.hid hC
  have HL := Lib.hid hl
  have hE := Blk.new w 43 #[]
  have HE := Lib.hid (empty43 (base := w.heap.size) hE (Nat.le_refl _))
  have HC1 := Lib.hid (Kd.C_alloc hC (.cells #[] 43))
  have HB := Lib.hid ((Below.refl w.heap.size w).alloc (Nat.le_refl _) (.cells #[] 43))
  clear hC hl hE
  have hq40 := fun (W : World) (a : Option Addr) (n c : Nat) => Go.Lib.run_eql_slice_nil (P := Try.prog) W 40 43 a n c 0 0 Try.underlying40
  go_enter Try.func51, Try.ntmps51
  go_wp2_with (first | ((with_reducible refine gate_builtin (b := .append) (xs := #[.tmp 5, .tmp 6]) rfl ?_); at_builtin; refine Kd.R_append_rows k43 (w0 := w) w.heap.size rfl (.tmp 5) (.tmp 6) 40 43 (.agg #[(.int .i64 0), (.int .i64 0), (.int .i64 0), (.int .i64 0), (.int .i64 0)]) 40 rfl Try.underlying40 info43' rfl (by decide) (by omega) (.slice (some ⟨w.heap.size, 0, none⟩) 0 0) ([] : List S43) fs (some ⟨g, 0, none⟩) fs.length c (fun _ => True) (fun _ => False) rfl rfl HE.out HC1.out (fun x cs hc => by rw [k43_open hc]; exact k43_mkM _ _ _ x) (fun _ hk => hk.elim) (fun _ _ => trivial) HB.out HB.out.size (by simpa using HL.out) ?_; intro v1 w1 hR1 hb1 hg1 hat1) | fail)
  go_ret
  exact ⟨_, rfl, by simpa using hR1, hb1⟩

set_option maxRecDepth 20000 in
theorem fates_nil (w : World) : Calls Try.prog 16 #[.pointer none] w fun e w' => e = .returned (.slice none 0 0) ∧ Below w.heap.size w w' := by
  go_enter Try.func16, Try.ntmps16
  go_wp2_with fail
  go_ret
  exact ⟨rfl, Below.refl _ _⟩

set_option maxRecDepth 20000 in
theorem fates_any (p : Nat) (S : List Nat) (ts : List S134) (n : Int) (w : World) (hK : Bk w p S ts n) (hl : ts.length * 40 ≤ 140737488355328) :
    Calls Try.prog 16 #[.pointer (some ⟨p, 0, none⟩)] w fun e w' => ∃ v, e = .returned v ∧ Kd.R k43 43 w' w.heap.size (fun _ => True) v (FF ts) ∧ Below w.heap.size w w' := by
  obtain ⟨v, rfl, hB, hR⟩ := hK
  have hc0 := hB.cell 0
  simp at hc0
  by_cases h0 : 0 < ts.length
  · obtain ⟨g, c, rfl, _⟩ := Kd.R_form hR (by rw [FF_len]; exact h0)
    have hC := (Kd.R_reads' hR).2.2
    have HT := Lib.hid (clone_any g (FF ts).length c (FF ts) w rfl hC (by rw [FF_len]; exact hl))
    clear hB hR hC
    generalize (FF ts).length = N at hc0 HT
    go_enter Try.func16, Try.ntmps16
    go_wp2_with fail
    refine HT.out.mono ?_
    rintro e w1 ⟨v1, rfl, hR1, hb1⟩
    go_wp2_with fail
    go_ret
    exact ⟨v1, rfl, hR1, hb1⟩
  · have hts : ts = [] := List.eq_nil_of_length_eq_zero (by omega)
    subst hts
    have hC0 : ∀ g, Kd.C k43 w (some ⟨g, 0, none⟩) ([] : List S43).length [] := fun g => ⟨rfl, by simp, fun h => absurd h (by simp)⟩
    obtain ⟨inner, ho⟩ := Kd.R_own hR
    rcases ho.2 with ⟨hv, _⟩ | ⟨g, cap, cur, hv, _⟩
    · subst hv
      have HT := Lib.hid (clone_nil w)
      clear hB hR ho hC0 h0
      go_enter Try.func16, Try.ntmps16
      go_wp2_with fail
      refine HT.out.mono ?_
      rintro e w1 ⟨rfl, hb1⟩
      go_wp2_with fail
      go_ret
      exact ⟨_, rfl, Kd.R_nil _ _ _ _ _, hb1⟩
    · have hlen : (FF ([] : List S134)).length = 0 := rfl
      rw [hlen] at hv
      subst hv
      have HT := Lib.hid (clone_any g 0 cap [] w rfl (hC0 g) (by omega))
      clear hB hR ho hC0 h0
      go_enter Try.func16, Try.ntmps16
      go_wp2_with fail
      refine HT.out.mono ?_
      rintro e w1 ⟨v1, rfl, hR1, hb1⟩
      go_wp2_with fail
      go_ret
      exact ⟨v1, rfl, hR1, hb1⟩
end Go.Proofs.Ytlbfnnngemonoaa.Fat
