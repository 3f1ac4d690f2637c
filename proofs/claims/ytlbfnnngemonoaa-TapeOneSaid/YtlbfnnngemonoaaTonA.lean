/- tape.number, tape.name, tape.form: a call's form. -/
import Derived.Test.YtlbfnnngemonoaaWfnPure2
import Derived.Test.YtlbfnnngemonoaaTapDec
namespace Go.Proofs.Ytlbfnnngemonoaa.Wir
open Go.RowKit Go.Proofs.Ytlbfnnngemonoaa.PWireReads
open Go.Proofs.Ytlbfnnngemonoaa.Fat (Blk Chg Off chg_opt)
open Go.Proofs.YtlbfnnngemonoaaW.PrintWords Go.Proofs.YtlbfnnngemonoaaW.PrintLast Go.Proofs.YtlbfnnngemonoaaW.PrintMore
set_option linter.unusedVariables false
set_option linter.unusedSimpArgs false

/-- Byte j of 8 of a number. -/
def ub (x : Int) (j : Nat) : Int := nb (IntKind.u64.wrap x) j
set_option maxRecDepth 20000 in
set_option maxHeartbeats 4000000 in
theorem tnum_any (x : Int) (base : Nat) (b : Value) (xs : List Int) (w : World) (hR : Kd.R (Kd.int .u8) 5 w base (fun _ => True) b xs) (hb : base ≤ w.heap.size) (hl : xs.length ≤ 1000000) :
    Calls Try.prog 116 #[b, .int .i64 x] w fun e w' => ∃ u, e = .returned u ∧ Kd.R (Kd.int .u8) 5 w' base (fun _ => True) u (xs ++ by8 (IntKind.u64.wrap x)) ∧ Below base w w' := by
  have HR0 := Lib.hid hR
  clear hR
  go_enter Try.func116, Try.ntmps116
  go_wp2_with fail
  go_loopw [0, 5] (fun u i wr => ∃ k : Nat, k ≤ 8 ∧ i = .int .i64 (56 - 8 * (k : Int)) ∧ Hid (Kd.R (Kd.int .u8) 5 wr base (fun _ => True) u (xs ++ (by8 (IntKind.u64.wrap x)).take k)) ∧ Hid (Below base w wr)) (fun _ i _ => (intOf i + 8).toNat)
  case atStart => exact ⟨0, by omega, rfl, by simpa using HR0, Lib.hid (Below.refl _ _)⟩
  case round =>
    clear HR0
    obtain ⟨k, hk, hi, HR, HB⟩ := hrel
    obtain ⟨A, c, rfl⟩ := Kd.R_slice HR.out
    have hb8 : (by8 (IntKind.u64.wrap x)).length = 8 := rfl
    have hsz : (xs ++ (by8 (IntKind.u64.wrap x)).take k).length ≤ 1000008 := by rw [List.length_append, List.length_take, hb8]; omega
    have HSZ : Hid (((xs ++ (by8 (IntKind.u64.wrap x)).take k).length + 1) * 1 ≤ 140737488355328) := Lib.hid (by omega)
    have hbw : base ≤ wr.heap.size := Nat.le_trans hb HB.out.size
    clear hb8 hsz
    generalize hN : (xs ++ (by8 (IntKind.u64.wrap x)).take k).length = N at HR HSZ ⊢
    have HN := Lib.hid hN
    clear hN
    rcases Nat.lt_or_ge k 8 with hlt | hge
    · rcases k with _ | _ | _ | _ | _ | _ | _ | _ | k
      all_goals try (exfalso; omega)
      · have hi : u5 = .int .i64 56 := hi
        subst hi
        go_wp2_with (first | ((with_reducible refine gate_builtin (b := .append) (xs := #[.tmp 10, .tmp 16]) rfl ?_); at_builtin; refine hold_it ?_) | fail)
        refine _root_.id ?_
        refine Kd.R_append (Kd.int .u8) (w0 := w) base rfl (.tmp 10) (.tmp 16) 45 5 (.int .u8 0) 1 rfl Try.underlying45 info5 rfl (by decide) (by omega) (.slice A N c) (xs ++ (by8 (IntKind.u64.wrap x)).take 0) (nb (IntKind.u64.wrap x) 0) [.int .u8 (nb (IntKind.u64.wrap x) 0)] (fun _ => True) (fun _ => False) rfl rfl rfl (fun _ hk => hk.elim) (fun _ _ => trivial) HR.out HB.out hbw (by rw [HN.out]; exact HSZ.out) ?_
        intro v1 w1 hR1 hb1 hg1 hat1
        rw [List.append_assoc] at hR1
        have HR1 : Hid (Kd.R (Kd.int .u8) 5 w1 base (fun _ => True) v1 (xs ++ (by8 (IntKind.u64.wrap x)).take 1)) := Lib.hid hR1
        have HB1 := Lib.hid hb1
        clear hR1 hb1 hg1 hat1 HR HB HSZ HN
        go_wp2_with fail
        go_roundw
        case rel => exact ⟨1, by omega, rfl, HR1, HB1⟩
        case measure => simp [intOf]
      · have hi : u5 = .int .i64 48 := hi
        subst hi
        go_wp2_with (first | ((with_reducible refine gate_builtin (b := .append) (xs := #[.tmp 10, .tmp 16]) rfl ?_); at_builtin; refine hold_it ?_) | fail)
        refine _root_.id ?_
        refine Kd.R_append (Kd.int .u8) (w0 := w) base rfl (.tmp 10) (.tmp 16) 45 5 (.int .u8 0) 1 rfl Try.underlying45 info5 rfl (by decide) (by omega) (.slice A N c) (xs ++ (by8 (IntKind.u64.wrap x)).take 1) (nb (IntKind.u64.wrap x) 1) [.int .u8 (nb (IntKind.u64.wrap x) 1)] (fun _ => True) (fun _ => False) rfl rfl rfl (fun _ hk => hk.elim) (fun _ _ => trivial) HR.out HB.out hbw (by rw [HN.out]; exact HSZ.out) ?_
        intro v1 w1 hR1 hb1 hg1 hat1
        rw [List.append_assoc] at hR1
        have HR1 : Hid (Kd.R (Kd.int .u8) 5 w1 base (fun _ => True) v1 (xs ++ (by8 (IntKind.u64.wrap x)).take 2)) := Lib.hid hR1
        have HB1 := Lib.hid hb1
        clear hR1 hb1 hg1 hat1 HR HB HSZ HN
        go_wp2_with fail
        go_roundw
        case rel => exact ⟨2, by omega, rfl, HR1, HB1⟩
        case measure => simp [intOf]
      · have hi : u5 = .int .i64 40 := hi
        subst hi
        go_wp2_with (first | ((with_reducible refine gate_builtin (b := .append) (xs := #[.tmp 10, .tmp 16]) rfl ?_); at_builtin; refine hold_it ?_) | fail)
        refine _root_.id ?_
        refine Kd.R_append (Kd.int .u8) (w0 := w) base rfl (.tmp 10) (.tmp 16) 45 5 (.int .u8 0) 1 rfl Try.underlying45 info5 rfl (by decide) (by omega) (.slice A N c) (xs ++ (by8 (IntKind.u64.wrap x)).take 2) (nb (IntKind.u64.wrap x) 2) [.int .u8 (nb (IntKind.u64.wrap x) 2)] (fun _ => True) (fun _ => False) rfl rfl rfl (fun _ hk => hk.elim) (fun _ _ => trivial) HR.out HB.out hbw (by rw [HN.out]; exact HSZ.out) ?_
        intro v1 w1 hR1 hb1 hg1 hat1
        rw [List.append_assoc] at hR1
        have HR1 : Hid (Kd.R (Kd.int .u8) 5 w1 base (fun _ => True) v1 (xs ++ (by8 (IntKind.u64.wrap x)).take 3)) := Lib.hid hR1
        have HB1 := Lib.hid hb1
        clear hR1 hb1 hg1 hat1 HR HB HSZ HN
        go_wp2_with fail
        go_roundw
        case rel => exact ⟨3, by omega, rfl, HR1, HB1⟩
        case measure => simp [intOf]
      · have hi : u5 = .int .i64 32 := hi
        subst hi
        go_wp2_with (first | ((with_reducible refine gate_builtin (b := .append) (xs := #[.tmp 10, .tmp 16]) rfl ?_); at_builtin; refine hold_it ?_) | fail)
        refine _root_.id ?_
        refine Kd.R_append (Kd.int .u8) (w0 := w) base rfl (.tmp 10) (.tmp 16) 45 5 (.int .u8 0) 1 rfl Try.underlying45 info5 rfl (by decide) (by omega) (.slice A N c) (xs ++ (by8 (IntKind.u64.wrap x)).take 3) (nb (IntKind.u64.wrap x) 3) [.int .u8 (nb (IntKind.u64.wrap x) 3)] (fun _ => True) (fun _ => False) rfl rfl rfl (fun _ hk => hk.elim) (fun _ _ => trivial) HR.out HB.out hbw (by rw [HN.out]; exact HSZ.out) ?_
        intro v1 w1 hR1 hb1 hg1 hat1
        rw [List.append_assoc] at hR1
        have HR1 : Hid (Kd.R (Kd.int .u8) 5 w1 base (fun _ => True) v1 (xs ++ (by8 (IntKind.u64.wrap x)).take 4)) := Lib.hid hR1
        have HB1 := Lib.hid hb1
        clear hR1 hb1 hg1 hat1 HR HB HSZ HN
        go_wp2_with fail
        go_roundw
        case rel => exact ⟨4, by omega, rfl, HR1, HB1⟩
        case measure => simp [intOf]
      · have hi : u5 = .int .i64 24 := hi
        subst hi
        go_wp2_with (first | ((with_reducible refine gate_builtin (b := .append) (xs := #[.tmp 10, .tmp 16]) rfl ?_); at_builtin; refine hold_it ?_) | fail)
        refine _root_.id ?_
        refine Kd.R_append (Kd.int .u8) (w0 := w) base rfl (.tmp 10) (.tmp 16) 45 5 (.int .u8 0) 1 rfl Try.underlying45 info5 rfl (by decide) (by omega) (.slice A N c) (xs ++ (by8 (IntKind.u64.wrap x)).take 4) (nb (IntKind.u64.wrap x) 4) [.int .u8 (nb (IntKind.u64.wrap x) 4)] (fun _ => True) (fun _ => False) rfl rfl rfl (fun _ hk => hk.elim) (fun _ _ => trivial) HR.out HB.out hbw (by rw [HN.out]; exact HSZ.out) ?_
        intro v1 w1 hR1 hb1 hg1 hat1
        rw [List.append_assoc] at hR1
        have HR1 : Hid (Kd.R (Kd.int .u8) 5 w1 base (fun _ => True) v1 (xs ++ (by8 (IntKind.u64.wrap x)).take 5)) := Lib.hid hR1
        have HB1 := Lib.hid hb1
        clear hR1 hb1 hg1 hat1 HR HB HSZ HN
        go_wp2_with fail
        go_roundw
        case rel => exact ⟨5, by omega, rfl, HR1, HB1⟩
        case measure => simp [intOf]
      · have hi : u5 = .int .i64 16 := hi
        subst hi
        go_wp2_with (first | ((with_reducible refine gate_builtin (b := .append) (xs := #[.tmp 10, .tmp 16]) rfl ?_); at_builtin; refine hold_it ?_) | fail)
        refine _root_.id ?_
        refine Kd.R_append (Kd.int .u8) (w0 := w) base rfl (.tmp 10) (.tmp 16) 45 5 (.int .u8 0) 1 rfl Try.underlying45 info5 rfl (by decide) (by omega) (.slice A N c) (xs ++ (by8 (IntKind.u64.wrap x)).take 5) (nb (IntKind.u64.wrap x) 5) [.int .u8 (nb (IntKind.u64.wrap x) 5)] (fun _ => True) (fun _ => False) rfl rfl rfl (fun _ hk => hk.elim) (fun _ _ => trivial) HR.out HB.out hbw (by rw [HN.out]; exact HSZ.out) ?_
        intro v1 w1 hR1 hb1 hg1 hat1
        rw [List.append_assoc] at hR1
        have HR1 : Hid (Kd.R (Kd.int .u8) 5 w1 base (fun _ => True) v1 (xs ++ (by8 (IntKind.u64.wrap x)).take 6)) := Lib.hid hR1
        have HB1 := Lib.hid hb1
        clear hR1 hb1 hg1 hat1 HR HB HSZ HN
        go_wp2_with fail
        go_roundw
        case rel => exact ⟨6, by omega, rfl, HR1, HB1⟩
        case measure => simp [intOf]
      · have hi : u5 = .int .i64 8 := hi
        subst hi
        go_wp2_with (first | ((with_reducible refine gate_builtin (b := .append) (xs := #[.tmp 10, .tmp 16]) rfl ?_); at_builtin; refine hold_it ?_) | fail)
        refine _root_.id ?_
        refine Kd.R_append (Kd.int .u8) (w0 := w) base rfl (.tmp 10) (.tmp 16) 45 5 (.int .u8 0) 1 rfl Try.underlying45 info5 rfl (by decide) (by omega) (.slice A N c) (xs ++ (by8 (IntKind.u64.wrap x)).take 6) (nb (IntKind.u64.wrap x) 6) [.int .u8 (nb (IntKind.u64.wrap x) 6)] (fun _ => True) (fun _ => False) rfl rfl rfl (fun _ hk => hk.elim) (fun _ _ => trivial) HR.out HB.out hbw (by rw [HN.out]; exact HSZ.out) ?_
        intro v1 w1 hR1 hb1 hg1 hat1
        rw [List.append_assoc] at hR1
        have HR1 : Hid (Kd.R (Kd.int .u8) 5 w1 base (fun _ => True) v1 (xs ++ (by8 (IntKind.u64.wrap x)).take 7)) := Lib.hid hR1
        have HB1 := Lib.hid hb1
        clear hR1 hb1 hg1 hat1 HR HB HSZ HN
        go_wp2_with fail
        go_roundw
        case rel => exact ⟨7, by omega, rfl, HR1, HB1⟩
        case measure => simp [intOf]
      · have hi : u5 = .int .i64 0 := hi
        subst hi
        go_wp2_with (first | ((with_reducible refine gate_builtin (b := .append) (xs := #[.tmp 10, .tmp 16]) rfl ?_); at_builtin; refine hold_it ?_) | fail)
        refine _root_.id ?_
        refine Kd.R_append (Kd.int .u8) (w0 := w) base rfl (.tmp 10) (.tmp 16) 45 5 (.int .u8 0) 1 rfl Try.underlying45 info5 rfl (by decide) (by omega) (.slice A N c) (xs ++ (by8 (IntKind.u64.wrap x)).take 7) (IntKind.u64.wrap x % 256) [.int .u8 (IntKind.u64.wrap x % 256)] (fun _ => True) (fun _ => False) rfl rfl rfl (fun _ hk => hk.elim) (fun _ _ => trivial) HR.out HB.out hbw (by rw [HN.out]; exact HSZ.out) ?_
        intro v1 w1 hR1 hb1 hg1 hat1
        have h7 : nb (IntKind.u64.wrap x) 7 = IntKind.u64.wrap x % 256 := by simp [nb]
        rw [← h7] at hR1
        rw [List.append_assoc] at hR1
        have HR1 : Hid (Kd.R (Kd.int .u8) 5 w1 base (fun _ => True) v1 (xs ++ (by8 (IntKind.u64.wrap x)).take 8)) := Lib.hid hR1
        have HB1 := Lib.hid hb1
        clear hR1 hb1 hg1 hat1 HR HB HSZ HN
        go_wp2_with fail
        go_roundw
        case rel => exact ⟨8, by omega, rfl, HR1, HB1⟩
        case measure => simp [intOf]
    · obtain rfl : k = 8 := by omega
      have hi : u5 = .int .i64 (-8) := hi
      subst hi
      go_wp2_with fail
      go_ret
      exact ⟨_, rfl, HR.out, HB.out⟩
/-- A name's form. -/
def formN (s : ByteArray) : List Int := (s.size : Int) :: bOf s
set_option maxRecDepth 20000 in
set_option maxHeartbeats 4000000 in
theorem tname_any (s : ByteArray) (hs : s.size ≤ 32) (base : Nat) (b : Value) (xs : List Int) (w : World) (hR : Kd.R (Kd.int .u8) 5 w base (fun _ => True) b xs) (hb : base ≤ w.heap.size) (hl : xs.length ≤ 1000000) :
    Calls Try.prog 112 #[b, .string s] w fun e w' => ∃ u, e = .returned (.tuple #[u, .int .i64 0]) ∧ Kd.R (Kd.int .u8) 5 w' base (fun _ => True) u (xs ++ formN s) ∧ Below base w w' := by
  have HR := Lib.hid hR
  have b0 : decide ((32 : Int) < (s.size : Int)) = false := decide_eq_false (by omega)
  have b1 : decide (32 < s.size) = false := decide_eq_false (by omega)
  have hw8 : IntKind.u8.wrap (s.size : Int) = (s.size : Int) := by rw [IntKind.wrap_u8]; omega
  obtain ⟨A, c, rfl⟩ := Kd.R_slice hR
  have HSZ : Hid ((xs.length + 1) * 1 ≤ 140737488355328) := Lib.hid (by omega)
  have HSZ2 : Hid ((xs ++ [(s.size : Int)]).length + s.size ≤ 140737488355328) := Lib.hid (by simp; omega)
  clear hR
  go_enter Try.func112, Try.ntmps112
  go_wp2_with (first | ((with_reducible refine gate_builtin (b := .append) (xs := #[.tmp 9, .tmp 13]) rfl ?_); at_builtin; refine hold_it ?_) | fail)
  refine _root_.id ?_
  refine Kd.R_append (Kd.int .u8) (w0 := w) base rfl (.tmp 9) (.tmp 13) 45 5 (.int .u8 0) 1 rfl Try.underlying45 info5 rfl (by decide) (by omega) (.slice A xs.length c) xs (s.size : Int) [.int .u8 (s.size : Int)] (fun _ => True) (fun _ => False) rfl rfl rfl (fun _ hk => hk.elim) (fun _ _ => trivial) HR.out (Below.refl _ _) hb HSZ.out ?_
  intro v1 w1 hR1 hb1 hg1 hat1
  have hb2 := Nat.le_trans hb hb1.size
  have HR1 := Lib.hid hR1
  have HB1 := Lib.hid hb1
  clear hR1 hb1 hg1 hat1 HR
  go_wp2_with (first | ((with_reducible refine gate_builtin (b := .append) (xs := #[.tmp 14, .tmp 15]) rfl ?_); at_builtin; refine hold_it ?_) | fail)
  refine _root_.id ?_
  refine R_append_str (w0 := w) base rfl (.tmp 14) (.tmp 15) rfl v1 _ s rfl rfl HR1.out HB1.out hb2 HSZ2.out ?_
  intro v2 w2 hR2 hb3 hg2
  have hR2 : Kd.R (Kd.int .u8) 5 w2 base (fun _ => True) v2 (xs ++ formN s) := by
    rw [List.append_assoc] at hR2
    exact hR2
  have HR2 := Lib.hid hR2
  have HB2 := Lib.hid hb3
  clear hR2 hb3 hg2
  go_wp2_with fail
  go_ret2
  exact ⟨_, rfl, HR2.out, HB2.out⟩
end Go.Proofs.Ytlbfnnngemonoaa.Wir
namespace Go.Proofs.Ytlbfnnngemonoaa.Wir
open Go.RowKit Go.Proofs.Ytlbfnnngemonoaa.PWireReads
open Go.Proofs.Ytlbfnnngemonoaa.Fat (Blk Chg Off chg_opt)
open Go.Proofs.YtlbfnnngemonoaaW.PrintWords Go.Proofs.YtlbfnnngemonoaaW.PrintLast Go.Proofs.YtlbfnnngemonoaaW.PrintMore
set_option linter.unusedVariables false
set_option linter.unusedSimpArgs false
attribute [local go_sem] run_store_float run_store_complex
set_option maxRecDepth 20000 in
set_option maxHeartbeats 1000000 in
theorem spawnf_any (s : ByteArray) (hs : s.size ≤ 32) (w : World) : Calls Try.prog 110 #[.agg #[.string s]] w (WPost w (1 :: formN s)) := by
  obtain ⟨PP, hPP⟩ : ∃ PP, WPost w (1 :: formN s) = PP := ⟨_, rfl⟩
  rw [hPP]
  have HPP := Lib.hid hPP
  have hB := Blk.new w 158 #[.string s]
  have hb := (Below.refl w.heap.size w).alloc (Nat.le_refl _) (.cells #[.string s] 158)
  clear hPP
  go_enter Try.func110, Try.ntmps110
  go_upto_region 1 with fail
  generalize w.alloc (.cells #[.string s] 158) = W1 at hB hb ⊢
  have x0 := hB.cell 0
  simp at x0
  have hR2 : Kd.R (Kd.int .u8) 5 (W1.alloc (.cells #[.int .u8 1] 5)) w.heap.size (fun _ => True) (.slice (some ⟨W1.heap.size, 0, none⟩) 1 1) [(1 : Int)] := Kd.R_of_own (own_lit W1 w.heap.size 5 .u8 [(1 : Int)] hb.size (by simp)) (fun _ _ => trivial)
  have hb2 := below_alloc hb (.cells #[.int .u8 1] 5)
  have x2 : (W1.alloc (.cells #[.int .u8 1] 5)).cell? ⟨w.heap.size, 0, none⟩ = some (.string s) := (hB.alloc (.cells #[.int .u8 1] 5)).cell 0
  have HX := Lib.hid (tname_any s hs w.heap.size (.slice (some ⟨W1.heap.size, 0, none⟩) 1 1) [1] (W1.alloc (.cells #[.int .u8 1] 5)) hR2 hb2.size (by simp))
  have HB2 := Lib.hid hb2
  clear hB hb hR2
  go_wp2_with fail
  refine HX.out.mono ?_
  rintro _ w3 ⟨u, rfl, hR3, hb3⟩
  have HR3 := Lib.hid hR3
  have HB3 := Lib.hid (HB2.out.trans (hb3.mono (Nat.le_refl _)))
  clear hR3 hb3 hb2
  go_wp2_with fail
  rw [← HPP.out]
  exact ⟨u, rfl, HR3.out, HB3.out⟩
set_option maxRecDepth 20000 in
set_option maxHeartbeats 1000000 in
theorem pickf_any (r : Int) (w : World) : Calls Try.prog 118 #[.agg #[.int .i64 r]] w (WPost w (3 :: by8 (IntKind.u64.wrap r))) := by
  obtain ⟨PP, hPP⟩ : ∃ PP, WPost w (3 :: by8 (IntKind.u64.wrap r)) = PP := ⟨_, rfl⟩
  rw [hPP]
  have HPP := Lib.hid hPP
  have hB := Blk.new w 162 #[.int .i64 r]
  have hb := (Below.refl w.heap.size w).alloc (Nat.le_refl _) (.cells #[.int .i64 r] 162)
  clear hPP
  go_enter Try.func118, Try.ntmps118
  go_upto_region 1 with fail
  generalize w.alloc (.cells #[.int .i64 r] 162) = W1 at hB hb ⊢
  have x0 := hB.cell 0
  simp at x0
  have hR2 : Kd.R (Kd.int .u8) 5 (W1.alloc (.cells #[.int .u8 3] 5)) w.heap.size (fun _ => True) (.slice (some ⟨W1.heap.size, 0, none⟩) 1 1) [(3 : Int)] := Kd.R_of_own (own_lit W1 w.heap.size 5 .u8 [(3 : Int)] hb.size (by simp)) (fun _ _ => trivial)
  have hb2 := below_alloc hb (.cells #[.int .u8 3] 5)
  have x2 : (W1.alloc (.cells #[.int .u8 3] 5)).cell? ⟨w.heap.size, 0, none⟩ = some (.int .i64 r) := (hB.alloc (.cells #[.int .u8 3] 5)).cell 0
  have HX := Lib.hid (tnum_any r w.heap.size (.slice (some ⟨W1.heap.size, 0, none⟩) 1 1) [3] (W1.alloc (.cells #[.int .u8 3] 5)) hR2 hb2.size (by simp))
  have HB2 := Lib.hid hb2
  clear hB hb hR2
  go_wp2_with fail
  refine HX.out.mono ?_
  rintro _ w3 ⟨u, rfl, hR3, hb3⟩
  have HR3 := Lib.hid hR3
  have HB3 := Lib.hid (HB2.out.trans (hb3.mono (Nat.le_refl _)))
  clear hR3 hb3 hb2
  go_wp2_with fail
  rw [← HPP.out]
  exact ⟨u, rfl, HR3.out, HB3.out⟩
def T114 : Bool × List (List Nat × List Nat) := (true, [([], []), ([], []), ([1], [1]), ([0, 2], [0, 2]), ([], []), ([4], [4]), ([3, 5, 3], [3, 5]), ([6], [6]), ([7], [7]), ([7], [7]), ([8, 6, 0, 1, 2, 3, 4, 5, 6, 7, 8], [8]), ([9, 10, 0, 1, 2, 3, 4, 5, 6, 7, 8, 9, 10], [9])])
def B114 : List Nat := [0, 0, 2, 7, 0, 16, 63, 127, 255, 255, 511, 2047]
theorem tab114 : rtab .any (opsOf Try.f114 1) = T114 := by kernel_rfl
theorem bits114 : waitsOk T114.2 B114 = true := by kernel_rfl
set_option maxRecDepth 20000 in
set_option maxHeartbeats 4000000 in
theorem sendf_any (t : Int) (s : ByteArray) (hs : s.size ≤ 32) (p : List V) (A : Option Addr) (c : Nat) (w : World) (hC : Kd.C kV w A p.length p) (hc : p.length ≤ c) (hG : ∀ v ∈ p, Good v) (hF : ∀ v ∈ p, Fit v) (h6 : p.length ≤ 6) (hz : szs p ≤ 1024) :
    Calls Try.prog 114 #[.agg #[.int .i64 t, .string s, .slice A p.length c]] w (WPost w (2 :: (by8 (IntKind.u64.wrap t) ++ formN s ++ formP p))) := by
  obtain ⟨PP, hPP⟩ : ∃ PP, WPost w (2 :: (by8 (IntKind.u64.wrap t) ++ formN s ++ formP p)) = PP := ⟨_, rfl⟩
  rw [hPP]
  have HPP := Lib.hid hPP
  have HP := Lib.hid (fun (W : World) (h : Below w.heap.size w W) => payload_any A c p W (Kd.C_below hC h) hc hG hF h6 hz)
  have HPL := Lib.hid (formP_len p hG h6)
  have HSL : Hid ((bOf s).length ≤ 32) := Lib.hid (by simp [bOf]; exact hs)
  clear hPP hC hG hF hz
  have hblk := Blk.new w 160 #[.int .i64 t, .string s, .slice A p.length c]
  have hb := (Below.refl w.heap.size w).alloc (Nat.le_refl _) (.cells #[.int .i64 t, .string s, .slice A p.length c] 160)
  go_enter Try.func114, Try.ntmps114
  go_upto_region 1 with fail
  generalize w.alloc (.cells #[.int .i64 t, .string s, .slice A p.length c] 160) = W1 at hblk hb ⊢
  refine start_ (n := 12) (S := fun w' => Blk w' w.heap.size 160 #[.int .i64 t, .string s, .slice A p.length c]) (ds := []) #[false, false, false, false, false, false, false, false, false, false, false, false] (by kernel_rfl) rfl rfl hblk.drew (fun hHeld => ?_)
  refine with_tabW tab114 bits114 (fun HT_ HW_ => ?_)
  have hb1 := hb.drew
  generalize W1.drew = W2 at hHeld hb1 ⊢
  refine pure_ (i := 1) (N := some 9) (v := ?_) (a' := ?_) #[false, true, false, false, false, false, false, false, false, false, false, false] rfl rfl (any_of HT_.out (by kernel_rfl)) (fun _ _ _ h => h) (Or.inl ⟨by rfl, ?_⟩) ?_ ?_
  rotate_left
  · intro w'
    go_simp
    with_reducible rfl
  rotate_left
  · simp only [Act.put, List.setIfInBounds_toArray, List.set_cons_zero, List.set_cons_succ, i64_w, i32_w]
    rfl
  refine take_ (i := 2) (N := some 10) (v := ?_) (a' := ?_) #[false, true, true, false, false, false, false, false, false, false, false, false] rfl rfl (take_ofW HT_.out HW_.out (by kernel_rfl)) (fun _ _ _ h => h) (Or.inl ⟨by rfl, ?_⟩) hHeld ?_ ?_
  rotate_left
  · intro w' HS_
    have s0 := HS_.cell 0
    simp at s0
    go_simp
    with_reducible rfl
  rotate_left
  · simp only [Act.put, List.setIfInBounds_toArray, List.set_cons_zero, List.set_cons_succ, i64_w, i32_w]
    rfl
  refine pure_ (i := 4) (N := some 12) (v := ?_) (a' := ?_) #[false, true, true, false, true, false, false, false, false, false, false, false] rfl rfl (any_of HT_.out (by kernel_rfl)) (fun _ _ _ h => h) (Or.inl ⟨by rfl, ?_⟩) ?_ ?_
  rotate_left
  · intro w'
    go_simp
    with_reducible rfl
  rotate_left
  · simp only [Act.put, List.setIfInBounds_toArray, List.set_cons_zero, List.set_cons_succ, i64_w, i32_w]
    rfl
  refine take_ (i := 5) (N := some 13) (v := ?_) (a' := ?_) #[false, true, true, false, true, true, false, false, false, false, false, false] rfl rfl (take_ofW HT_.out HW_.out (by kernel_rfl)) (fun _ _ _ h => h) (Or.inl ⟨by rfl, ?_⟩) hHeld ?_ ?_
  rotate_left
  · intro w' HS_
    have s1 := HS_.cell 1
    simp at s1
    go_simp
    with_reducible rfl
  rotate_left
  · simp only [Act.put, List.setIfInBounds_toArray, List.set_cons_zero, List.set_cons_succ, i64_w, i32_w]
    rfl
  refine one_ (i := 0) (N := some 8) #[true, true, true, false, true, true, false, false, false, false, false, false] rfl rfl (one_of HT_.out (by kernel_rfl)) (by decide) (fun K hK => ?_)
  refine value_ (w1 := ?_) (v := ?_) (by rfl) rfl ?_ ?_
  rotate_left 2
  · go_simp
    constructor
    · rfl
    · rfl
  have hR3 : Kd.R (Kd.int .u8) 5 (W2.alloc (.cells #[.int .u8 2] 5)) W2.heap.size (fun _ => True) (.slice (some ⟨W2.heap.size, 0, none⟩) 1 1) [(2 : Int)] := Kd.R_of_own (own_lit W2 W2.heap.size 5 .u8 [(2 : Int)] (Nat.le_refl _) (by simp)) (fun _ _ => trivial)
  have hb3 := below_alloc hb1 (.cells #[.int .u8 2] 5)
  have hk3 := hHeld.alloc (.cells #[.int .u8 2] 5)
  have hlt := hHeld.lt
  have HX := Lib.hid (tnum_any t W2.heap.size (.slice (some ⟨W2.heap.size, 0, none⟩) 1 1) [2] (W2.alloc (.cells #[.int .u8 2] 5)) hR3 (by simp) (by simp))
  refine hK.out _ _ hk3 (fun hHeld2 => ?_)
  clear hK K
  refine norm_ (a' := ?_) ?_ ?_
  rotate_left
  · show Act.put _ (some 8) _ = _
    simp only [Act.put, List.setIfInBounds_toArray, List.set_cons_zero, List.set_cons_succ, i64_w, i32_w]
    rfl
  refine one_ (i := 3) (N := some 11) #[true, true, true, true, true, true, false, false, false, false, false, false] rfl rfl (one_of HT_.out (by kernel_rfl)) (by decide) (fun K hK => ?_)
  refine goes_ Try.func116 (by kernel_rfl) rfl #[.slice (some ⟨W2.heap.size, 0, none⟩) 1 1, .int .i64 t] (by rfl) rfl rfl (by simp only [List.map_toArray, List.map_cons, List.map_nil]; rfl) ?_
  refine (HX.out).mono ?_
  rintro _ w4 ⟨u4, rfl, hR4, hb4⟩
  have hk4 := hk3.below hb4 hlt
  have hb34 : Below w.heap.size w w4 := hb3.trans (hb4.mono hb1.size)
  have hs4 : W2.heap.size ≤ w4.heap.size := by have h := hb4.size; simp at h; omega
  have HX2 := Lib.hid (tname_any s hs W2.heap.size u4 ([2] ++ by8 (IntKind.u64.wrap t)) w4 hR4 hs4 (by simp [by8]))
  refine ⟨_, rfl, ?_⟩
  refine hK.out _ _ hk4 (fun _ => ?_)
  clear hK K
  refine norm_ (a' := ?_) ?_ ?_
  rotate_left
  · show Act.put _ (some 11) _ = _
    simp only [Act.put, List.setIfInBounds_toArray, List.set_cons_zero, List.set_cons_succ, i64_w, i32_w]
    rfl
  refine one_ (i := 6) (N := some 14) #[true, true, true, true, true, true, true, false, false, false, false, false] rfl rfl (one_of HT_.out (by kernel_rfl)) (by decide) (fun K hK => ?_)
  refine goes_ Try.func112 (by kernel_rfl) rfl #[u4, .string s] (by rfl) rfl rfl (by simp only [List.map_toArray, List.map_cons, List.map_nil]; rfl) ?_
  refine (HX2.out).mono ?_
  rintro _ w6 ⟨u6, rfl, hR6, hb6⟩
  have hk6 := hk4.below hb6 hlt
  have hb36 : Below w.heap.size w w6 := hb34.trans (hb6.mono hb1.size)
  have HR6 := Lib.hid hR6
  refine ⟨_, rfl, ?_⟩
  refine hK.out _ _ hk6 (fun _ => ?_)
  clear hK K
  refine norm_ (a' := ?_) ?_ ?_
  rotate_left
  · show Act.put _ (some 14) _ = _
    simp only [Act.put, List.setIfInBounds_toArray, List.set_cons_zero, List.set_cons_succ, i64_w, i32_w]
    rfl
  refine pure_ (i := 7) (N := some 7) (v := ?_) (a' := ?_) #[true, true, true, true, true, true, true, true, false, false, false, false] rfl rfl (any_of HT_.out (by kernel_rfl)) (fun _ _ _ h => h) (Or.inl ⟨by rfl, ?_⟩) ?_ ?_
  rotate_left
  · intro w'
    go_simp
    with_reducible rfl
  rotate_left
  · simp only [Act.put, List.setIfInBounds_toArray, List.set_cons_zero, List.set_cons_succ, i64_w, i32_w]
    rfl
  refine pure_ (i := 8) (N := some 15) (v := ?_) (a' := ?_) #[true, true, true, true, true, true, true, true, true, false, false, false] rfl rfl (any_of HT_.out (by kernel_rfl)) (fun _ _ _ h => h) (Or.inl ⟨by rfl, ?_⟩) ?_ ?_
  rotate_left
  · intro w'
    go_simp
    with_reducible rfl
  rotate_left
  · simp only [Act.put, List.setIfInBounds_toArray, List.set_cons_zero, List.set_cons_succ, i64_w, i32_w]
    rfl
  refine pure_ (i := 9) (N := some 16) (v := ?_) (a' := ?_) #[true, true, true, true, true, true, true, true, true, true, false, false] rfl rfl (any_of HT_.out (by kernel_rfl)) (fun _ _ _ h => h) (Or.inl ⟨by rfl, ?_⟩) ?_ ?_
  rotate_left
  · intro w'
    go_simp
    with_reducible rfl
  rotate_left
  · simp only [Act.put, List.setIfInBounds_toArray, List.set_cons_zero, List.set_cons_succ, i64_w, i32_w]
    rfl
  refine pure_ (i := 10) (N := some 4) (v := ?_) (a' := ?_) #[true, true, true, true, true, true, true, true, true, true, true, false] rfl rfl (any_of HT_.out (by kernel_rfl)) (fun _ _ _ h => h) (Or.inl ⟨by rfl, ?_⟩) ?_ ?_
  rotate_left
  · intro w'
    go_simp
    with_reducible rfl
  rotate_left
  · simp only [Act.put, List.setIfInBounds_toArray, List.set_cons_zero, List.set_cons_succ, i64_w, i32_w]
    rfl
  refine pure_ (i := 11) (N := some 5) (v := ?_) (a' := ?_) #[true, true, true, true, true, true, true, true, true, true, true, true] rfl rfl (any_of HT_.out (by kernel_rfl)) (fun _ _ _ h => h) (Or.inl ⟨by rfl, ?_⟩) ?_ ?_
  rotate_left
  · intro w'
    go_simp
    with_reducible rfl
  rotate_left
  · simp only [Act.put, List.setIfInBounds_toArray, List.set_cons_zero, List.set_cons_succ, i64_w, i32_w]
    rfl
  refine done_ (done_of HT_.out (by kernel_rfl)) ?_
  clear HT_ HW_
  clear HX HX2 hk3 hk4 hb3 hb34 hHeld hHeld2
  have x2 := hk6.cell 2
  simp at x2
  have HB6 := Lib.hid hb36
  have hR6' := Kd.R_lower hR6 hb1.size
  have HR6' := Lib.hid hR6'
  clear hR3 hR4 hR6 hR6' hb4 hb6 HR6 hk6 hb36 hb1 hb
  go_wp2_with fail
  refine (HP.out _ HB6.out).mono ?_
  rintro _ w7 ⟨u7, rfl, hR7, hb7⟩
  obtain ⟨A7, c7, rfl⟩ := Kd.R_slice hR7
  have hC7 := (Kd.R_reads' hR7).2.2
  have HC7 := Lib.hid hC7
  have HR67 := Lib.hid (Kd.R_below HR6'.out hb7)
  have HB7 := Lib.hid (HB6.out.trans (hb7.mono HB6.out.size))
  clear hR7 hb7 hC7 HR6'
  have HSZ : Hid (([2] ++ by8 (IntKind.u64.wrap t) ++ formN s).length + (formP p).length ≤ 140737488355328) := Lib.hid (by have := HPL.out; have := HSL.out; simp [by8, formN]; omega)
  go_wp2_with (first | ((with_reducible refine gate_builtin (b := .append) (xs := #[.tmp 29, .tmp 30]) rfl ?_); at_builtin; refine hold_it ?_) | fail)
  refine _root_.id ?_
  refine Kd.R_append_rows (Kd.int .u8) (w0 := w) w.heap.size rfl (.tmp 29) (.tmp 30) 45 5 (.int .u8 0) 1 rfl Try.underlying45 info5 rfl (by decide) (by omega) u6 ([2] ++ by8 (IntKind.u64.wrap t) ++ formN s) (formP p) A7 (formP p).length c7 (fun _ => True) (fun _ => False) rfl rfl HR67.out HC7.out (fun x cs hc => hc) (fun _ hk => hk.elim) (fun _ _ => trivial) HB7.out HB7.out.size (by have := HSZ.out; omega) ?_
  intro v8 w8 hR8 hb8 hg8 hat8
  have HR8 := Lib.hid hR8
  have HB8 := Lib.hid hb8
  clear hR8 hb8 hg8 hat8
  go_wp2_with fail
  rw [← HPP.out]
  refine ⟨v8, rfl, ?_, HB8.out⟩
  have h := HR8.out
  simpa using h
end Go.Proofs.Ytlbfnnngemonoaa.Wir
namespace Go.Proofs.Ytlbfnnngemonoaa.Wir
open Go.RowKit Go.Proofs.Ytlbfnnngemonoaa.PWireReads
open Go.Proofs.Ytlbfnnngemonoaa.Fat (Blk Chg Off chg_opt)
open Go.Proofs.YtlbfnnngemonoaaW.PrintWords Go.Proofs.YtlbfnnngemonoaaW.PrintLast Go.Proofs.YtlbfnnngemonoaaW.PrintMore
set_option linter.unusedVariables false
set_option linter.unusedSimpArgs false
attribute [local go_sem] run_store_float run_store_complex
theorem m158 (v : Value) (w : World) : (method 150 158 v "chordmail/tape.form").run Try.prog w = .ok (110, v) w := by kernel_rfl
theorem m160 (v : Value) (w : World) : (method 150 160 v "chordmail/tape.form").run Try.prog w = .ok (114, v) w := by kernel_rfl
theorem m162 (v : Value) (w : World) : (method 150 162 v "chordmail/tape.form").run Try.prog w = .ok (118, v) w := by kernel_rfl
attribute [local go_sem] m158 m160 m162
set_option maxRecDepth 20000 in
set_option maxHeartbeats 1000000 in
theorem of1_any (s : ByteArray) (t r : Int) (A : Option Addr) (n c : Nat) (w : World) : Calls Try.prog 87 #[.agg #[.int .i64 1, .string s, .int .i64 t, .slice A n c, .int .i64 r]] w fun e w' => e = .returned (.iface 158 (.agg #[.string s])) ∧ Below w.heap.size w w' := by
  have hB := Blk.new w 123 #[.int .i64 1, .string s, .int .i64 t, .slice A n c, .int .i64 r]
  have hb := (Below.refl w.heap.size w).alloc (Nat.le_refl _) (.cells #[.int .i64 1, .string s, .int .i64 t, .slice A n c, .int .i64 r] 123)
  go_enter Try.func87, Try.ntmps87
  go_upto_region 1 with fail
  generalize w.alloc (.cells #[.int .i64 1, .string s, .int .i64 t, .slice A n c, .int .i64 r] 123) = W1 at hB hb ⊢
  have x0 := hB.cell 0
  have x1 := hB.cell 1
  have x2 := hB.cell 2
  have x3 := hB.cell 3
  have x4 := hB.cell 4
  simp at x0 x1 x2 x3 x4
  go_wp2_with fail
  go_ret
  exact ⟨rfl, hb⟩
set_option maxRecDepth 20000 in
set_option maxHeartbeats 1000000 in
theorem of2_any (s : ByteArray) (t r : Int) (A : Option Addr) (n c : Nat) (w : World) : Calls Try.prog 87 #[.agg #[.int .i64 2, .string s, .int .i64 t, .slice A n c, .int .i64 r]] w fun e w' => e = .returned (.iface 160 (.agg #[.int .i64 t, .string s, .slice A n c])) ∧ Below w.heap.size w w' := by
  have hB := Blk.new w 123 #[.int .i64 2, .string s, .int .i64 t, .slice A n c, .int .i64 r]
  have hb := (Below.refl w.heap.size w).alloc (Nat.le_refl _) (.cells #[.int .i64 2, .string s, .int .i64 t, .slice A n c, .int .i64 r] 123)
  go_enter Try.func87, Try.ntmps87
  go_upto_region 1 with fail
  generalize w.alloc (.cells #[.int .i64 2, .string s, .int .i64 t, .slice A n c, .int .i64 r] 123) = W1 at hB hb ⊢
  have x0 := hB.cell 0
  have x1 := hB.cell 1
  have x2 := hB.cell 2
  have x3 := hB.cell 3
  have x4 := hB.cell 4
  simp at x0 x1 x2 x3 x4
  go_wp2_with fail
  go_ret
  exact ⟨rfl, hb⟩
set_option maxRecDepth 20000 in
set_option maxHeartbeats 1000000 in
theorem of3_any (s : ByteArray) (t r : Int) (A : Option Addr) (n c : Nat) (w : World) : Calls Try.prog 87 #[.agg #[.int .i64 3, .string s, .int .i64 t, .slice A n c, .int .i64 r]] w fun e w' => e = .returned (.iface 162 (.agg #[.int .i64 r])) ∧ Below w.heap.size w w' := by
  have hB := Blk.new w 123 #[.int .i64 3, .string s, .int .i64 t, .slice A n c, .int .i64 r]
  have hb := (Below.refl w.heap.size w).alloc (Nat.le_refl _) (.cells #[.int .i64 3, .string s, .int .i64 t, .slice A n c, .int .i64 r] 123)
  go_enter Try.func87, Try.ntmps87
  go_upto_region 1 with fail
  generalize w.alloc (.cells #[.int .i64 3, .string s, .int .i64 t, .slice A n c, .int .i64 r] 123) = W1 at hB hb ⊢
  have x0 := hB.cell 0
  have x1 := hB.cell 1
  have x2 := hB.cell 2
  have x3 := hB.cell 3
  have x4 := hB.cell 4
  simp at x0 x1 x2 x3 x4
  go_wp2_with fail
  go_ret
  exact ⟨rfl, hb⟩
set_option maxRecDepth 20000 in
set_option maxHeartbeats 1000000 in
theorem form1_any (s : ByteArray) (hs : s.size ≤ 32) (A : Option Addr) (c : Nat) (w : World) : Calls Try.prog 72 #[.agg #[.int .i64 1, .string s, .int .i64 0, .slice A 0 c, .int .i64 0]] w (WPost w (1 :: formN s)) := by
  obtain ⟨PP, hPP⟩ : ∃ PP, WPost w (1 :: formN s) = PP := ⟨_, rfl⟩
  rw [hPP]
  have HPP := Lib.hid hPP
  have hB := Blk.new w 123 #[.int .i64 1, .string s, .int .i64 0, .slice A 0 c, .int .i64 0]
  have hb := (Below.refl w.heap.size w).alloc (Nat.le_refl _) (.cells #[.int .i64 1, .string s, .int .i64 0, .slice A 0 c, .int .i64 0] 123)
  have HF := Lib.hid (fun (W : World) (h : Below w.heap.size w W) => spawnf_any s hs W)
  clear hPP
  go_enter Try.func72, Try.ntmps72
  go_upto_region 1 with fail
  generalize w.alloc (.cells #[.int .i64 1, .string s, .int .i64 0, .slice A 0 c, .int .i64 0] 123) = W1 at hB hb ⊢
  have x0 := hB.cell 0
  have x1 := hB.cell 1
  have x2 := hB.cell 2
  have x3 := hB.cell 3
  have x4 := hB.cell 4
  simp at x0 x1 x2 x3 x4
  go_wp2_with fail
  refine (of1_any s 0 0 A 0 c _).mono ?_
  rintro _ w2 ⟨rfl, hb2⟩
  have HB2 := Lib.hid (hb.trans (hb2.mono hb.size))
  clear hb hb2 hB x0 x1 x2 x3 x4
  go_wp2_with fail
  refine (HF.out _ HB2.out).mono ?_
  rintro _ w3 ⟨u, rfl, hR, hb3⟩
  have HR := Lib.hid (Kd.R_lower hR HB2.out.size)
  have HB3 := Lib.hid (HB2.out.trans (hb3.mono HB2.out.size))
  clear hR hb3
  go_wp2_with fail
  rw [← HPP.out]
  exact ⟨u, rfl, HR.out, HB3.out⟩
set_option maxRecDepth 20000 in
set_option maxHeartbeats 1000000 in
theorem form2_any (t : Int) (s : ByteArray) (hs : s.size ≤ 32) (p : List V) (A : Option Addr) (c : Nat) (w : World) (hC : Kd.C kV w A p.length p) (hc : p.length ≤ c) (hG : ∀ v ∈ p, Good v) (hF : ∀ v ∈ p, Fit v) (h6 : p.length ≤ 6) (hz : szs p ≤ 1024) : Calls Try.prog 72 #[.agg #[.int .i64 2, .string s, .int .i64 t, .slice A p.length c, .int .i64 0]] w (WPost w (2 :: (by8 (IntKind.u64.wrap t) ++ formN s ++ formP p))) := by
  obtain ⟨PP, hPP⟩ : ∃ PP, WPost w (2 :: (by8 (IntKind.u64.wrap t) ++ formN s ++ formP p)) = PP := ⟨_, rfl⟩
  rw [hPP]
  have HPP := Lib.hid hPP
  have hB := Blk.new w 123 #[.int .i64 2, .string s, .int .i64 t, .slice A p.length c, .int .i64 0]
  have hb := (Below.refl w.heap.size w).alloc (Nat.le_refl _) (.cells #[.int .i64 2, .string s, .int .i64 t, .slice A p.length c, .int .i64 0] 123)
  have HF := Lib.hid (fun (W : World) (h : Below w.heap.size w W) => sendf_any t s hs p A c W (Kd.C_below hC h) hc hG hF h6 hz)
  clear hPP hC hG hF hz
  go_enter Try.func72, Try.ntmps72
  go_upto_region 1 with fail
  generalize w.alloc (.cells #[.int .i64 2, .string s, .int .i64 t, .slice A p.length c, .int .i64 0] 123) = W1 at hB hb ⊢
  have x0 := hB.cell 0
  have x1 := hB.cell 1
  have x2 := hB.cell 2
  have x3 := hB.cell 3
  have x4 := hB.cell 4
  simp at x0 x1 x2 x3 x4
  go_wp2_with fail
  refine (of2_any s t 0 A p.length c _).mono ?_
  rintro _ w2 ⟨rfl, hb2⟩
  have HB2 := Lib.hid (hb.trans (hb2.mono hb.size))
  clear hb hb2 hB x0 x1 x2 x3 x4
  go_wp2_with fail
  refine (HF.out _ HB2.out).mono ?_
  rintro _ w3 ⟨u, rfl, hR, hb3⟩
  have HR := Lib.hid (Kd.R_lower hR HB2.out.size)
  have HB3 := Lib.hid (HB2.out.trans (hb3.mono HB2.out.size))
  clear hR hb3
  go_wp2_with fail
  rw [← HPP.out]
  exact ⟨u, rfl, HR.out, HB3.out⟩
set_option maxRecDepth 20000 in
set_option maxHeartbeats 1000000 in
theorem form3_any (r : Int) (A : Option Addr) (c : Nat) (w : World) : Calls Try.prog 72 #[.agg #[.int .i64 3, .string { data := #[] }, .int .i64 0, .slice A 0 c, .int .i64 r]] w (WPost w (3 :: by8 (IntKind.u64.wrap r))) := by
  obtain ⟨PP, hPP⟩ : ∃ PP, WPost w (3 :: by8 (IntKind.u64.wrap r)) = PP := ⟨_, rfl⟩
  rw [hPP]
  have HPP := Lib.hid hPP
  have hB := Blk.new w 123 #[.int .i64 3, .string { data := #[] }, .int .i64 0, .slice A 0 c, .int .i64 r]
  have hb := (Below.refl w.heap.size w).alloc (Nat.le_refl _) (.cells #[.int .i64 3, .string { data := #[] }, .int .i64 0, .slice A 0 c, .int .i64 r] 123)
  have HF := Lib.hid (fun (W : World) (h : Below w.heap.size w W) => pickf_any r W)
  clear hPP
  go_enter Try.func72, Try.ntmps72
  go_upto_region 1 with fail
  generalize w.alloc (.cells #[.int .i64 3, .string { data := #[] }, .int .i64 0, .slice A 0 c, .int .i64 r] 123) = W1 at hB hb ⊢
  have x0 := hB.cell 0
  have x1 := hB.cell 1
  have x2 := hB.cell 2
  have x3 := hB.cell 3
  have x4 := hB.cell 4
  simp at x0 x1 x2 x3 x4
  go_wp2_with fail
  refine (of3_any { data := #[] } 0 r A 0 c _).mono ?_
  rintro _ w2 ⟨rfl, hb2⟩
  have HB2 := Lib.hid (hb.trans (hb2.mono hb.size))
  clear hb hb2 hB x0 x1 x2 x3 x4
  go_wp2_with fail
  refine (HF.out _ HB2.out).mono ?_
  rintro _ w3 ⟨u, rfl, hR, hb3⟩
  have HR := Lib.hid (Kd.R_lower hR HB2.out.size)
  have HB3 := Lib.hid (HB2.out.trans (hb3.mono HB2.out.size))
  clear hR hb3
  go_wp2_with fail
  rw [← HPP.out]
  exact ⟨u, rfl, HR.out, HB3.out⟩
/-- A call that may be. -/
def SC (x : Cl) : Prop := (∃ s, s.size ≤ 32 ∧ x = ⟨1, s, 0, [], 0⟩) ∨ (∃ s t p, s.size ≤ 32 ∧ (∀ v ∈ p, Good v) ∧ (∀ v ∈ p, Fit v) ∧ p.length ≤ 6 ∧ szs p ≤ 1024 ∧ x = ⟨2, s, t, p, 0⟩) ∨ (∃ r, x = ⟨3, { data := #[] }, 0, [], r⟩)
/-- A call's form. -/
def formC (x : Cl) : List Int := if x.k = 1 then 1 :: formN x.s else if x.k = 2 then 2 :: (by8 (IntKind.u64.wrap x.t) ++ formN x.s ++ formP x.p) else 3 :: by8 (IntKind.u64.wrap x.r)
theorem cform_any (x : Cl) (h : SC x) (A : Option Addr) (c : Nat) (w : World) (hC : Kd.C kV w A x.p.length x.p) (hc : x.p.length ≤ c) :
    Calls Try.prog 72 #[.agg #[.int .i64 x.k, .string x.s, .int .i64 x.t, .slice A x.p.length c, .int .i64 x.r]] w (WPost w (formC x)) := by
  rcases h with ⟨s, hs, rfl⟩ | ⟨s, t, p, hs, hG, hF, h6, hz, rfl⟩ | ⟨r, rfl⟩
  · exact form1_any s hs A c w
  · exact form2_any t s hs p A c w hC hc hG hF h6 hz
  · exact form3_any r A c w
theorem formC_len (x : Cl) (h : SC x) : (formC x).length ≤ 5000 := by
  rcases h with ⟨s, hs, rfl⟩ | ⟨s, t, p, hs, hG, hF, h6, hz, rfl⟩ | ⟨r, rfl⟩
  · simp [formC, formN, bOf]
    have : s.data.size = s.size := rfl
    omega
  · have := formP_len p hG h6
    simp [formC, formN, bOf, by8]
    have : s.data.size = s.size := rfl
    omega
  · simp [formC, by8]
end Go.Proofs.Ytlbfnnngemonoaa.Wir
