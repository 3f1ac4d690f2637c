/- (*chordmailref24.Book).Fates. -/
import Derived.Test.YtlbfnnngemonoaaFatTold
namespace Go.Proofs.Ytlbfnnngemonoaa.Fat
open Go.RowKit Go.Proofs.Ytlbfnnngemonoaa.PFateBooks
open Go.Proofs.YtlbfnnngemonoaaW.PrintWords Go.Proofs.YtlbfnnngemonoaaW.PrintLast Go.Proofs.YtlbfnnngemonoaaW.PrintMore
set_option linter.unusedVariables false
set_option linter.unusedSimpArgs false

def gOf (t : S134) (i : Nat) : S137 := if t.f1 ≠ 0 then ⟨i, 1, t.f1, -1, -1⟩ else if t.f2 < 0 then ⟨i, 2, 0, t.f0, -1⟩ else ⟨i, 3, 0, t.f0, t.f2⟩
def GG (ts : List S134) : List S137 := ts.zipIdx.map (fun p => gOf p.1 p.2)
theorem GG_len (ts : List S134) : (GG ts).length = ts.length := by simp [GG]
theorem GG_next (ts : List S134) (k : Nat) (h : k < ts.length) : GG (ts.take (k + 1)) = GG (ts.take k) ++ [gOf (ts.getD k z134) k] := by
  rw [List.take_add_one, List.getElem?_eq_getElem h]
  have e : ts.getD k z134 = ts[k] := by simp [List.getD, h]
  have hl : (ts.take k).length = k := by rw [List.length_take]; omega
  simp only [GG, Option.toList_some, List.zipIdx_append, List.map_append, e]
  simp [hl]
theorem info137' : (Try.prog.info? 137).map (fun i => (i.zero, i.size, i.bytes)) = some (some (.agg #[(.int .i64 0), (.int .i64 0), (.int .i64 0), (.int .i64 0), (.int .i64 0)]), 5, 40) := by kernel_rfl

set_option maxRecDepth 20000 in
theorem rfates_nil (w : World) : Calls Try.prog 48 #[.pointer none] w fun e w' => e = .returned (.slice none 0 0) ∧ Below w.heap.size w w' := by
  go_enter Try.func48, Try.ntmps48
  go_wp2_with fail
  go_ret
  exact ⟨rfl, Below.refl _ _⟩

set_option maxRecDepth 20000 in
set_option maxHeartbeats 2000000 in
theorem rfates_any (p : Nat) (S : List Nat) (ts : List S134) (n : Int) (w : World) (hK : Rk w p S ts n) (hl : ts.length * 40 ≤ 140737488355328) :
    Calls Try.prog 48 #[.pointer (some ⟨p, 0, none⟩)] w fun e w' => ∃ v, e = .returned v ∧ Kd.R k137 137 w' w.heap.size (fun _ => True) v (GG ts) ∧ Below w.heap.size w w' := by
  obtain ⟨v, rfl, hB, hR⟩ := hK
  obtain ⟨A, c, rfl⟩ := Kd.R_slice hR
  have HB := Lib.hid hB
  have HC := Lib.hid (Kd.R_reads' hR).2.2
  clear hB hR
  go_enter Try.func48, Try.ntmps48
  go_wp2_with fail
  go_loopw [3, 4] (fun v3 i W => ∃ k : Nat, k ≤ ts.length ∧ i = .int .i64 k ∧ Hid (Kd.R k137 137 W w.heap.size (fun _ => True) v3 (GG (ts.take k))) ∧ Below w.heap.size w W) (fun _ i _ => ts.length - (intOf i).toNat)
  case atStart => exact ⟨0, Nat.zero_le _, rfl, Lib.hid (Kd.R_nil _ _ _ _ _), Below.refl _ _⟩
  case round =>
    obtain ⟨k, hk, rfl, HR, hb⟩ := hrel
    have hc0 := (HB.out.below hb HB.out.lt).cell 0
    simp at hc0
    by_cases hlt : k < ts.length
    · have b0 : decide ((k : Int) < (ts.length : Int)) = true := by simp; omega
      have hki : (k : Int) < (ts.length : Int) := by omega
      obtain ⟨ad, hA, y0, y1, y2⟩ := at_134 (Kd.C_below HC.out hb) k hlt
      subst hA
      have HGN := Lib.hid (GG_next ts k hlt)
      generalize ts.getD k z134 = t at y0 y1 y2 HGN
      have HWN : Hid (wrap64 ((k : Int) + 1) = ((k + 1 : Nat) : Int)) := Lib.hid (w64n k (by omega))
      have HL2 : Hid (((GG (ts.take k)).length + 1) * 40 ≤ 140737488355328) := Lib.hid (by rw [GG_len, List.length_take]; omega)
      go_upto_region 8 with fail
      have h5 := Blk.new wr 134 #[.int .i64 t.f0, .int .i64 t.f1, .int .i64 t.f2]
      have HR2 := Lib.hid (Kd.R_alloc HR.out (.cells #[.int .i64 t.f0, .int .i64 t.f1, .int .i64 t.f2] 134))
      have HB2 := Lib.hid (hb.alloc hb.size (.cells #[.int .i64 t.f0, .int .i64 t.f1, .int .i64 t.f2] 134))
      generalize wr.heap.size = g5 at h5 ⊢
      generalize wr.alloc (.cells #[.int .i64 t.f0, .int .i64 t.f1, .int .i64 t.f2] 134) = w5 at h5 HR2 HB2 ⊢
      have z0 := h5.cell 0
      have z1 := h5.cell 1
      have z2 := h5.cell 2
      simp at z0 z1 z2
      clear h5 HR hb hc0 y0 y1 y2 b0
      by_cases h1 : t.f1 = 0
      · have b1 : (t.f1 != 0) = false := by simpa using h1
        by_cases h2 : t.f2 < 0
        · have b2 : decide (t.f2 < 0) = true := by simpa using h2
          have HG : Hid (gOf t k = ⟨k, 2, 0, t.f0, -1⟩) := Lib.hid (by unfold gOf; rw [if_neg (by simpa using h1), if_pos h2])
          clear h1 h2
          go_wp2_with (first | ((with_reducible refine gate_builtin (b := .append) (xs := #[.tmp 37, .tmp 42]) rfl ?_); at_builtin; refine Kd.R_append k137 (w0 := w) w.heap.size rfl (.tmp 37) (.tmp 42) 100 137 (.agg #[(.int .i64 0), (.int .i64 0), (.int .i64 0), (.int .i64 0), (.int .i64 0)]) 40 rfl Try.underlying100 info137' rfl (by decide) (by omega) u3 (GG (ts.take k)) (⟨k, 2, 0, t.f0, -1⟩ : S137) [.int .i64 (k), .int .i64 (2), .int .i64 (0), .int .i64 t.f0, .int .i64 (-1)] (fun _ => True) (fun _ => False) rfl rfl (k137_mkM _ _ _ (⟨k, 2, 0, t.f0, -1⟩ : S137)) (fun _ hk => hk.elim) (fun _ _ => trivial) HR2.out HB2.out HB2.out.size HL2.out ?_; intro v9 w9 hR9 hb9 hg9 hat9) | fail)
          have HR3 : Hid (Kd.R k137 137 w9 w.heap.size (fun _ => True) v9 (GG (ts.take (k + 1)))) := Lib.hid (by rw [HGN.out, HG.out]; exact hR9)
          go_roundw
          case rel => exact ⟨k + 1, by omega, by first | rfl | (rw [HWN.out]), HR3, hb9⟩
          case measure =>
            first | rw [HWN.out] | skip
            simp [intOf]
            omega
        · have b2 : decide (t.f2 < 0) = false := by simpa using h2
          have HG : Hid (gOf t k = ⟨k, 3, 0, t.f0, t.f2⟩) := Lib.hid (by unfold gOf; rw [if_neg (by simpa using h1), if_neg h2])
          clear h1 h2
          go_wp2_with (first | ((with_reducible refine gate_builtin (b := .append) (xs := #[.tmp 44, .tmp 51]) rfl ?_); at_builtin; refine Kd.R_append k137 (w0 := w) w.heap.size rfl (.tmp 44) (.tmp 51) 100 137 (.agg #[(.int .i64 0), (.int .i64 0), (.int .i64 0), (.int .i64 0), (.int .i64 0)]) 40 rfl Try.underlying100 info137' rfl (by decide) (by omega) u3 (GG (ts.take k)) (⟨k, 3, 0, t.f0, t.f2⟩ : S137) [.int .i64 (k), .int .i64 (3), .int .i64 (0), .int .i64 t.f0, .int .i64 t.f2] (fun _ => True) (fun _ => False) rfl rfl (k137_mkM _ _ _ (⟨k, 3, 0, t.f0, t.f2⟩ : S137)) (fun _ hk => hk.elim) (fun _ _ => trivial) HR2.out HB2.out HB2.out.size HL2.out ?_; intro v9 w9 hR9 hb9 hg9 hat9) | fail)
          have HR3 : Hid (Kd.R k137 137 w9 w.heap.size (fun _ => True) v9 (GG (ts.take (k + 1)))) := Lib.hid (by rw [HGN.out, HG.out]; exact hR9)
          go_roundw
          case rel => exact ⟨k + 1, by omega, by first | rfl | (rw [HWN.out]), HR3, hb9⟩
          case measure =>
            first | rw [HWN.out] | skip
            simp [intOf]
            omega
      · have b1 : (t.f1 != 0) = true := by simpa using h1
        have HG : Hid (gOf t k = ⟨k, 1, t.f1, -1, -1⟩) := Lib.hid (by unfold gOf; rw [if_pos h1])
        clear h1
        go_wp2_with (first | ((with_reducible refine gate_builtin (b := .append) (xs := #[.tmp 27, .tmp 32]) rfl ?_); at_builtin; refine Kd.R_append k137 (w0 := w) w.heap.size rfl (.tmp 27) (.tmp 32) 100 137 (.agg #[(.int .i64 0), (.int .i64 0), (.int .i64 0), (.int .i64 0), (.int .i64 0)]) 40 rfl Try.underlying100 info137' rfl (by decide) (by omega) u3 (GG (ts.take k)) (⟨k, 1, t.f1, -1, -1⟩ : S137) [.int .i64 (k), .int .i64 (1), .int .i64 t.f1, .int .i64 (-1), .int .i64 (-1)] (fun _ => True) (fun _ => False) rfl rfl (k137_mkM _ _ _ (⟨k, 1, t.f1, -1, -1⟩ : S137)) (fun _ hk => hk.elim) (fun _ _ => trivial) HR2.out HB2.out HB2.out.size HL2.out ?_; intro v9 w9 hR9 hb9 hg9 hat9) | fail)
        have HR3 : Hid (Kd.R k137 137 w9 w.heap.size (fun _ => True) v9 (GG (ts.take (k + 1)))) := Lib.hid (by rw [HGN.out, HG.out]; exact hR9)
        go_roundw
        case rel => exact ⟨k + 1, by omega, by first | rfl | (rw [HWN.out]), HR3, hb9⟩
        case measure =>
          first | rw [HWN.out] | skip
          simp [intOf]
          omega
    · have b0 : decide ((k : Int) < (ts.length : Int)) = false := by simp; omega
      obtain rfl : k = ts.length := by omega
      rw [List.take_length] at HR
      go_wp2_with fail
      go_ret
      exact ⟨_, rfl, HR.out, hb⟩
end Go.Proofs.Ytlbfnnngemonoaa.Fat
