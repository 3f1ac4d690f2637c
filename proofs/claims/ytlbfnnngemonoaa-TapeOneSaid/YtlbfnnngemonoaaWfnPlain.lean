/- plain over a list; slices.Clone of bytes. -/
import Derived.Test.YtlbfnnngemonoaaWfnPay
import Derived.Lib.SliceRun
namespace Go.Proofs.Ytlbfnnngemonoaa.Wir
open Go.RowKit Go.Proofs.Ytlbfnnngemonoaa.PWireReads
open Go.Proofs.Ytlbfnnngemonoaa.Fat (Blk Chg Off chg_opt)
open Go.Proofs.YtlbfnnngemonoaaW.PrintWords Go.Proofs.YtlbfnnngemonoaaW.PrintLast Go.Proofs.YtlbfnnngemonoaaW.PrintMore
set_option linter.unusedVariables false
set_option linter.unusedSimpArgs false
attribute [local go_sem] run_store_float run_store_complex

set_option maxRecDepth 20000 in
set_option maxHeartbeats 1000000 in
theorem plains_any (A : Option Addr) (c : Nat) (vs : List V) (w : World) (hC : Kd.C kV w A vs.length vs) (hG : ∀ v ∈ vs, Good v) (h6 : vs.length ≤ 4096) :
    Calls Try.prog 34 #[.slice A vs.length c] w fun e w' => ∃ A1 c1, e = .returned (.slice A1 vs.length c1) ∧ Kd.R kV 50 w' w.heap.size (fun _ => True) (.slice A1 vs.length c1) vs ∧ Below w.heap.size w w' := by
  have HC := Lib.hid hC
  have HG := Lib.hid hG
  clear hC hG
  go_enter Try.func34, Try.ntmps34
  go_wp2_with fail
  go_loopw [3, 4] (fun u i wr => ∃ k : Nat, k ≤ vs.length ∧ i = .int .i64 k ∧ Hid (Kd.R kV 50 wr w.heap.size (fun _ => True) u (vs.take k)) ∧ Hid (Below w.heap.size w wr)) (fun _ i _ => vs.length - (intOf i).toNat)
  case atStart => exact ⟨0, by omega, rfl, Lib.hid (Kd.R_nil _ _ _ _ _), Lib.hid (Below.refl _ _)⟩
  case round =>
    obtain ⟨k, hk, rfl, HR, HB⟩ := hrel
    by_cases hlt : k < vs.length
    · have b0 : decide ((k : Int) < (vs.length : Int)) = true := by simp; omega
      obtain ⟨ad, hA, x0, x1, x2, x3, x4⟩ := at_V (Kd.C_below HC.out HB.out) k hlt
      subst hA
      have hGk := HG.out vs[k] (List.getElem_mem hlt)
      have htk : vs.take (k + 1) = vs.take k ++ [vs[k]] := by rw [List.take_add_one, List.getElem?_eq_getElem hlt]; rfl
      have HTK := Lib.hid htk
      have hlen : (vs.take k).length = k := by rw [List.length_take]; omega
      have HSZ : Hid (((vs.take k).length + 1) * 56 ≤ 140737488355328) := Lib.hid (by rw [hlen]; omega)
      obtain ⟨A1, c1, rfl⟩ := Kd.R_slice HR.out
      generalize vs.take k = us at HR HTK HSZ hlen ⊢
      generalize vs[k] = v at x0 x1 x2 x3 x4 hGk HTK
      have HP := Lib.hid (fun W => plain_any v hGk W)
      have HWN := Lib.hid (w64n k (by omega))
      clear hGk htk hlen
      go_wp2_with fail
      refine (HP.out _).mono ?_
      rintro e w1 ⟨rfl, hb1⟩
      have HR1 := Lib.hid (Kd.R_below HR.out hb1)
      have HB1 := Lib.hid (HB.out.trans (hb1.mono HB.out.size))
      have HR2 := Lib.hid (Kd.R_alloc HR1.out (.cells #[.int .i64 v.k, .int .i64 v.i, .float .f64 v.r, .complex .f64 v.p.1 v.p.2, .string v.s] 50))
      have HB2 := Lib.hid (below_alloc HB1.out (.cells #[.int .i64 v.k, .int .i64 v.i, .float .f64 v.r, .complex .f64 v.p.1 v.p.2, .string v.s] 50))
      clear hb1 x0 x1 x2 x3 x4 HR HB HR1
      simp only [ag]
      go_wp2_with (first | ((with_reducible refine gate_builtin (b := .append) (xs := #[.tmp 11, .tmp 17]) rfl ?_); at_builtin; refine hold_it ?_) | fail)
      refine id ?_
      refine Kd.R_append_rows kV (w0 := w) w.heap.size rfl (.tmp 11) (.tmp 17) 53 50 (ag zV) 56 rfl Try.underlying53 info50 rfl (by decide) (by omega) (.slice A1 us.length c1) us [v] (some ⟨w1.heap.size, 0, none⟩) 1 1 (fun _ => True) (fun _ => False) rfl rfl HR2.out (C_oneV w1 v) (fun x cs hc => by rw [kV_open hc]; exact kV_mkM _ _ _ x) (fun _ hk => hk.elim) (fun _ _ => trivial) HB2.out HB2.out.size HSZ.out ?_
      intro v3 w3 hR3 hb3 hg3 hat3
      have HR3 := Lib.hid hR3
      have HB3 := Lib.hid hb3
      clear hR3 hb3 hg3 hat3 HR2 HB2 HB1
      go_wp2_with fail
      go_roundw
      case rel => exact ⟨k + 1, by omega, by first | rfl | (rw [HWN.out]; rfl), by rw [HTK.out]; exact HR3, HB3⟩
      case measure =>
        first | rw [HWN.out] | skip
        simp [intOf]
        omega
    · obtain rfl : k = vs.length := by omega
      rw [List.take_length] at HR
      obtain ⟨A1, c1, rfl⟩ := Kd.R_slice HR.out
      go_wp2_with fail
      go_ret
      exact ⟨A1, c1, rfl, HR.out, HB.out⟩
set_option maxRecDepth 20000 in
set_option maxHeartbeats 1000000 in
theorem clone_any (ad : Addr) (c : Nat) (l : List Int) (w : World) (hC : Kd.C (Kd.int .u8) w (some ad) l.length l) (hl : l.length ≤ 1000) :
    Calls Try.prog 67 #[.slice (some ad) l.length c] w fun e w' => ∃ A1 c1, e = .returned (.slice A1 l.length c1) ∧ Kd.R (Kd.int .u8) 5 w' w.heap.size (fun _ => True) (.slice A1 l.length c1) l ∧ Below w.heap.size w w' := by
  have HC := Lib.hid hC
  have HR0 := Lib.hid (Kd.R_of_own (h1 := fun _ => rfl) (ok := fun _ => True) (own_lit w w.heap.size 5 .u8 [] (Nat.le_refl _) (by simp)) (fun _ _ => trivial))
  have HB0 := Lib.hid ((Below.refl w.heap.size w).alloc (Nat.le_refl _) (.cells #[] 5))
  have HC1 := Lib.hid (Kd.C_alloc hC (.cells #[] 5))
  have hq := fun (W : World) (a : Option Addr) (n c : Nat) => Go.Lib.run_eql_slice_nil (P := Try.prog) W 45 5 a n c 0 0 Try.underlying45
  clear hC
  go_enter Try.func67, Try.ntmps67
  go_wp2_with (first | ((with_reducible refine gate_builtin (b := .append) (xs := #[.tmp 5, .tmp 6]) rfl ?_); at_builtin; refine hold_it ?_) | fail)
  refine id ?_
  refine Kd.R_append_rows (Kd.int .u8) (w0 := w) w.heap.size rfl (.tmp 5) (.tmp 6) 45 5 (.int .u8 0) 1 rfl Try.underlying45 info5 rfl (by decide) (by omega) (.slice (some ⟨w.heap.size, 0, none⟩) 0 0) [] l (some ad) l.length c (fun _ => True) (fun _ => False) rfl rfl HR0.out HC1.out (fun x cs hc => hc) (fun _ hk => hk.elim) (fun _ _ => trivial) HB0.out HB0.out.size (by simp; omega) ?_
  intro v3 w3 hR3 hb3 hg3 hat3
  rw [List.nil_append] at hR3
  obtain ⟨A1, c1, rfl⟩ := Kd.R_slice hR3
  have HR3 := Lib.hid hR3
  have HB3 := Lib.hid hb3
  clear hR3 hb3 hg3 hat3
  go_wp2_with fail
  go_ret
  exact ⟨A1, c1, rfl, HR3.out, HB3.out⟩
end Go.Proofs.Ytlbfnnngemonoaa.Wir
