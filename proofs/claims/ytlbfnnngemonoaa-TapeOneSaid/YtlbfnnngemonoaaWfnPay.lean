/- The writers: a value, a payload. -/
import Derived.Test.YtlbfnnngemonoaaWfnPure
namespace Go.Proofs.Ytlbfnnngemonoaa.Wir
open Go.RowKit Go.Proofs.Ytlbfnnngemonoaa.PWireReads
open Go.Proofs.Ytlbfnnngemonoaa.Fat (Blk Chg Off chg_opt)
open Go.Proofs.YtlbfnnngemonoaaW.PrintWords Go.Proofs.YtlbfnnngemonoaaW.PrintLast Go.Proofs.YtlbfnnngemonoaaW.PrintMore
set_option linter.unusedVariables false
set_option linter.unusedSimpArgs false
attribute [local go_sem] run_store_float run_store_complex

/-- New memory that holds these bytes. -/
def WPost (w : World) (xs : List Int) (e : Ending) (w' : World) : Prop :=
  ∃ u, e = .returned (.tuple #[u, .int .i64 0]) ∧ Kd.R (Kd.int .u8) 5 w' w.heap.size (fun _ => True) u xs ∧ Below w.heap.size w w'
theorem formV_len (v : V) (h : Good v) : (formV v).length ≤ 259 := by
  rcases h with ⟨i, rfl⟩ | ⟨x, hx, rfl⟩ | ⟨x, y, hx, hy, rfl⟩ | ⟨s, hs, rfl⟩
  · simp [formV, vI, by8]
  · simp [formV, vR, by8]
  · simp [formV, vC, by8]
  · have : (bOf s).length = s.size := by simp [bOf]
    simp [formV, vT, this]; omega
set_option maxRecDepth 20000 in
set_option maxHeartbeats 1000000 in
theorem value_any (v : V) (hv : Good v) (hf : Fit v) (w : World) : Calls Try.prog 31 #[ag v] w (WPost w (formV v)) := by
  have hb := (Below.refl w.heap.size w).alloc (Nat.le_refl _) (.cells #[.int .i64 v.k, .int .i64 v.i, .float .f64 v.r, .complex .f64 v.p.1 v.p.2, .string v.s] 50)
  have hB := Blk.new w 50 #[.int .i64 v.k, .int .i64 v.i, .float .f64 v.r, .complex .f64 v.p.1 v.p.2, .string v.s]
  have HV := Lib.hid (fun (W : World) (h : w.heap.size ≤ W.heap.size) => laid_any v hv hf w.heap.size (.slice none 0 0) [] W (Kd.R_nil _ _ _ _ _) h (by simp))
  generalize hPP : WPost w (formV v) = PP
  have HPP := Lib.hid hPP
  clear hPP
  simp only [ag]
  go_enter Try.func31, Try.ntmps31
  go_upto_region 1 with fail
  generalize hWq : w.alloc (.cells #[.int .i64 v.k, .int .i64 v.i, .float .f64 v.r, .complex .f64 v.p.1 v.p.2, .string v.s] 50) = W1 at hb hB ⊢
  clear hWq
  have x0 := hB.cell 0
  have x1 := hB.cell 1
  have x2 := hB.cell 2
  have x3 := hB.cell 3
  have x4 := hB.cell 4
  simp at x0 x1 x2 x3 x4
  have HB := Lib.hid hb
  clear hb hB
  go_wp2_with fail
  refine (HV.out _ HB.out.size).mono ?_
  rintro e w2 ⟨u, rfl, hR, hb2⟩
  have HR := Lib.hid hR
  have HB2 := Lib.hid (HB.out.trans hb2)
  clear hR hb2 x0 x1 x2 x3 x4
  go_wp2_with fail
  rw [← HPP.out]
  exact ⟨u, rfl, HR.out, HB2.out⟩
def formVs : List V → List Int
  | [] => []
  | v :: r => formV v ++ formVs r
def formP (vs : List V) : List Int := (vs.length : Int) :: formVs vs
theorem formVs_append : ∀ a b : List V, formVs (a ++ b) = formVs a ++ formVs b
  | [], _ => rfl
  | v :: r, b => by simp only [List.cons_append, formVs, formVs_append r b, List.append_assoc]
theorem formVs_take (vs : List V) (i : Nat) (hi : i < vs.length) : formVs (vs.take (i + 1)) = formVs (vs.take i) ++ formV vs[i] := by
  rw [List.take_add_one, List.getElem?_eq_getElem hi, formVs_append]
  simp [formVs]
theorem formVs_len : ∀ vs : List V, (∀ v ∈ vs, Good v) → (formVs vs).length ≤ 259 * vs.length
  | [], _ => by simp [formVs]
  | v :: r, h => by
    have h1 := formV_len v (h v (by simp))
    have h2 := formVs_len r (fun u hu => h u (by simp [hu]))
    simp only [formVs, List.length_append, List.length_cons]
    omega
set_option maxRecDepth 20000 in
set_option maxHeartbeats 1000000 in
theorem payload_any (A : Option Addr) (c : Nat) (vs : List V) (w : World) (hC : Kd.C kV w A vs.length vs) (hc : vs.length ≤ c) (hG : ∀ v ∈ vs, Good v) (hF : ∀ v ∈ vs, Fit v) (h6 : vs.length ≤ 6) (hz : szs vs ≤ 1024) :
    Calls Try.prog 33 #[.slice A vs.length c] w (WPost w (formP vs)) := by
  have HL := Lib.hid (light_any A c vs w hC hc hG (by omega))
  rw [show decide (szs vs ≤ 1024) = true from by simp [hz]] at HL
  have HC := Lib.hid hC
  have HG := Lib.hid hG
  have HF := Lib.hid hF
  generalize hPP : WPost w (formP vs) = PP
  have HPP := Lib.hid hPP
  have b0 : decide (6 < (vs.length : Int)) = false := by simp; omega
  have w0 : IntKind.u8.wrap (vs.length : Int) = (vs.length : Int) := by rw [IntKind.wrap_u8]; omega
  clear hC hG hF hPP hz
  go_enter Try.func33, Try.ntmps33
  go_wp2_with fail
  refine HL.out.mono ?_
  rintro e w1 ⟨rfl, hb1⟩
  have HB1 := Lib.hid hb1
  clear hb1
  go_upto_region 4 with fail
  have hR2 : Kd.R (Kd.int .u8) 5 (w1.alloc (.cells #[.int .u8 (vs.length : Int)] 5)) w.heap.size (fun _ => True) (.slice (some ⟨w1.heap.size, 0, none⟩) 1 1) [(vs.length : Int)] := Kd.R_of_own (own_lit w1 w.heap.size 5 .u8 [(vs.length : Int)] HB1.out.size (by simp)) (fun _ _ => trivial)
  have hB2 := below_alloc HB1.out (.cells #[.int .u8 (vs.length : Int)] 5)
  generalize hWq : w1.alloc (.cells #[.int .u8 (vs.length : Int)] 5) = w2 at hR2 hB2 ⊢
  clear hWq
  have HR2 := Lib.hid hR2
  have HB2 := Lib.hid hB2
  clear hR2 hB2 HL w0 b0
  go_wp2_with fail
  go_loopw [4, 22] (fun b i wr => ∃ k : Nat, k ≤ vs.length ∧ i = .int .i64 k ∧ Hid (Kd.R (Kd.int .u8) 5 wr w.heap.size (fun _ => True) b ((vs.length : Int) :: formVs (vs.take k))) ∧ Hid (Below w.heap.size w wr)) (fun _ i _ => vs.length - (intOf i).toNat)
  case atStart => exact ⟨0, by omega, rfl, HR2, HB2⟩
  case round =>
    clear HR2 HB2
    obtain ⟨k, hk, rfl, HR, HB⟩ := hrel
    by_cases hlt : k < vs.length
    · have b0 : decide ((k : Int) < (vs.length : Int)) = true := by simp; omega
      obtain ⟨ad, hA, x0, x1, x2, x3, x4⟩ := at_V (Kd.C_below HC.out HB.out) k hlt
      subst hA
      have hGk := HG.out vs[k] (List.getElem_mem hlt)
      have hFk := HF.out vs[k] (List.getElem_mem hlt)
      have hft := formVs_take vs k hlt
      have hfl := formVs_len (vs.take k) (fun u hu => HG.out u (List.mem_of_mem_take hu))
      have HT : Hid ((vs.length : Int) :: formVs (vs.take (k + 1)) = ((vs.length : Int) :: formVs (vs.take k)) ++ formV vs[k]) := Lib.hid (by rw [hft]; rfl)
      have hll : ((vs.length : Int) :: formVs (vs.take k)).length ≤ 1000000 := by
        have : (vs.take k).length ≤ 6 := by rw [List.length_take]; omega
        simp only [List.length_cons]
        omega
      generalize hxs : (vs.length : Int) :: formVs (vs.take k) = xs at HR HT hll
      generalize vs[k] = v at x0 x1 x2 x3 x4 hGk hFk HT
      have hbn := HB.out.size
      have hBn := Blk.new wr 50 #[.int .i64 v.k, .int .i64 v.i, .float .f64 v.r, .complex .f64 v.p.1 v.p.2, .string v.s]
      have HBn := Lib.hid (below_alloc HB.out (.cells #[.int .i64 v.k, .int .i64 v.i, .float .f64 v.r, .complex .f64 v.p.1 v.p.2, .string v.s] 50))
      have HRn := Lib.hid (Kd.R_alloc HR.out (.cells #[.int .i64 v.k, .int .i64 v.i, .float .f64 v.r, .complex .f64 v.p.1 v.p.2, .string v.s] 50))
      have HWN := Lib.hid (w64n k (by omega))
      obtain ⟨A1, c1, hv1⟩ := Kd.R_slice HR.out
      subst hv1
      clear hft hfl hxs
      go_upto_region 8 with fail
      generalize hWq : wr.alloc (.cells #[.int .i64 v.k, .int .i64 v.i, .float .f64 v.r, .complex .f64 v.p.1 v.p.2, .string v.s] 50) = W1 at hBn HBn HRn ⊢
      clear hWq x0 x1 x2 x3 x4
      have x0 := hBn.cell 0
      have x1 := hBn.cell 1
      have x2 := hBn.cell 2
      have x3 := hBn.cell 3
      have x4 := hBn.cell 4
      simp at x0 x1 x2 x3 x4
      have HV := Lib.hid (laid_any v hGk hFk w.heap.size _ xs W1 HRn.out HBn.out.size hll)
      clear hGk hFk hBn hll
      simp only [ag] at HV
      go_wp2_with fail
      refine HV.out.mono ?_
      rintro e w3 ⟨u, rfl, hR, hb3⟩
      have HR3 := Lib.hid hR
      have HB3 := Lib.hid (HBn.out.trans hb3)
      clear hR hb3 x0 x1 x2 x3 x4
      go_wp2_with fail
      go_roundw
      case rel => exact ⟨k + 1, by omega, by first | rfl | (rw [HWN.out]; rfl), by rw [HT.out]; exact HR3, HB3⟩
      case measure =>
        first | rw [HWN.out] | skip
        simp [intOf]
        omega
    · obtain rfl : k = vs.length := by omega
      rw [List.take_length] at HR
      go_wp2_with fail
      rw [← HPP.out]
      exact ⟨_, rfl, HR.out, HB.out⟩
end Go.Proofs.Ytlbfnnngemonoaa.Wir
