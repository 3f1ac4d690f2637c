/- The document's Reading: Payload. -/
import Derived.Test.YtlbfnnngemonoaaWirRV
namespace Go.Proofs.Ytlbfnnngemonoaa.Wir
open Go.RowKit Go.Proofs.Ytlbfnnngemonoaa.PWireReads
open Go.Proofs.Ytlbfnnngemonoaa.Fat (Blk Chg Off)
open Go.Proofs.YtlbfnnngemonoaaW.PrintWords Go.Proofs.YtlbfnnngemonoaaW.PrintLast Go.Proofs.YtlbfnnngemonoaaW.PrintMore
set_option linter.unusedVariables false
set_option linter.unusedSimpArgs false
attribute [local go_sem] run_store_float run_store_complex

set_option maxRecDepth 20000 in
theorem rmay_zero (w : World) : Calls Try.prog 76 #[ag zV] w fun e w' => e = .returned (.bool false) ∧ Below w.heap.size w w' := by
  show Calls Try.prog 76 #[.agg #[.int .i64 0, .int .i64 0, .float .f64 0, .complex .f64 0 0, .string ByteArray.empty]] w fun e w' => e = .returned (.bool false) ∧ Below w.heap.size w w'
  go_enter Try.func76, Try.ntmps76
  go_wp2_with fail
  go_ret
  exact ⟨rfl, (Below.refl _ _).alloc (Nat.le_refl _) _⟩
set_option maxRecDepth 20000 in
theorem rsize_zero (w : World) : Calls Try.prog 77 #[ag zV] w fun e w' => e = .returned (.int .i64 0) ∧ Below w.heap.size w w' := by
  show Calls Try.prog 77 #[.agg #[.int .i64 0, .int .i64 0, .float .f64 0, .complex .f64 0 0, .string ByteArray.empty]] w fun e w' => e = .returned (.int .i64 0) ∧ Below w.heap.size w w'
  have HM : Hid (∀ W : World, Calls Try.prog 76 #[.agg #[.int .i64 0, .int .i64 0, .float .f64 0, .complex .f64 0 0, .string ByteArray.empty]] W fun e w' => e = .returned (.bool false) ∧ Below W.heap.size W w') := Lib.hid rmay_zero
  have hb0 := (Below.refl w.heap.size w).alloc (Nat.le_refl _) (.cells #[.int .i64 0, .int .i64 0, .float .f64 0, .complex .f64 0 0, .string ByteArray.empty] 50)
  have HT := Lib.hid hb0
  clear hb0
  go_enter Try.func77, Try.ntmps77
  go_wp2_with fail
  refine (HM.out _).mono ?_
  rintro e w1 ⟨rfl, hb1⟩
  go_wp2_with fail
  go_ret
  exact ⟨rfl, HT.out.trans (hb1.mono HT.out.size)⟩
def szR (v : V) : Int := if v.k = 0 then 0 else szOf v
def szsR : List V → Int
  | [] => 0
  | v :: vs => szR v + szsR vs
theorem szsR_append (a b : List V) : szsR (a ++ b) = szsR a + szsR b := by
  induction a with
  | nil => simp [szsR]
  | cons v vs ih => simp [szsR, ih]; omega
theorem szR_good {v : V} (h : Good v) : szR v = szOf v := by
  rcases h with ⟨i, rfl⟩ | ⟨x, _, rfl⟩ | ⟨x, y, _, _, rfl⟩ | ⟨s, h, rfl⟩ <;> rfl
theorem szsR_good : ∀ vs : List V, (∀ v ∈ vs, Good v) → szsR vs = szs vs
  | [], _ => rfl
  | v :: vs, h => by
    simp only [szsR, szs]
    rw [szR_good (h v (by simp)), szsR_good vs (fun u hu => h u (by simp [hu]))]
def GZ (v : V) : Prop := Good v ∨ v = zV
theorem szR_bound {v : V} (h : GZ v) : 0 ≤ szR v ∧ szR v ≤ 256 := by
  rcases h with h | rfl
  · rw [szR_good h]; exact szOf_bound h
  · exact ⟨by decide, by decide⟩
theorem szsR_bound : ∀ (vs : List V), (∀ v ∈ vs, GZ v) → 0 ≤ szsR vs ∧ szsR vs ≤ 256 * vs.length
  | [], _ => by simp [szsR]
  | v :: vs, h => by
    have h1 := szR_bound (h v (by simp))
    have h2 := szsR_bound vs (fun u hu => h u (by simp [hu]))
    simp only [szsR, List.length_cons]
    omega
theorem szsR_take (vs : List V) (i : Nat) (hi : i < vs.length) : szsR (vs.take (i + 1)) = szsR (vs.take i) + szR vs[i] := by
  rw [List.take_add_one, List.getElem?_eq_getElem hi, szsR_append]
  simp [szsR]
theorem rsz_any {v : V} (h : GZ v) (w : World) : Calls Try.prog 77 #[ag v] w fun e w' => e = .returned (.int .i64 (szR v)) ∧ Below w.heap.size w w' := by
  rcases h with h | rfl
  · rw [szR_good h]; exact rsize_any v h w
  · exact rsize_zero w
set_option maxRecDepth 20000 in
set_option maxHeartbeats 1000000 in
theorem rsizes_any (A : Option Addr) (c : Nat) (vs : List V) (w : World) (hC : Kd.C kV w A vs.length vs) (hG : ∀ v ∈ vs, GZ v) (h6 : vs.length ≤ 4096) :
    Calls Try.prog 60 #[.slice A vs.length c] w fun e w' => e = .returned (.int .i64 (szsR vs)) ∧ Below w.heap.size w w' := by
  have HC := Lib.hid hC
  have HG := Lib.hid hG
  clear hC hG
  go_enter Try.func60, Try.ntmps60
  go_wp2_with fail
  go_loopw [3, 4] (fun s i wr => ∃ k : Nat, k ≤ vs.length ∧ i = .int .i64 k ∧ s = .int .i64 (szsR (vs.take k)) ∧ Below w.heap.size w wr) (fun _ i _ => vs.length - (intOf i).toNat)
  case atStart => exact ⟨0, by omega, rfl, rfl, Below.refl _ _⟩
  case round =>
    obtain ⟨k, hk, rfl, rfl, hb⟩ := hrel
    by_cases hlt : k < vs.length
    · have b0 : decide ((k : Int) < (vs.length : Int)) = true := by simp; omega
      obtain ⟨ad, hA, x0, x1, x2, x3, x4⟩ := at_V (Kd.C_below HC.out hb) k hlt
      subst hA
      have hGk := HG.out vs[k] (List.getElem_mem hlt)
      have hbd := szsR_bound (vs.take k) (fun u hu => HG.out u (List.mem_of_mem_take hu))
      have hsb := szR_bound hGk
      have hlen : (vs.take k).length = k := by rw [List.length_take]; omega
      rw [hlen] at hbd
      have HS := Lib.hid (szsR_take vs k hlt)
      generalize szsR (vs.take k) = s at hbd HS ⊢
      generalize vs[k] = v at x0 x1 x2 x3 x4 hGk hsb HS
      have HSZ := Lib.hid (fun W => rsz_any hGk W)
      have HW : Hid (wrap64 (s + szR v) = s + szR v) := Lib.hid (by unfold wrap64; omega)
      have HWN := Lib.hid (w64n k (by omega))
      clear hGk hsb hbd
      go_wp2_with fail
      refine (HSZ.out _).mono ?_
      rintro e w1 ⟨rfl, hb1⟩
      have hb2 := hb.trans (hb1.mono hb.size)
      clear hb1 x0 x1 x2 x3 x4
      go_wp2_with fail
      go_roundw
      case rel => exact ⟨k + 1, by omega, by first | rfl | (rw [HWN.out]; rfl), by rw [HW.out, HS.out], hb2⟩
      case measure =>
        first | rw [HWN.out] | skip
        simp [intOf]
        omega
    · have b0 : decide ((k : Int) < (vs.length : Int)) = false := by simp; omega
      have HK := Lib.hid (show vs.take k = vs by rw [List.take_of_length_le]; omega)
      rw [HK.out]
      go_wp2_with fail
      go_ret
      exact ⟨rfl, hb⟩
end Go.Proofs.Ytlbfnnngemonoaa.Wir
