/- What is read has just those bytes as its form: values. -/
import Derived.Test.YtlbfnnngemonoaaWfnLaid2
import Derived.Test.YtlbfnnngemonoaaWfnText
import Derived.Test.YtlbfnnngemonoaaWfnComp
namespace Go.Proofs.Ytlbfnnngemonoaa.Wir
open Go.RowKit Go.Proofs.Ytlbfnnngemonoaa.PWireReads
open Go.Proofs.Ytlbfnnngemonoaa.Fat (Blk Chg Off chg_opt)
open Go.Proofs.YtlbfnnngemonoaaW.PrintWords Go.Proofs.YtlbfnnngemonoaaW.PrintLast Go.Proofs.YtlbfnnngemonoaaW.PrintMore
set_option linter.unusedVariables false
set_option linter.unusedSimpArgs false

def Fit (v : V) : Prop := v.r < 18446744073709551616 ∧ v.p.1 < 18446744073709551616 ∧ v.p.2 < 18446744073709551616
theorem laid_any (v : V) (hv : Good v) (hf : Fit v) (base : Nat) (b : Value) (xs : List Int) (w : World) (hR : Kd.R (Kd.int .u8) 5 w base (fun _ => True) b xs) (hb : base ≤ w.heap.size) (hl : xs.length ≤ 1000000) :
    Calls Try.prog 64 #[b, ag v] w (LPost base w xs v) := by
  rcases hv with ⟨i, rfl⟩ | ⟨x, hx, rfl⟩ | ⟨x, y, hx, hy, rfl⟩ | ⟨s, hs, rfl⟩
  · exact laid_int i base b xs w hR hb hl
  · exact laid_real x hx hf.1 base b xs w hR hb hl
  · exact laid_comp x y hx hy hf.2.1 hf.2.2 base b xs w hR hb hl
  · exact laid_text s hs base b xs w hR hb hl
theorem by8_num (xs : List Int) (h : xs.length = 8) (hB : By xs) : by8 (num xs) = xs ∧ 0 ≤ num xs ∧ num xs < 18446744073709551616 := by
  match xs, h with
  | [a, b, c, d, e, f, g, k], _ =>
    have ha := hB a (by simp)
    have hb := hB b (by simp)
    have hc := hB c (by simp)
    have hd := hB d (by simp)
    have he := hB e (by simp)
    have hf := hB f (by simp)
    have hg := hB g (by simp)
    have hk := hB k (by simp)
    have hn : num [a, b, c, d, e, f, g, k] = ((((((a * 256 + b) * 256 + c) * 256 + d) * 256 + e) * 256 + f) * 256 + g) * 256 + k := by simp [num]
    rw [hn]
    refine ⟨?_, by omega, by omega⟩
    simp only [by8, nb]
    simp
    omega
theorem bOf_str (xs : List Int) (hB : By xs) : bOf (strOfNums xs) = xs ∧ (strOfNums xs).size = xs.length := by
  refine ⟨?_, by simp [strOfNums, ByteArray.size]⟩
  simp only [bOf, strOfNums, List.map_map]
  have : ∀ x ∈ xs, ((fun b : UInt8 => (b.toNat : Int)) ∘ fun n : Int => UInt8.ofNat n.toNat) x = x := fun x hx => by
    have := hB x hx
    simp
    omega
  conv => rhs; rw [← List.map_id xs]
  exact List.map_congr_left this
theorem take_cons (l : List Int) (n : Nat) (h : 0 < l.length) : l.take (n + 1) = l.getD 0 0 :: (l.drop 1).take n := by
  match l, h with
  | a :: r, _ => simp
theorem eight (l : List Int) (hB : By l) (h : 8 ≤ l.length) : by8 (num (l.take 8)) = l.take 8 ∧ 0 ≤ num (l.take 8) ∧ num (l.take 8) < 18446744073709551616 := by8_num (l.take 8) (by simp; omega) (hB.take 8)
theorem form_rd (l : List Int) (hB : By l) (v : V) (n : Nat) (h : rdV l = some (v, n)) : formV v = l.take n ∧ Fit v := by
  unfold rdV at h
  split at h
  · cases h
  split at h
  · split at h
    · cases h
    · obtain ⟨h1, h2, h3⟩ := eight (l.drop 1) (hB.drop 1) (by simp; omega)
      injection h with h
      injection h with ha hb
      subst ha hb
      refine ⟨?_, by simp [Fit, vI]⟩
      rename_i h0 hk h9
      have e : IntKind.u64.wrap (wrap64 (num ((l.drop 1).take 8))) = num ((l.drop 1).take 8) := by
        generalize num ((l.drop 1).take 8) = m at h2 h3 ⊢
        rw [IntKind.wrap_u64]; unfold wrap64; omega
      rw [take_cons l 8 (by omega), hk]
      simp only [formV, vI, e, h1]
      simp
  split at h
  · split at h
    · cases h
    split at h
    · obtain ⟨h1, h2, h3⟩ := eight (l.drop 1) (hB.drop 1) (by simp; omega)
      injection h with h
      injection h with ha hb
      subst ha hb
      rename_i h0 hk1 hk h9 hf
      refine ⟨?_, ⟨by show (num ((l.drop 1).take 8)).toNat < _; omega, by simp [vR], by simp [vR]⟩⟩
      rw [take_cons l 8 (by omega), hk]
      have e : (((num ((l.drop 1).take 8)).toNat : Nat) : Int) = num ((l.drop 1).take 8) := by omega
      simp only [formV, vR, e, h1]
      simp
    · cases h
  split at h
  · split at h
    · cases h
    split at h
    · obtain ⟨h1, h2, h3⟩ := eight (l.drop 1) (hB.drop 1) (by simp; omega)
      obtain ⟨g1, g2, g3⟩ := eight (l.drop 9) (hB.drop 9) (by simp; omega)
      injection h with h
      injection h with ha hb
      subst ha hb
      rename_i h0 hk1 hk2 hk h9 hf
      refine ⟨?_, ⟨by simp [vC], by show (num ((l.drop 1).take 8)).toNat < _; omega, by show (num ((l.drop 9).take 8)).toNat < _; omega⟩⟩
      rw [take_cons l 16 (by omega), hk]
      have e : (((num ((l.drop 1).take 8)).toNat : Nat) : Int) = num ((l.drop 1).take 8) := by omega
      have e2 : (((num ((l.drop 9).take 8)).toNat : Nat) : Int) = num ((l.drop 9).take 8) := by omega
      have e3 : (l.drop 1).take 16 = (l.drop 1).take 8 ++ (l.drop 9).take 8 := by
        have := List.take_add (l := l.drop 1) (i := 8) (j := 8)
        simpa using this
      simp only [formV, vC, e, e2, h1, g1, e3]
      simp
    · cases h
  split at h
  · split at h
    · cases h
    split at h
    · rename_i h0 hk1 hk2 hk3 hk hlt h256
      have b1 := hB.at 1
      have b2 := hB.at 2
      generalize hq : (l.getD 1 0).toNat * 256 + (l.getD 2 0).toNat = q at *
      injection h with h
      injection h with ha hb
      have hq2 : 3 + (l.getD 1 0).toNat * 256 + (l.getD 2 0).toNat = q + 1 + 1 + 1 := by omega
      rw [hq2] at ha hb hlt
      obtain ⟨s1, s2⟩ := bOf_str ((l.take (q + 1 + 1 + 1)).drop 3) ((hB.take _).drop _)
      have s3 : ((l.take (q + 1 + 1 + 1)).drop 3).length = q := by simp; omega
      subst ha hb
      refine ⟨?_, by simp [Fit, vT]⟩
      have d1 : (l.drop 1).getD 0 0 = l.getD 1 0 := by simp [List.getD]
      have d2 : ((l.drop 1).drop 1).getD 0 0 = l.getD 2 0 := by simp [List.getD]
      have e0 : l.take (q + 1 + 1 + 1) = 4 :: l.getD 1 0 :: l.getD 2 0 :: (((l.drop 1).drop 1).drop 1).take q := by
        rw [take_cons l _ (by omega), hk, take_cons (l.drop 1) _ (by simp; omega), d1, take_cons ((l.drop 1).drop 1) _ (by simp; omega), d2]
      have e4 : (l.take (q + 1 + 1 + 1)).drop 3 = (((l.drop 1).drop 1).drop 1).take q := by rw [e0]; rfl
      show 4 :: ((strOfNums ((l.take (q + 1 + 1 + 1)).drop 3)).size : Int) / 256 :: ((strOfNums ((l.take (q + 1 + 1 + 1)).drop 3)).size : Int) % 256 :: bOf (strOfNums ((l.take (q + 1 + 1 + 1)).drop 3)) = _
      rw [s1, s2, s3, e4, e0]
      have f1 : (q : Int) / 256 = l.getD 1 0 := by omega
      have f2 : (q : Int) % 256 = l.getD 2 0 := by omega
      rw [f1, f2]
    · cases h
  · cases h
end Go.Proofs.Ytlbfnnngemonoaa.Wir
