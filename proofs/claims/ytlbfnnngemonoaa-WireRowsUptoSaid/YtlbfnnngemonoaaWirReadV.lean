/- wire.ReadValue as one law. -/
import Derived.Test.YtlbfnnngemonoaaWirRead
namespace Go.Proofs.Ytlbfnnngemonoaa.Wir
open Go.RowKit Go.Proofs.Ytlbfnnngemonoaa.PWireReads
open Go.Proofs.Ytlbfnnngemonoaa.Fat (Blk Chg Off)
open Go.Proofs.YtlbfnnngemonoaaW.PrintWords Go.Proofs.YtlbfnnngemonoaaW.PrintLast Go.Proofs.YtlbfnnngemonoaaW.PrintMore
set_option linter.unusedVariables false
set_option linter.unusedSimpArgs false

/-- What bytes begin with, as a value. -/
def rdV (l : List Int) : Option (V × Nat) :=
  if l.length < 3 then none
  else if l.getD 0 0 = 1 then (if l.length < 9 then none else some (vI (wrap64 (num ((l.drop 1).take 8))), 9))
  else if l.getD 0 0 = 2 then (if l.length < 9 then none else if fineB (num ((l.drop 1).take 8)).toNat = true then some (vR (num ((l.drop 1).take 8)).toNat, 9) else none)
  else if l.getD 0 0 = 3 then (if l.length < 17 then none else if fineB (num ((l.drop 1).take 8)).toNat = true ∧ fineB (num ((l.drop 9).take 8)).toNat = true then some (vC (num ((l.drop 1).take 8)).toNat (num ((l.drop 9).take 8)).toNat, 17) else none)
  else if l.getD 0 0 = 4 then
    (if l.length < 3 + (l.getD 1 0).toNat * 256 + (l.getD 2 0).toNat then none
    else if (l.getD 1 0).toNat * 256 + (l.getD 2 0).toNat ≤ 256 then some (vT (strOfNums ((l.take (3 + (l.getD 1 0).toNat * 256 + (l.getD 2 0).toNat)).drop 3)), 3 + (l.getD 1 0).toNat * 256 + (l.getD 2 0).toNat) else none)
  else none
def resV : Option (V × Nat) → Value
  | some (v, n) => .tuple #[ag v, .int .i64 n, .int .i64 0]
  | none => .tuple #[ag zV, .int .i64 0, .int .i64 110]
theorem rdV_good (l : List Int) (v : V) (n : Nat) (h : rdV l = some (v, n)) : Good v ∧ 3 ≤ n ∧ n ≤ l.length := by
  unfold rdV at h
  split at h
  · cases h
  split at h
  · split at h
    · cases h
    · injection h with h
      obtain ⟨rfl, rfl⟩ := Prod.mk.inj h
      exact ⟨.inl ⟨_, rfl⟩, by omega, by omega⟩
  split at h
  · split at h
    · cases h
    · split at h
      · rename_i hf
        injection h with h
        obtain ⟨rfl, rfl⟩ := Prod.mk.inj h
        exact ⟨.inr (.inl ⟨_, fine_of hf, rfl⟩), by omega, by omega⟩
      · cases h
  split at h
  · split at h
    · cases h
    · split at h
      · rename_i hf
        injection h with h
        obtain ⟨rfl, rfl⟩ := Prod.mk.inj h
        exact ⟨.inr (.inr (.inl ⟨_, _, fine_of hf.1, fine_of hf.2, rfl⟩)), by omega, by omega⟩
      · cases h
  split at h
  · split at h
    · cases h
    · split at h
      · injection h with h
        obtain ⟨rfl, rfl⟩ := Prod.mk.inj h
        refine ⟨.inr (.inr (.inr ⟨_, ?_, rfl⟩)), by omega, by omega⟩
        rw [strOfNums_size, List.length_drop, List.length_take]
        omega
      · cases h
  · cases h
theorem readV_any (A : Option Addr) (c : Nat) (l : List Int) (w : World) (hC : Kd.C (Kd.int .u8) w A l.length l) (hc : l.length ≤ c) (hB : By l) :
    Calls Try.prog 18 #[.slice A l.length c] w fun e w' => e = .returned (resV (rdV l)) ∧ Below w.heap.size w w' := by
  unfold rdV
  split
  · rename_i h; exact readV_short A c l w h
  rename_i h3
  split
  · rename_i hk
    split
    · rename_i h; exact readV_cut9a A c l w hC hc hB (by omega) hk h
    · exact readV_int A c l w hC hc hB (by omega) hk
  rename_i k1
  split
  · rename_i hk
    split
    · rename_i h; exact readV_cut9b A c l w hC hc hB (by omega) hk h
    · split
      · rename_i hf; exact readV_real A c l w hC hc hB (by omega) hk hf
      · rename_i hf; exact readV_real_bad A c l w hC hc hB (by omega) hk (by simpa using hf)
  rename_i k2
  split
  · rename_i hk
    split
    · rename_i h; exact readV_cut17 A c l w hC hc hB (by omega) hk h
    · split
      · rename_i hf; exact readV_comp A c l w hC hc hB (by omega) hk hf.1 hf.2
      · rename_i hf
        refine readV_comp_bad A c l w hC hc hB (by omega) hk ?_
        cases h1 : fineB (num ((l.drop 1).take 8)).toNat
        · exact .inl rfl
        · cases h2 : fineB (num ((l.drop 9).take 8)).toNat
          · exact .inr rfl
          · exact absurd ⟨h1, h2⟩ hf
  rename_i k3
  split
  · rename_i hk
    have g1 := hB.at 1
    have g2 := hB.at 2
    have e1 : l.getD 1 0 = ((l.getD 1 0).toNat : Int) := by omega
    have e2 : l.getD 2 0 = ((l.getD 2 0).toNat : Int) := by omega
    have l1 : (l.getD 1 0).toNat < 256 := by omega
    have l2 : (l.getD 2 0).toNat < 256 := by omega
    split
    · rename_i hn; exact readV_text_cut A c l w hC hc hB _ _ e1 e2 l1 l2 (by omega) hk hn
    · split
      · rename_i hn h256
        refine (readV_text A c l w hC hc hB _ _ e1 e2 l1 l2 (by omega) hk (by omega) h256).mono ?_
        rintro e w' ⟨rfl, hb⟩
        refine ⟨?_, hb⟩
        unfold resV
        simp only [Int.natCast_add, Int.natCast_mul]
        rfl
      · exact readV_text_long A c l w hC hc hB _ _ e1 e2 l1 l2 (by omega) hk (by omega) (by omega)
  · rename_i k4
    exact readV_kind A c l w hC hc hB (by omega) ⟨k1, k2, k3, k4⟩
end Go.Proofs.Ytlbfnnngemonoaa.Wir
