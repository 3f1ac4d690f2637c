/- wire.word, wire.part: eight bytes as a number, as a real. -/
import Derived.Test.YtlbfnnngemonoaaWirSame
import Derived.Laws.BitsLemmas
namespace Go.Proofs.Ytlbfnnngemonoaa.Wir
open Go.RowKit Go.Proofs.Ytlbfnnngemonoaa.PWireReads
open Go.Proofs.Ytlbfnnngemonoaa.Fat (Blk Chg Off)
open Go.Proofs.YtlbfnnngemonoaaW.PrintWords Go.Proofs.YtlbfnnngemonoaaW.PrintLast Go.Proofs.YtlbfnnngemonoaaW.PrintMore
set_option linter.unusedVariables false
set_option linter.unusedSimpArgs false

def By (l : List Int) : Prop := ∀ x ∈ l, 0 ≤ x ∧ x < 256
def num (l : List Int) : Int := l.foldl (fun n b => n * 256 + b) 0
theorem By.take {l : List Int} (h : By l) (n : Nat) : By (l.take n) := fun x hx => h x (List.mem_of_mem_take hx)
theorem By.drop {l : List Int} (h : By l) (n : Nat) : By (l.drop n) := fun x hx => h x (List.mem_of_mem_drop hx)
theorem By.at {l : List Int} (h : By l) (i : Nat) : 0 ≤ l.getD i 0 ∧ l.getD i 0 < 256 := by
  by_cases hi : i < l.length
  · rw [List.getD, List.getElem?_eq_getElem hi, Option.getD_some]; exact h _ (List.getElem_mem hi)
  · rw [List.getD, List.getElem?_eq_none (by omega)]; decide
theorem num_snoc (l : List Int) (b : Int) : num (l ++ [b]) = num l * 256 + b := by simp [num]
theorem take_snoc (l : List Int) (i : Nat) (hi : i < l.length) : l.take (i + 1) = l.take i ++ [l.getD i 0] := by
  rw [List.take_add_one, List.getElem?_eq_getElem hi, List.getD, List.getElem?_eq_getElem hi]; rfl
theorem num_take (l : List Int) (i : Nat) (hi : i < l.length) : num (l.take (i + 1)) = num (l.take i) * 256 + l.getD i 0 := by rw [take_snoc l i hi, num_snoc]
theorem num_bound (l : List Int) (h : By l) : ∀ i, i ≤ l.length → 0 ≤ num (l.take i) ∧ num (l.take i) < (256 : Int) ^ i
  | 0, _ => by simp [num]
  | i + 1, hi => by
    obtain ⟨h1, h2⟩ := num_bound l h i (by omega)
    have h3 := h.at i
    rw [num_take l i (by omega), Int.pow_succ]
    omega
theorem byte_at {w : World} {A : Option Addr} {l : List Int} (h : Kd.C (Kd.int .u8) w A l.length l) (i : Nat) (hi : i < l.length) : ∃ ad, A = some ad ∧ w.cell? (ad.add i) = some (.int .u8 (l.getD i 0)) := by
  obtain ⟨ad, c, e, _, hK, hc0⟩ := Kd.C_get h (0 : Int) i (by omega) (by omega)
  have hK2 : c = [.int .u8 (l.getD i 0)] := by
    have h3 : c = [.int .u8 (l.getD ((i : Nat) : Int).toNat 0)] := hK
    simpa using h3
  subst hK2
  have hc : ∀ j u, [(.int .u8 (l.getD i 0) : Value)][j]? = some u → w.cell? (ad.add (i * 1 + j)) = some u := hc0
  exact ⟨ad, e, by have hq := hc 0 _ rfl; rwa [Nat.mul_one, Nat.add_zero] at hq⟩
theorem inf5 : ∃ i, Try.prog.info? 5 = some i ∧ i.size = 1 := by
  have h := info5
  obtain ⟨i, hi, h2⟩ := Option.map_eq_some_iff.1 h
  simp only [Prod.mk.injEq] at h2
  exact ⟨i, hi, h2.2.1⟩
theorem cutTo (A : Option Addr) (n c : Nat) (j : Int) (h0 : 0 ≤ j) (hm : j ≤ n) (hc : n ≤ c) : ∀ W : World, (Instr.slice 45 (.slice A n c) none (some (.int .i64 j)) none).run Try.prog W = .ok (.slice A j.toNat c) W := by
  obtain ⟨i, hi, hs⟩ := inf5
  exact cut_to (P := Try.prog) 45 5 .i64 Try.underlying45 hi A n c j h0 hm hc
theorem cutFrom (A : Option Addr) (n c : Nat) (j : Int) (h0 : 0 ≤ j) (hm : j ≤ n) : ∀ W : World, (Instr.slice 45 (.slice A n c) (some (.int .i64 j)) none none).run Try.prog W = .ok (.slice (if c = j.toNat then A else A.map (·.add (j.toNat * 1))) (n - j.toNat) (c - j.toNat)) W := by
  obtain ⟨i, hi, hs⟩ := inf5
  exact cut_from (P := Try.prog) 45 5 .i64 Try.underlying45 hi 1 hs A n c j h0 hm

theorem or_byte (n b : Int) (h0 : 0 ≤ n) (h1 : n < 72057594037927936) (h2 : 0 ≤ b) (h3 : b < 256) : bits .or .u64 (IntKind.u64.wrap (n * 256)) b = n * 256 + b := by
  have hw : ∀ m : Int, 0 ≤ m → m < 2 ^ 64 → IntKind.u64.wrap m = m := fun m h1 h2 => by rw [IntKind.wrap_u64]; omega
  rw [hw _ (by omega) (by omega)]
  exact bits_join .u64 64 (by decide) hw 8 (n * 256) b (by omega) (by omega) (by omega) h2 (by omega) (by omega)
set_option maxRecDepth 20000 in
set_option maxHeartbeats 1000000 in
theorem word_any (A : Option Addr) (c : Nat) (l : List Int) (w : World) (hC : Kd.C (Kd.int .u8) w A l.length l) (hc : l.length ≤ c) (hB : By l) (h8 : 8 ≤ l.length) :
    Calls Try.prog 52 #[.slice A l.length c] w fun e w' => e = .returned (.int .u64 (num (l.take 8))) ∧ w' = w := by
  have HC := Lib.hid hC
  have HBy := Lib.hid hB
  have hcut := cutTo A l.length c 8 (by omega) (by omega) hc
  clear hC hB
  go_enter Try.func52, Try.ntmps52
  go_wp2_with fail
  go_loopw [3, 9] (fun n i wr => ∃ k : Nat, k ≤ 8 ∧ i = .int .i64 k ∧ n = .int .u64 (num (l.take k)) ∧ wr = w) (fun _ i _ => 8 - (intOf i).toNat)
  case atStart => exact ⟨0, by omega, rfl, rfl, rfl⟩
  case round =>
    obtain ⟨k, hk, rfl, rfl, rfl⟩ := hrel
    by_cases hlt : k < 8
    · have b0 : decide ((k : Int) < 8) = true := by simp; omega
      obtain ⟨ad, hA, x0⟩ := byte_at HC.out k (by omega)
      subst hA
      have h1 := HBy.out.at k
      have h2 := num_bound l HBy.out k (by omega)
      have h3 : (256 : Int) ^ k ≤ 72057594037927936 := (by decide : ∀ k : Nat, k < 8 → (256 : Int) ^ k ≤ 72057594037927936) k hlt
      have HN := Lib.hid (num_take l k (by omega))
      generalize num (l.take k) = n at h2 HN ⊢
      generalize l.getD k 0 = b at x0 h1 HN
      have hb7 : n < 72057594037927936 := by omega
      have HW : Hid (bits .or .u64 (IntKind.u64.wrap (n * 256)) b = n * 256 + b) := Lib.hid (or_byte n b h2.1 hb7 h1.1 h1.2)
      have HWN := Lib.hid (w64n k (by omega))
      clear h3 h2
      go_wp2_with fail
      go_roundw
      case rel => exact ⟨k + 1, by omega, rfl, by rw [HW.out, HN.out], trivial⟩
      case measure =>
        simp [intOf]
        omega
    · obtain rfl : k = 8 := by omega
      go_wp2_with fail
      go_ret
      exact ⟨rfl, rfl⟩
end Go.Proofs.Ytlbfnnngemonoaa.Wir
