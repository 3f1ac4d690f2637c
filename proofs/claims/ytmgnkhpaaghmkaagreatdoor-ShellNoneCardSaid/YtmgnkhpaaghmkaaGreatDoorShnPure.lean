/- The words of a line without quotes, in plain Lean: its pieces between blanks. -/
import Derived.Test.YtmgnkhpaaghmkaaGreatDoorWWords
namespace Go.Proofs.YtmgnkhpaaghmkaaGreatDoor.Shn
open Go.RowKit Go.Proofs.YtmgnkhpaaghmkaaGreatDoorW.PrintWords

/-- The first place from i on, of f at most, that holds no blank. -/
def skp (s : ByteArray) : Nat → Nat → Nat
  | 0, i => i
  | f + 1, i => if bt s i = 32 then skp s f (i + 1) else i
/-- The first place from i on, of f at most, that holds a blank. -/
def stp (s : ByteArray) : Nat → Nat → Nat
  | 0, i => i
  | f + 1, i => if bt s i = 32 then i else stp s f (i + 1)
/-- The pieces from i on. -/
def wds (s : ByteArray) : Nat → Nat → List ByteArray
  | 0, _ => []
  | f + 1, i =>
    if skp s (s.size - i) i = s.size then []
    else s.extract (skp s (s.size - i) i) (stp s (s.size - skp s (s.size - i) i) (skp s (s.size - i) i)) :: wds s f (stp s (s.size - skp s (s.size - i) i) (skp s (s.size - i) i))

theorem skp_step {s : ByteArray} {i : Nat} (h : i < s.size) (hb : bt s i = 32) : skp s (s.size - i) i = skp s (s.size - (i + 1)) (i + 1) := by
  obtain ⟨k, hk⟩ : ∃ k, s.size - i = k + 1 := ⟨s.size - i - 1, by omega⟩
  rw [hk, show s.size - (i + 1) = k by omega, skp, if_pos hb]
theorem skp_end {s : ByteArray} {i : Nat} (h : i = s.size) : skp s (s.size - i) i = s.size := by
  subst h
  simp [skp]
theorem skp_hit {s : ByteArray} {i : Nat} (h : i < s.size) (hb : bt s i ≠ 32) : skp s (s.size - i) i = i := by
  obtain ⟨k, hk⟩ : ∃ k, s.size - i = k + 1 := ⟨s.size - i - 1, by omega⟩
  rw [hk, skp, if_neg hb]
theorem stp_step {s : ByteArray} {i : Nat} (h : i < s.size) (hb : bt s i ≠ 32) : stp s (s.size - i) i = stp s (s.size - (i + 1)) (i + 1) := by
  obtain ⟨k, hk⟩ : ∃ k, s.size - i = k + 1 := ⟨s.size - i - 1, by omega⟩
  rw [hk, show s.size - (i + 1) = k by omega, stp, if_neg hb]
theorem stp_end {s : ByteArray} {i : Nat} (h : i = s.size) : stp s (s.size - i) i = s.size := by
  subst h
  simp [stp]
theorem stp_hit {s : ByteArray} {i : Nat} (h : i < s.size) (hb : bt s i = 32) : stp s (s.size - i) i = i := by
  obtain ⟨k, hk⟩ : ∃ k, s.size - i = k + 1 := ⟨s.size - i - 1, by omega⟩
  rw [hk, stp, if_pos hb]
theorem stp_all {s : ByteArray} (h : ∀ j : Nat, j < s.size → bt s j ≠ 32) : ∀ f i : Nat, i + f = s.size → stp s f i = s.size
  | 0, i, hi => by simpa [stp] using hi
  | f + 1, i, hi => by
    rw [stp, if_neg (h i (by omega))]
    exact stp_all h f (i + 1) (by omega)
theorem wds_word {s : ByteArray} {f i k k2 : Nat} (h1 : skp s (s.size - i) i = k) (h2 : stp s (s.size - k) k = k2) (hk : k < s.size) : wds s (f + 1) i = s.extract k k2 :: wds s f k2 := by
  rw [wds, h1, h2, if_neg (by omega)]
theorem wds_none {s : ByteArray} {f i : Nat} (h1 : skp s (s.size - i) i = s.size) : wds s f i = [] := by
  cases f with
  | zero => rfl
  | succ f => rw [wds, if_pos h1]
/-- A text of one piece. -/
theorem wds_one {s : ByteArray} (h : ∀ j : Nat, j < s.size → bt s j ≠ 32) (h0 : 0 < s.size) : wds s (s.size + 1) 0 = [s] := by
  obtain ⟨k, hk⟩ : ∃ k, s.size = k + 1 := ⟨s.size - 1, by omega⟩
  have e1 : skp s (s.size - 0) 0 = 0 := skp_hit h0 (h 0 h0)
  have e2 : stp s (s.size - 0) 0 = s.size := stp_all h _ 0 (by omega)
  have e3 : skp s (s.size - s.size) s.size = s.size := skp_end rfl
  have e4 : s.extract 0 s.size = s := ByteArray.extract_zero_size
  rw [wds, e1, e2, if_neg (by omega), e4]
  rw [show wds s s.size s.size = [] by
    have : ∀ n, wds s n s.size = [] := fun n => by
      cases n with
      | zero => rfl
      | succ n => rw [wds, if_pos e3]
    exact this _]
end Go.Proofs.YtmgnkhpaaghmkaaGreatDoor.Shn
