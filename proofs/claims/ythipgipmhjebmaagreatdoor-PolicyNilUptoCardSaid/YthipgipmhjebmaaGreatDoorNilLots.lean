/- chordmaillaw25.lent at a list of pairs. -/
import Derived.Test.YthipgipmhjebmaaGreatDoorPolBase
import Derived.Test.YthipgipmhjebmaaGreatDoorPNilx1
namespace Go.Proofs.YthipgipmhjebmaaGreatDoor.Pol
open Go.RowKit Go.Proofs.YthipgipmhjebmaaGreatDoorW.PrintWords Go.Proofs.YthipgipmhjebmaaGreatDoorW.PrintLast
open PNil (S63 S54 k63 k54 chordmaillaw25_lent.f chordmaillaw25_lent.l0 chordmaillaw25_lent.calls rd_T63)

/-- A pair of ints, as two cells. -/
def kP : Kd (Int × Int) := Kd.pair (Kd.int .i64) (Kd.int .i64)
theorem C_iso {α β : Type} {d : Kd α} {f : β → α} {w : World} {A : Option Addr} {n : Nat} {ys : List β} (h : d.C w A n (ys.map f)) : (Kd.iso d f).C w A n ys := by
  obtain ⟨h1, h2, h3⟩ := h
  refine ⟨by simpa using h1, h2, fun hn => ?_⟩
  obtain ⟨ad, e, hc⟩ := h3 hn
  refine ⟨ad, e, fun j p hp => ?_⟩
  exact hc j (f p) (by simp [hp])

theorem at_P {w : World} {A : Option Addr} {xs : List (Int × Int)} (h : kP.C w A xs.length xs) (i : Nat) (hi : i < xs.length) :
    ∃ ad, A = some ad ∧ w.cell? (ad.add (i * 2)) = some (.int .i64 xs[i].1) ∧ w.cell? ⟨(ad.add (i * 2)).block, (ad.add (i * 2)).off + 1, none⟩ = some (.int .i64 xs[i].2) := by
  obtain ⟨ad, c, e, _, hK, hc0⟩ := Kd.C_get h ((0, 0) : Int × Int) i (by omega) (by omega)
  have hc : ∀ j u, c[j]? = some u → w.cell? (ad.add (i * 2 + j)) = some u := hc0
  have e1 : xs.getD (i : Int).toNat (0, 0) = xs[i] := by simp [List.getD, hi]
  rw [e1] at hK
  obtain ⟨_, _, rfl, rfl, rfl⟩ := hK
  exact ⟨ad, e, hc 0 _ rfl, by rw [← add_field _ _ 1 (by omega)]; exact hc 1 _ rfl⟩

namespace Lots
def toS (p : Int × Int) : S63 := ⟨p.1, p.2⟩
theorem C63 {w : World} {A : Option Addr} {n : Nat} {xs : List (Int × Int)} (h : kP.C w A n xs) : k63.C w A n (xs.map toS) := by
  refine C_iso (d := kP) (f := fun x : S63 => (x.f0, x.f1)) ?_
  rw [List.map_map]
  have : ((fun x : S63 => (x.f0, x.f1)) ∘ toS) = id := rfl
  rw [this, List.map_id]
  exact h
def lentS (p : Int × Int) : S54 := ⟨p.1, p.2, []⟩
theorem lent_l (xs : List (Int × Int)) (hm : xs.length ≤ 1048576) : ∀ (d k : Nat) (i : Nat), i ≤ xs.length → xs.length - i = d → d < k →
    chordmaillaw25_lent.l0 k (xs.map toS) ((xs.take i).map lentS) i = some (xs.map lentS)
  | 0, k, i, hi, hd, hk => by
    obtain ⟨k, rfl⟩ : ∃ m, k = m + 1 := ⟨k - 1, by omega⟩
    have : i = xs.length := by omega
    subst this
    simp only [chordmaillaw25_lent.l0]
    rw [if_neg (by simp), List.take_length]
  | d + 1, k, i, hi, hd, hk => by
    obtain ⟨k, rfl⟩ : ∃ m, k = m + 1 := ⟨k - 1, by omega⟩
    have hlt : i < xs.length := by omega
    have ih := lent_l xs hm d k (i + 1) (by omega) (by omega) (by omega)
    simp only [chordmaillaw25_lent.l0]
    rw [if_pos (by simp; omega), if_pos (by omega), if_pos (by simp; omega)]
    have e1 : rd_T63 (xs.map toS) (i : Int) = toS xs[i] := by simp [rd_T63, List.getD, hlt]
    have e2 : wrap64 ((i : Int) + 1) = ((i + 1 : Nat) : Int) := by unfold wrap64; omega
    rw [e1, e2, ← ih, List.take_succ_eq_append_getElem hlt, List.map_append]
    rfl
theorem lent_any (A : Option Addr) (c : Nat) (xs : List (Int × Int)) (w : World) (hx : kP.C w A xs.length xs) (hc : xs.length ≤ c) (hm : xs.length ≤ 1048576) :
    Calls Tryz.prog 6 #[.slice A xs.length c] w fun e w' => ∃ A' c', e = .returned (.slice A' xs.length c') ∧ Below w.heap.size w w' := by
  have h := chordmaillaw25_lent.calls (xs.length + 1) A c (xs.map toS) (xs.map lentS) w (by simpa using C63 hx) (by simpa using hc) (by
    unfold chordmaillaw25_lent.f
    exact lent_l xs hm xs.length (xs.length + 1) 0 (by omega) (by omega) (by omega))
  rw [List.length_map] at h
  refine h.mono ?_
  rintro e w' ⟨v0, rfl, hS, hb⟩
  obtain ⟨A', c', rfl⟩ := Kd.S_slice hS
  rw [List.length_map]
  exact ⟨A', c', rfl, hb⟩

end Lots
end Go.Proofs.YthipgipmhjebmaaGreatDoor.Pol
