/- chordmaillaw25.actors; lent with what its choices are. -/
import Derived.Test.YtfflfhkbnmoalaaPolUnlike
namespace Go.Proofs.Ytfflfhkbnmoalaa.Pol.Fair
open Go.RowKit Go.Proofs.YtfflfhkbnmoalaaW.PrintWords

theorem OwnP.toC {w : World} {B c : Nat} {A : Option Addr} {zs : List (Int × Int)} (h : OwnP w B (.slice A zs.length c) zs) (hm : zs.length ≤ 60) : kP.C w A zs.length zs := by
  refine ⟨rfl, by omega, fun hn => ?_⟩
  obtain ⟨g, hA, _⟩ := h.at_ 0 hn
  subst hA
  refine ⟨_, rfl, fun j p hp => ?_⟩
  have hj : j < zs.length := (List.getElem?_eq_some_iff.1 hp).1
  rw [List.getElem?_eq_getElem hj] at hp
  injection hp with hp
  subst hp
  obtain ⟨g', hA, _, h0, h1⟩ := h.at_ j hj
  injection hA with hA
  injection hA with hA
  subst hA
  refine ⟨[.int .i64 zs[j].1, .int .i64 zs[j].2], rfl, ⟨[.int .i64 zs[j].1], [.int .i64 zs[j].2], rfl, rfl, rfl⟩, fun i u hu => ?_⟩
  rw [add0]
  have hi : i < 2 := (List.getElem?_eq_some_iff.1 hu).1
  rcases (by omega : i = 0 ∨ i = 1) with rfl | rfl
  · simp at hu; subst hu; exact h0
  · simp at hu; subst hu; exact h1

/-- How often the actor changes up to place j. -/
def grp (l : List (Int × Int)) : Nat → Nat
  | 0 => 0
  | j + 1 => grp l j + (if (l.getD (j + 1) (0, 0)).1 = (l.getD j (0, 0)).1 then 0 else 1)
theorem grp_le (l : List (Int × Int)) : ∀ j, grp l j ≤ j
  | 0 => by simp [grp]
  | j + 1 => by have := grp_le l j; simp only [grp]; split <;> omega

theorem grp_at (xs : List (Int × Int)) (j : Nat) (h1 : 1 ≤ j) (hj : j < xs.length) : grp xs j = grp xs (j - 1) + (if xs[j].1 = xs[j - 1].1 then 0 else 1) := by
  obtain ⟨m, rfl⟩ : ∃ m, j = m + 1 := ⟨j - 1, by omega⟩
  simp [grp, List.getD, hj, show m < xs.length by omega]

set_option maxRecDepth 20000 in
set_option maxHeartbeats 1000000 in
theorem actors_any (A : Option Addr) (c : Nat) (xs : List (Int × Int)) (w : World) (hx : kP.C w A xs.length xs) (hm : xs.length ≤ 60) (hp : 0 < xs.length) :
    Calls Try.prog 12 #[.slice A xs.length c] w fun e w' => e = .returned (.int .i64 (grp xs (xs.length - 1) + 1 : Nat)) ∧ Below w.heap.size w w' := by
  have HX := Lib.hid hx
  clear hx
  go_enter Try.func12, Try.ntmps12
  go_wp2_with fail
  go_loopw [3, 4] (fun v i wr => ∃ (j n nq : Nat), j ≤ xs.length ∧ i = .int .i64 j ∧ v = .int .i64 n ∧ n ≤ j ∧ (j = 0 → n = 0) ∧ (0 < j → n = grp xs (j - 1) + 1) ∧ wr = w.drewN nq) (fun _ i _ => xs.length - (intOf i).toNat)
  case atStart => exact ⟨0, 0, 0, Nat.zero_le _, rfl, rfl, by omega, fun _ => rfl, fun h => absurd h (by omega), rfl⟩
  case round =>
    obtain ⟨j, n, nq, hj, rfl, rfl, hnj, hn0, hn, rfl⟩ := hrel
    have HN0 := Lib.hid hn0
    have HN := Lib.hid hn
    clear hn0 hn
    by_cases hlt : j < xs.length
    · by_cases h0 : j = 0
      · subst h0
        have hz := HN0.out rfl
        subst hz
        go_wp2_with fail
        go_quiet (fail)
        go_wp2_with fail
        go_roundw
        case rel => exact ⟨1, 1, _, by omega, by go_num, by go_num, by omega, fun h => absurd h (by omega), fun _ => rfl, rfl⟩
        case measure => simp [intOf]; omega
      · have h1j : 1 ≤ j := by omega
        clear h0
        obtain ⟨ad, rfl, hx0, _⟩ := at_P HX.out j hlt
        obtain ⟨ad', e, hy0, _⟩ := at_P HX.out (j - 1) (by omega)
        injection e with e
        subst e
        have HG := Lib.hid (grp_at xs j h1j hlt)
        have HZ := Lib.hid (HN.out (by omega))
        have s1 : IntKind.i64.wrap ((j : Int) - 1) = (j : Int) - 1 := by rw [IntKind.wrap_i64]; omega
        have s2 : ((j : Int) - 1).toNat = j - 1 := by omega
        have s3 : 0 ≤ (j : Int) - 1 := by omega
        have s4 : (j : Int) - 1 < xs.length := by omega
        have b0 : ((j : Int) == 0) = false := by rw [beq_eq_false_iff_ne]; omega
        generalize hd0 : xs[j].1 = d0 at hx0
        generalize hd1 : xs[j - 1].1 = d1 at hy0
        have HD0 := Lib.hid hd0
        have HD1 := Lib.hid hd1
        clear hd0 hd1
        by_cases he : d0 = d1
        · have b1 : (d0 != d1) = false := by simpa using he
          have HE := Lib.hid he
          clear he
          go_wp2_with fail
          go_quiet (fail)
          go_wp2_with fail
          go_roundw
          case rel => exact ⟨j + 1, n, _, by omega, by go_num, rfl, by omega, fun h => absurd h (by omega), fun _ => by
            rw [Nat.add_sub_cancel, HG.out, HD0.out, HD1.out, if_pos HE.out, Nat.add_zero]; exact HZ.out, rfl⟩
          case measure => simp [intOf]; omega
        · have b1 : (d0 != d1) = true := by simpa using he
          have HE := Lib.hid he
          clear he
          go_wp2_with fail
          go_quiet (fail)
          go_wp2_with fail
          go_roundw
          case rel => exact ⟨j + 1, n + 1, _, by omega, by go_num, by go_num, by omega, fun h => absurd h (by omega), fun _ => by
            rw [Nat.add_sub_cancel, HG.out, HD0.out, HD1.out, if_neg HE.out]; have := HZ.out; omega, rfl⟩
          case measure => simp [intOf]; omega
    · have HE := Lib.hid (show j = xs.length by omega)
      go_wp2_with fail
      go_ret
      exact ⟨ret_nat (by rw [HN.out (by omega), HE.out]), below_drewN (Below.refl _ _) _⟩

open PPolicyLots (S46 k46 k46_open chordmaillaw25_lent.f chordmaillaw25_lent.calls)
theorem lent_full (A : Option Addr) (c : Nat) (xs : List (Int × Int)) (w : World) (hx : kP.C w A xs.length xs) (hc : xs.length ≤ c) (hm : xs.length ≤ 1048576) :
    Calls Try.prog 15 #[.slice A xs.length c] w fun e w' => ∃ A' c', e = .returned (.slice A' xs.length c') ∧ Chs w' A' xs ∧ (∀ ad, A' = some ad → w.heap.size ≤ ad.block) ∧ Below w.heap.size w w' := by
  have h := chordmaillaw25_lent.calls (xs.length + 1) A c (xs.map Lots.toS) (xs.map Lots.lentS) w (by simpa using Lots.C42 hx) (by simpa using hc) (by
    unfold chordmaillaw25_lent.f
    exact Lots.lent_l xs hm xs.length (xs.length + 1) 0 (by omega) (by omega) (by omega))
  rw [List.length_map] at h
  refine h.mono ?_
  rintro e w' ⟨v0, rfl, hS, hb⟩
  obtain ⟨A', c', rfl⟩ := Kd.S_slice hS
  rw [List.length_map]
  refine ⟨A', c', rfl, ?_, ?_, hb⟩
  · intro i a d hi
    have hlt : i < xs.length := (List.getElem?_eq_some_iff.1 hi).1
    obtain ⟨g, cap, hv, _⟩ := Kd.S_form hS (by rw [List.length_map]; omega)
    injection hv with hA
    subst hA
    obtain ⟨_, _, hC⟩ := Kd.S_reads' hS
    obtain ⟨ad, cs, e, _, hK, hc0⟩ := Kd.C_get hC (⟨0, 0, []⟩ : S46) i (by omega) (by simp; omega)
    have hcl : ∀ j u, cs[j]? = some u → w'.cell? (ad.add (i * 3 + j)) = some u := hc0
    injection e with e
    subst e
    have e1 : (xs.map Lots.lentS).getD (i : Int).toNat ⟨0, 0, []⟩ = Lots.lentS xs[i] := by simp [List.getD, hlt]
    rw [e1] at hK
    obtain ⟨A2, c2, rfl, _, _⟩ := k46_open hK
    rw [List.getElem?_eq_getElem hlt] at hi
    injection hi with hi
    refine ⟨g, rfl, ?_, ?_, A2, (Lots.lentS xs[i]).f2.length, c2, ?_⟩
    · have := hcl 0 _ rfl
      rw [add0] at this
      rw [← show xs[i].1 = a by rw [hi]]
      exact this
    · have := hcl 1 _ rfl
      rw [add0] at this
      rw [← show xs[i].2 = d by rw [hi]]
      exact this
    · have := hcl 2 _ rfl
      rw [add0] at this
      exact this
  · rintro ad rfl
    exact Kd.S_base hS ad.block rfl

end Go.Proofs.Ytfflfhkbnmoalaa.Pol.Fair
