/- Proved: for every two ints the pick that the program names (sched.Number) and the error it tells are those that the document's definition (Euclid's remainder) gives; no condition on the input. -/
import Derived.Test.YtfflfhkbnmoalaaPSchedNumbersx1
import Derived.OpenShut
namespace Go.Proofs.Ytfflfhkbnmoalaa.Pure
open Go.RowKit Go.Proofs.Ytfflfhkbnmoalaa.PSchedNumbers Go.Proofs.YtfflfhkbnmoalaaW.PrintWords Go.Proofs.YtfflfhkbnmoalaaW.PrintLast

theorem tmod_neg_bounds (a n : Int) (ha : a < 0) : Int.tmod a n = -((-a) % n) := by
  have h : Int.tmod (-(-a)) n = -(Int.tmod (-a) n) := Int.neg_tmod (-a) n
  rw [Int.neg_neg, Int.tmod_eq_emod_of_nonneg (by omega : (0:Int) ≤ -a)] at h
  exact h

theorem step_mod (b n : Int) (hn : 1 ≤ n) : ((b + 1) % n = 0 ∧ b % n = n - 1) ∨ ((b + 1) % n = b % n + 1) := by
  have h0 := Int.emod_nonneg b (by omega : n ≠ 0)
  have h1 := Int.emod_lt_of_pos b (by omega : 0 < n)
  have hd := Int.emod_add_mul_ediv b n
  by_cases e : b % n = n - 1
  · left
    refine ⟨?_, e⟩
    have : b + 1 = n * (b / n + 1) := by rw [Int.mul_add]; omega
    rw [this]; exact Int.mul_emod_right _ _
  · right
    have : b + 1 = (b % n + 1) + n * (b / n) := by omega
    rw [this, Int.add_mul_emod_self_left]
    exact Int.emod_eq_of_lt (by omega) (by omega)

theorem SchedNumbers : chordmaillaw23_SchedNumbers.Pure := by
  intro a n ha hn
  have ha' := bounds_i64 ha
  have hn' := bounds_i64 hn
  obtain ⟨a0, a1⟩ := ha'
  obtain ⟨n0, n1⟩ := hn'
  clear ha hn
  unfold chordmaillaw23_SchedNumbers.f sched_Number.f chordmailref23_Number.f checked_Euclid.f chordmailref03_Euclid.f
  by_cases hz : n = 0
  · simp [hz]
  · by_cases hl : n < 1
    · simp [hz, hl]
    · by_cases hp : 0 ≤ a
      · have hnn : ¬ Int.tmod a n < 0 := by
          rw [Int.tmod_eq_emod_of_nonneg hp]
          have := Int.emod_nonneg a (by omega : n ≠ 0)
          omega
        simp [hz, hl, hp, hnn]
      · have hlt : a < 0 := by omega
        have e1 := tmod_neg_bounds a n hlt
        have w1 : wrap64 (a + 1) = a + 1 := by unfold wrap64; omega
        have w2 : wrap64 (-(a + 1)) = -(a + 1) := by unfold wrap64; omega
        have w3 : wrap64 (n - 1) = n - 1 := by unfold wrap64; omega
        have e2 : Int.tmod (-(a + 1)) n = (-(a + 1)) % n := Int.tmod_eq_emod_of_nonneg (by omega)
        have hb := step_mod (-(a + 1)) n (by omega)
        have e3 : -(a + 1) + 1 = -a := by omega
        rw [e3] at hb
        have p0 := Int.emod_nonneg (-(a + 1)) (by omega : n ≠ 0)
        have p1 := Int.emod_lt_of_pos (-(a + 1)) (by omega : 0 < n)
        have q0 := Int.emod_nonneg (-a) (by omega : n ≠ 0)
        have q1 := Int.emod_lt_of_pos (-a) (by omega : 0 < n)
        rw [w1, w2, w3, e1, e2]
        rcases hb with ⟨h1, h2⟩ | h1
        · have w4 : wrap64 (n - 1 - (-(a + 1)) % n) = 0 := by unfold wrap64; omega
          rw [w4, h1]
          simp [hz, hl, hp]
        · have w4 : wrap64 (n - 1 - (-(a + 1)) % n) = n - 1 - (-(a + 1)) % n := by unfold wrap64; omega
          have w5 : wrap64 (-((-a) % n) + n) = n - 1 - (-(a + 1)) % n := by unfold wrap64; omega
          rw [w4, w5]
          have hneg : 0 < -a % n := by omega
          simp [hz, hl, hp, hneg]

end Go.Proofs.Ytfflfhkbnmoalaa.Pure
