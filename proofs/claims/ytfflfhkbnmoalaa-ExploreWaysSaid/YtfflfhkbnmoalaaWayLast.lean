/- The law's own comparers, over rows that are alike: they answer true. -/
import Derived.Test.YtfflfhkbnmoalaaWayWalk
namespace Go.Proofs.Ytfflfhkbnmoalaa.Way
open Go.RowKit Go.Proofs.Ytfflfhkbnmoalaa.Pol Go.Proofs.Ytfflfhkbnmoalaa.PExploreWays
open Go.Proofs.YtfflfhkbnmoalaaW.PrintWords

theorem steps_ok (m : List S55) (hm : m.length ≤ 65536) : ∃ k, chordmaillaw27_steps.f k (m.map conv) m = some true := by
  have go : ∀ (d j : Nat), j + d = m.length → ∃ k, chordmaillaw27_steps.l0 k (m.map conv) m (j : Nat) = some true := by
    intro d
    induction d with
    | zero =>
      intro j hj
      refine ⟨1, ?_⟩
      simp only [chordmaillaw27_steps.l0]
      rw [if_neg (by simp only [List.length_map]; omega)]
    | succ d ih =>
      intro j hj
      obtain ⟨k, hk⟩ := ih (j + 1) (by omega)
      have hlt : j < m.length := by omega
      have e := rd_conv m j hlt
      refine ⟨k + 1, ?_⟩
      simp only [chordmaillaw27_steps.l0]
      rw [if_pos (by simp only [List.length_map]; omega), if_pos (by omega), if_pos (by omega), e, rd_at m j hlt]
      simp only [conv, if_true]
      rw [wrap_nat j (by omega)]
      exact hk
  obtain ⟨k, hk⟩ := go m.length 0 (by omega)
  refine ⟨k, ?_⟩
  unfold chordmaillaw27_steps.f
  rw [if_pos (by simp only [List.length_map])]
  exact hk

theorem ints_ok (q : List Int) (hq : q.length < 4611686018427387904) : ∃ k, chordmaillaw27_ints.f k q q = some true := by
  have go : ∀ (d j : Nat), j + d = q.length → ∃ k, chordmaillaw27_ints.l0 k q q (j : Nat) = some true := by
    intro d
    induction d with
    | zero =>
      intro j hj
      refine ⟨1, ?_⟩
      simp only [chordmaillaw27_ints.l0]
      rw [if_neg (by omega)]
    | succ d ih =>
      intro j hj
      obtain ⟨k, hk⟩ := ih (j + 1) (by omega)
      refine ⟨k + 1, ?_⟩
      simp only [chordmaillaw27_ints.l0]
      rw [if_pos (by omega), if_pos (by omega), if_pos (by omega)]
      simp only [if_true]
      rw [wrap_nat j (by omega)]
      exact hk
  obtain ⟨k, hk⟩ := go q.length 0 (by omega)
  refine ⟨k, ?_⟩
  unfold chordmaillaw27_ints.f
  rw [if_pos rfl]
  exact hk

/-- The way of the program and that of the document, in one place. -/
theorem way_both (a : Int) (m : List S55) (s : Int) (q2 q3 : List Int) (hm : m.length ≤ 65536) (g c : Nat) (l : List S56) (hlm : l = m.map conv) (A2 A3 : Option Addr) (c2 c3 : Nat) (w : World)
    (hC : Kd.C k56 w (some ⟨g, 0, none⟩) l.length l) (hcc : l.length ≤ c) (hq2 : Kd.C (Kd.int .i64) w A2 q2.length q2) (hl2 : q2.length ≤ c2) (hq3 : Kd.C (Kd.int .i64) w A3 q3.length q3) (hl3 : q3.length ≤ c3) :
    ∃ (r : List S55) (err : Int), (∃ k, chordmailref27_Way.f k a m q2 q3 s = some (r, err)) ∧ r.length ≤ 65536 ∧
      Calls Try.prog 16 #[.agg #[.int .i64 a, .slice (some ⟨g, 0, none⟩) l.length c, .slice A2 q2.length c2, .slice A3 q3.length c3], .int .i64 s] w fun e w' => ∃ v0, e = .returned (.tuple #[v0, .int .i64 err]) ∧
        Kd.R k56 56 w' w.heap.size (fun _ => True) v0 (r.map conv) ∧ Below w.heap.size w w' := by
  have hll : l.length ≤ 65536 := by rw [hlm, List.length_map]; exact hm
  rcases way_ok a m s q2 q3 hm with ⟨hbad, hk⟩ | ⟨n, rfl, h1, h2, h3, h⟩
  · exact ⟨[], 2, hk, by simp, (way_arg a s g c l A2 A3 q2.length c2 q3.length c3 w hbad).mono fun e w' ⟨he, hb⟩ => ⟨_, he, Kd.R_nil _ _ _ _ _, hb⟩⟩
  · rcases h with ⟨hV, hk⟩ | ⟨hV, hk⟩
    · refine ⟨[], 2, hk, by simp, (way_off n s g c l A2 A3 q2.length c2 q3.length c3 w h1 h2 h3 hll hC ?_).mono fun e w' ⟨he, hb⟩ => ⟨_, he, Kd.R_nil _ _ _ _ _, hb⟩⟩
      rw [hlm, Bool.eq_false_iff]
      exact fun h => hV ((all_val n m).1 h)
    · obtain ⟨far, D, hc⟩ := way_ok0 n s g c l m hlm q2 q3 A2 A3 c2 c3 w h1 h2 h3 hll hC hcc hq2 hl2 hq3 hl3 hV
      have hpl : ∀ f at_, (path m far f at_).length ≤ f := by
        intro f
        induction f with
        | zero => intro at_; simp [path]
        | succ f ih =>
          intro at_
          rw [path]
          split
          · rename_i x _
            have := ih x.f3
            simp only [List.length_cons]
            omega
          · have := ih at_
            omega
      have hb := D.bnd 0 (by omega) (by omega)
      by_cases hn : 0 ≤ rd far 0
      · refine ⟨path m far (rd far 0).toNat 0, 0, ?_, ?_, hc.mono fun e w' ⟨v0, he, hR, hb⟩ => ⟨v0, ?_, ?_, hb⟩⟩
        · obtain ⟨k, h⟩ := hk far D
          rw [if_pos hn] at h
          exact ⟨k, h⟩
        · have := hpl (rd far 0).toNat 0
          omega
        · rw [if_pos hn] at he
          exact he
        · rw [if_pos hn] at hR
          exact hR
      · refine ⟨[], 230, ?_, by simp, hc.mono fun e w' ⟨v0, he, hR, hb⟩ => ⟨v0, ?_, ?_, hb⟩⟩
        · obtain ⟨k, h⟩ := hk far D
          rw [if_neg hn] at h
          exact ⟨k, h⟩
        · rw [if_neg hn] at he
          exact he
        · rw [if_neg hn] at hR
          exact hR
end Go.Proofs.Ytfflfhkbnmoalaa.Way
