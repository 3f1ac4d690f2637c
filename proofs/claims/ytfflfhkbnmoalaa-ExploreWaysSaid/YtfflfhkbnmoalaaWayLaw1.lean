/- chordmaillaw27.ExploreWays: the walk of the law (under way). -/
import Derived.Test.YtfflfhkbnmoalaaWayLast
namespace Go.Proofs.Ytfflfhkbnmoalaa.Way
open Go.RowKit Go.Proofs.Ytfflfhkbnmoalaa.Pol Go.Proofs.Ytfflfhkbnmoalaa.PExploreWays
open Go.Proofs.YtfflfhkbnmoalaaW.PrintWords Go.Proofs.YtfflfhkbnmoalaaW.PrintLast Go.Proofs.YtfflfhkbnmoalaaW.PrintMore
set_option linter.unusedSimpArgs false
set_option linter.unusedVariables false

set_option maxRecDepth 20000 in
set_option maxHeartbeats 2000000 in
/-- Inputs that the law lets pass. -/
theorem ways_pass (a s : Int) (A1 A2 A3 : Option Addr) (n1 c1 n2 c2 n3 c3 : Nat) (w : World) (hp : (60 < a ∧ a ≤ 4096) ∨ 200 < n1) :
    Calls Try.prog 6 #[.agg #[.int .i64 a, .slice A1 n1 c1, .slice A2 n2 c2, .slice A3 n3 c3], .int .i64 s] w fun e w' => e = .returned (.bool true) ∧ Below w.heap.size w w' := by
  have hu := Try.underlying50
  by_cases h1 : 60 < a
  · have b1 : decide (a > 60) = true := by simpa using h1
    by_cases h2 : a ≤ 4096
    · have b2 : decide (a ≤ 4096) = true := by simpa using h2
      clear h1 h2 hp
      go_enter Try.func6, Try.ntmps6
      go_wp2_with fail
      go_ret
      exact ⟨rfl, (Below.refl _ _).alloc (Nat.le_refl _) _⟩
    · have b2 : decide (a ≤ 4096) = false := by simpa using h2
      have b3 : decide ((n1 : Int) > 200) = true := by simp; omega
      clear h1 h2 hp
      go_enter Try.func6, Try.ntmps6
      go_wp2_with fail
      go_ret
      exact ⟨rfl, (Below.refl _ _).alloc (Nat.le_refl _) _⟩
  · have b1 : decide (a > 60) = false := by simpa using h1
    have b3 : decide ((n1 : Int) > 200) = true := by simp; omega
    clear h1 hp
    go_enter Try.func6, Try.ntmps6
    go_wp2_with fail
    go_ret
    exact ⟨rfl, (Below.refl _ _).alloc (Nat.le_refl _) _⟩
end Go.Proofs.Ytfflfhkbnmoalaa.Way
