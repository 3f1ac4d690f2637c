/- No function of ShellNone's program starts a goroutine. -/
import Derived.Test.YtmgnkhpaaghmkaaGreatDoorCards
import Derived.SevenTiedAt
namespace Go.Proofs.YtmgnkhpaaghmkaaGreatDoor.ShnFacts
open Go
theorem g0 : Tryz.prog.funcs.any Func.goes = false := by kernel_rfl
theorem goes_none {P : Program} (h : P.funcs.any Func.goes = false) (f : FuncId) : P.goes f = false := by
  unfold Program.goes
  rw [h, Bool.and_false, Bool.or_false]
  rw [Bool.eq_false_iff]
  intro hc
  obtain ⟨g, _, hg⟩ := List.any_eq_true.1 hc
  cases hf : P.funcs[g]? with
  | none => rw [hf] at hg; cases hg
  | some fn =>
    rw [hf] at hg
    have h2 : P.funcs.any Func.goes = true := Array.any_eq_true'.2 ⟨fn, Array.mem_of_getElem? hf, hg⟩
    rw [h] at h2
    cases h2
theorem goesAt_none {P : Program} (h : P.funcs.any Func.goes = false) (st : Start) (hs : st = .entering) (n : String) : false = P.goesAt st n := by
  subst hs
  unfold Program.goesAt Program.goesFrom
  cases P.funcNamed n with
  | none => rfl
  | some f =>
    show false = (P.goes f || false)
    rw [goes_none h f]
    rfl
theorem goesBy_none {P : Program} (h : P.funcs.any Func.goes = false) (c : OpenClaim) (hs : c.start = .entering) : false = c.goesBy P := goesAt_none h c.start hs c.func
theorem go1 : false = Rows.shellNoneRow.goesBy Tryz.pinned.checked.prog := goesBy_none g0 Rows.shellNoneRow rfl
end Go.Proofs.YtmgnkhpaaghmkaaGreatDoor.ShnFacts
