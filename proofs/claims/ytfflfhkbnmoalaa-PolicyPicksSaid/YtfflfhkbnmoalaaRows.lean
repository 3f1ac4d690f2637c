/-
  No cell of these rows narrows 'for every input' (looked for: loops, veiled, ifaces, maps, wideKeys, modest, calm, conditions, laid).
  DERIVED. THE GIVEN ROWS OF THIS SEAT. 5 by the template 'for every input the law returns true; each argument reads behind the call as it read before'; 0 by the template 'total and deterministic' (their statements: YtfflfhkbnmoalaaTotals.lean).
  GIVEN WITH THE SEED: the statements are not yours to turn. If you find one false, say at which input.
  Laid BY PROGRAM, IN A SANDBOX (cutbox-rows.mjs): the forced cells as the released guide's own fill.sh prints them over the translation 560430b7f1a51bbb… (all of the seat's roots in one cut). By AI agents, Wed Nov 11 2026. No macro, syntax, notation, axiom, sorry.
-/
import Derived.Test.YtfflfhkbnmoalaaChecked
import GoSem.Claim
import GoSem.ClaimJoined
import GoSem.ClaimMapViews
import Derived.JoinedTies
import Derived.KernelRfl
namespace Go.Proofs.Ytfflfhkbnmoalaa
/- THE CELL 'sum', in the pinned program and in every row, IS THE sha256 OF THE DUMP (.gsa) THAT YtfflfhkbnmoalaaProg.lean LOADS. Nothing in Lean hashes anything: it is a label: what it is worth is what the hold of that sum in a sandbox is worth. -/
noncomputable def Try.pinned : Pinned := { name := "ytfflfhkbnmoalaa", sum := "560430b7f1a51bbb19e6c6c2c27394aed2665e47618a6f360d6c2f6416e1821d", checked := Try.checked }
namespace Rows
def none {H : Type} : Left H := { results := [], args := [] }

/-- 'chordmaillaw23.SchedNumbers': WHATEVER THE INPUT: true; the input reads as it did. -/
def schedNumbersSpec : ChangeSpec := { name := "schedNumbers", fn := fun _ => fun
  | [d1, d2] => { results := [.lit (.bool true)], args := [d1, d2] }
  | _ => none }
def schedNumbersRow : OpenClaim := { program := "ytfflfhkbnmoalaa", sum := "560430b7f1a51bbb19e6c6c2c27394aed2665e47618a6f360d6c2f6416e1821d", func := "chordmail/chordmaillaw23.SchedNumbers", spec := "schedNumbers", plainKeys := false, apart := false }
def SchedNumbersSaid : Prop := schedNumbersRow.holds Try.pinned (OpenSpec.ofChange schedNumbersSpec)

/-- ITS FALSE NEIGHBOUR: 'it returns false'. Refute it at one input. -/
def schedNumbersWrong : ChangeSpec := { name := "schedNumbers", fn := fun _ => fun
  | [d1, d2] => { results := [.lit (.bool false)], args := [d1, d2] }
  | _ => none }
def SchedNumbersWrongFalsely : Prop := schedNumbersRow.holds Try.pinned (OpenSpec.ofChange schedNumbersWrong)

/-- 'chordmaillaw25.PolicyFair': WHATEVER THE INPUT: true; the input reads as it did. -/
def policyFairSpec : ChangeSpec := { name := "policyFair", fn := fun _ => fun
  | [d1, d2] => { results := [.lit (.bool true)], args := [d1, d2] }
  | _ => none }
def policyFairRow : OpenClaim := { program := "ytfflfhkbnmoalaa", sum := "560430b7f1a51bbb19e6c6c2c27394aed2665e47618a6f360d6c2f6416e1821d", func := "chordmail/chordmaillaw25.PolicyFair", spec := "policyFair", unfollowed := true, recurses := true, plainKeys := false, apart := false }
def PolicyFairSaid : Prop := policyFairRow.holds Try.pinned (OpenSpec.ofChange policyFairSpec)

/-- ITS FALSE NEIGHBOUR: 'it returns false'. Refute it at one input. -/
def policyFairWrong : ChangeSpec := { name := "policyFair", fn := fun _ => fun
  | [d1, d2] => { results := [.lit (.bool false)], args := [d1, d2] }
  | _ => none }
def PolicyFairWrongFalsely : Prop := policyFairRow.holds Try.pinned (OpenSpec.ofChange policyFairWrong)

/-- 'chordmaillaw25.PolicyLots': WHATEVER THE INPUT: true; the input reads as it did. -/
def policyLotsSpec : ChangeSpec := { name := "policyLots", fn := fun _ => fun
  | [d1, d2, d3] => { results := [.lit (.bool true)], args := [d1, d2, d3] }
  | _ => none }
def policyLotsRow : OpenClaim := { program := "ytfflfhkbnmoalaa", sum := "560430b7f1a51bbb19e6c6c2c27394aed2665e47618a6f360d6c2f6416e1821d", func := "chordmail/chordmaillaw25.PolicyLots", spec := "policyLots", unfollowed := true, recurses := true, plainKeys := false, apart := false }
def PolicyLotsSaid : Prop := policyLotsRow.holds Try.pinned (OpenSpec.ofChange policyLotsSpec)

/-- ITS FALSE NEIGHBOUR: 'it returns false'. Refute it at one input. -/
def policyLotsWrong : ChangeSpec := { name := "policyLots", fn := fun _ => fun
  | [d1, d2, d3] => { results := [.lit (.bool false)], args := [d1, d2, d3] }
  | _ => none }
def PolicyLotsWrongFalsely : Prop := policyLotsRow.holds Try.pinned (OpenSpec.ofChange policyLotsWrong)

/-- 'chordmaillaw27.ExploreWays': WHATEVER THE INPUT: true; the input reads as it did. -/
def exploreWaysSpec : ChangeSpec := { name := "exploreWays", fn := fun _ => fun
  | [d1, d2] => { results := [.lit (.bool true)], args := [d1, d2] }
  | _ => none }
def exploreWaysRow : OpenClaim := { program := "ytfflfhkbnmoalaa", sum := "560430b7f1a51bbb19e6c6c2c27394aed2665e47618a6f360d6c2f6416e1821d", func := "chordmail/chordmaillaw27.ExploreWays", spec := "exploreWays", unfollowed := true, recurses := true, plainKeys := false, apart := false }
def ExploreWaysSaid : Prop := exploreWaysRow.holds Try.pinned (OpenSpec.ofChange exploreWaysSpec)

/-- ITS FALSE NEIGHBOUR: 'it returns false'. Refute it at one input. -/
def exploreWaysWrong : ChangeSpec := { name := "exploreWays", fn := fun _ => fun
  | [d1, d2] => { results := [.lit (.bool false)], args := [d1, d2] }
  | _ => none }
def ExploreWaysWrongFalsely : Prop := exploreWaysRow.holds Try.pinned (OpenSpec.ofChange exploreWaysWrong)

/-- 'chordmaillaw25.PolicyPicks': WHATEVER THE INPUT: true; the input reads as it did. -/
def policyPicksSpec : ChangeSpec := { name := "policyPicks", fn := fun _ => fun
  | [d1, d2, d3] => { results := [.lit (.bool true)], args := [d1, d2, d3] }
  | _ => none }
def policyPicksRow : OpenClaim := { program := "ytfflfhkbnmoalaa", sum := "560430b7f1a51bbb19e6c6c2c27394aed2665e47618a6f360d6c2f6416e1821d", func := "chordmail/chordmaillaw25.PolicyPicks", spec := "policyPicks", unfollowed := true, recurses := true, plainKeys := false, apart := false }
def PolicyPicksSaid : Prop := policyPicksRow.holds Try.pinned (OpenSpec.ofChange policyPicksSpec)

/-- ITS FALSE NEIGHBOUR: 'it returns false'. Refute it at one input. -/
def policyPicksWrong : ChangeSpec := { name := "policyPicks", fn := fun _ => fun
  | [d1, d2, d3] => { results := [.lit (.bool false)], args := [d1, d2, d3] }
  | _ => none }
def PolicyPicksWrongFalsely : Prop := policyPicksRow.holds Try.pinned (OpenSpec.ofChange policyPicksWrong)

/- THE SECOND FORM. 'bulk': how many values and letters a reading holds, each counted each time it is reached (what is shared counts as often as it is met; a slice's spare places count too). A statement '..UptoSaid' is the law's where the arguments, and the package variables that the reading takes, are together of bulk at most 1048576: NARROWER than '..Said'. Prove '..Said' where nothing that the law and all that it calls make is longer than what came in: it says more and counts as full. Else prove '..UptoSaid'. A law counts once. -/
mutual
def uptoBulk {H : Type} : DataW H → Nat
  | .lit (.string bytes) => bytes.length + 1
  | .lit _ => 1
  | .nil => 1
  | .ptr d => uptoBulk d + 1
  | .slice elems spare => uptoBulkAll elems + uptoBulkAll spare + 1
  | .agg parts => uptoBulkAll parts + 1
  | .iface _ d => uptoBulk d + 1
  | .map entries => uptoBulkEntries entries + 1
  | .held _ => 1
def uptoBulkAll {H : Type} : List (DataW H) → Nat
  | [] => 0
  | d :: r => uptoBulk d + uptoBulkAll r
def uptoBulkEntries {H : Type} : List (Lit × DataW H) → Nat
  | [] => 0
  | x :: r => uptoBulkEntry x + uptoBulkEntries r
def uptoBulkEntry {H : Type} : Lit × DataW H → Nat
  | (.string bytes, d) => bytes.length + uptoBulk d + 1
  | (_, d) => uptoBulk d + 1
 end
def uptoSmall : (H : Type) → List (DataW H) → Bool := fun _ ds => decide (uptoBulkAll ds ≤ 1048576)
def OpenSpec.upto (s : _root_.Go.ChangeSpec) : _root_.Go.OpenSpec := { _root_.Go.OpenSpec.ofChange s with cond := some uptoSmall }

/-- 'chordmaillaw23.SchedNumbers', WHERE WHAT IT READS IS OF BULK AT MOST 1048576: true; the input reads as it did. -/
def schedNumbersUptoRow : OpenClaim := { program := "ytfflfhkbnmoalaa", sum := "560430b7f1a51bbb19e6c6c2c27394aed2665e47618a6f360d6c2f6416e1821d", func := "chordmail/chordmaillaw23.SchedNumbers", spec := "schedNumbers", plainKeys := false, apart := false, narrowed := true }
def SchedNumbersUptoSaid : Prop := schedNumbersUptoRow.holds Try.pinned (OpenSpec.upto schedNumbersSpec)

/-- 'chordmaillaw25.PolicyFair', WHERE WHAT IT READS IS OF BULK AT MOST 1048576: true; the input reads as it did. -/
def policyFairUptoRow : OpenClaim := { program := "ytfflfhkbnmoalaa", sum := "560430b7f1a51bbb19e6c6c2c27394aed2665e47618a6f360d6c2f6416e1821d", func := "chordmail/chordmaillaw25.PolicyFair", spec := "policyFair", unfollowed := true, recurses := true, plainKeys := false, apart := false, narrowed := true }
def PolicyFairUptoSaid : Prop := policyFairUptoRow.holds Try.pinned (OpenSpec.upto policyFairSpec)

/-- 'chordmaillaw25.PolicyLots', WHERE WHAT IT READS IS OF BULK AT MOST 1048576: true; the input reads as it did. -/
def policyLotsUptoRow : OpenClaim := { program := "ytfflfhkbnmoalaa", sum := "560430b7f1a51bbb19e6c6c2c27394aed2665e47618a6f360d6c2f6416e1821d", func := "chordmail/chordmaillaw25.PolicyLots", spec := "policyLots", unfollowed := true, recurses := true, plainKeys := false, apart := false, narrowed := true }
def PolicyLotsUptoSaid : Prop := policyLotsUptoRow.holds Try.pinned (OpenSpec.upto policyLotsSpec)

/-- 'chordmaillaw27.ExploreWays', WHERE WHAT IT READS IS OF BULK AT MOST 1048576: true; the input reads as it did. -/
def exploreWaysUptoRow : OpenClaim := { program := "ytfflfhkbnmoalaa", sum := "560430b7f1a51bbb19e6c6c2c27394aed2665e47618a6f360d6c2f6416e1821d", func := "chordmail/chordmaillaw27.ExploreWays", spec := "exploreWays", unfollowed := true, recurses := true, plainKeys := false, apart := false, narrowed := true }
def ExploreWaysUptoSaid : Prop := exploreWaysUptoRow.holds Try.pinned (OpenSpec.upto exploreWaysSpec)

/-- 'chordmaillaw25.PolicyPicks', WHERE WHAT IT READS IS OF BULK AT MOST 1048576: true; the input reads as it did. -/
def policyPicksUptoRow : OpenClaim := { program := "ytfflfhkbnmoalaa", sum := "560430b7f1a51bbb19e6c6c2c27394aed2665e47618a6f360d6c2f6416e1821d", func := "chordmail/chordmaillaw25.PolicyPicks", spec := "policyPicks", unfollowed := true, recurses := true, plainKeys := false, apart := false, narrowed := true }
def PolicyPicksUptoSaid : Prop := policyPicksUptoRow.holds Try.pinned (OpenSpec.upto policyPicksSpec)

end Rows
end Go.Proofs.Ytfflfhkbnmoalaa
