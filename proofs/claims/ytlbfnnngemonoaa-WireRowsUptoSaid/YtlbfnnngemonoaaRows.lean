/-
  No cell of these rows narrows 'for every input' (looked for: loops, veiled, ifaces, maps, wideKeys, modest, calm, conditions, laid).
  DERIVED. THE GIVEN ROWS OF THIS SEAT. 7 by the template 'for every input the law returns true; each argument reads behind the call as it read before'; 0 by the template 'total and deterministic' (their statements: YtlbfnnngemonoaaTotals.lean).
  GIVEN WITH THE SEED: the statements are not yours to turn. If you find one false, say at which input.
  Laid BY PROGRAM, IN A SANDBOX (cutbox-rows.mjs): the forced cells as the released guide's own fill.sh prints them over the translation 1c07fb0da559c676… (all of the seat's roots in one cut). By AI agents, Wed Nov 11 2026. No macro, syntax, notation, axiom, sorry.
-/
import Derived.Test.YtlbfnnngemonoaaChecked
import GoSem.Claim
import GoSem.ClaimJoined
import GoSem.ClaimMapViews
import Derived.JoinedTies
import Derived.KernelRfl
namespace Go.Proofs.Ytlbfnnngemonoaa
/- THE CELL 'sum', in the pinned program and in every row, IS THE sha256 OF THE DUMP (.gsa) THAT YtlbfnnngemonoaaProg.lean LOADS. Nothing in Lean hashes anything: it is a label: what it is worth is what the hold of that sum in a sandbox is worth. -/
noncomputable def Try.pinned : Pinned := { name := "ytlbfnnngemonoaa", sum := "1c07fb0da559c676cfc08777caae39a05133952576c8d9e1fe16ce7dac3b540a", checked := Try.checked }
namespace Rows
def none {H : Type} : Left H := { results := [], args := [] }

/-- 'chordmaillaw24.FateBooks': WHATEVER THE INPUT: true; the input reads as it did. -/
def fateBooksSpec : ChangeSpec := { name := "fateBooks", fn := fun _ => fun
  | [d1, d2, d3] => { results := [.lit (.bool true)], args := [d1, d2, d3] }
  | _ => none }
def fateBooksRow : OpenClaim := { program := "ytlbfnnngemonoaa", sum := "1c07fb0da559c676cfc08777caae39a05133952576c8d9e1fe16ce7dac3b540a", func := "chordmail/chordmaillaw24.FateBooks", spec := "fateBooks", apart := false }
def FateBooksSaid : Prop := fateBooksRow.holds Try.pinned (OpenSpec.ofChange fateBooksSpec)

/-- ITS FALSE NEIGHBOUR: 'it returns false'. Refute it at one input. -/
def fateBooksWrong : ChangeSpec := { name := "fateBooks", fn := fun _ => fun
  | [d1, d2, d3] => { results := [.lit (.bool false)], args := [d1, d2, d3] }
  | _ => none }
def FateBooksWrongFalsely : Prop := fateBooksRow.holds Try.pinned (OpenSpec.ofChange fateBooksWrong)

/-- 'chordmaillaw24.FateOwn': WHATEVER THE INPUT: true; the input reads as it did. -/
def fateOwnSpec : ChangeSpec := { name := "fateOwn", fn := fun _ => fun
  | [d] => { results := [.lit (.bool true)], args := [d] }
  | _ => none }
def fateOwnRow : OpenClaim := { program := "ytlbfnnngemonoaa", sum := "1c07fb0da559c676cfc08777caae39a05133952576c8d9e1fe16ce7dac3b540a", func := "chordmail/chordmaillaw24.FateOwn", spec := "fateOwn", apart := false }
def FateOwnSaid : Prop := fateOwnRow.holds Try.pinned (OpenSpec.ofChange fateOwnSpec)

/-- ITS FALSE NEIGHBOUR: 'it returns false'. Refute it at one input. -/
def fateOwnWrong : ChangeSpec := { name := "fateOwn", fn := fun _ => fun
  | [d] => { results := [.lit (.bool false)], args := [d] }
  | _ => none }
def FateOwnWrongFalsely : Prop := fateOwnRow.holds Try.pinned (OpenSpec.ofChange fateOwnWrong)

/-- 'chordmaillaw11.WireReads': WHATEVER THE INPUT: true; the input reads as it did. -/
def wireReadsSpec : ChangeSpec := { name := "wireReads", fn := fun _ => fun
  | [d] => { results := [.lit (.bool true)], args := [d] }
  | _ => none }
def wireReadsRow : OpenClaim := { program := "ytlbfnnngemonoaa", sum := "1c07fb0da559c676cfc08777caae39a05133952576c8d9e1fe16ce7dac3b540a", func := "chordmail/chordmaillaw11.WireReads", spec := "wireReads", inPlace := ["math.Float64frombits"], apart := false }
def WireReadsSaid : Prop := wireReadsRow.holds Try.pinned (OpenSpec.ofChange wireReadsSpec)

/-- ITS FALSE NEIGHBOUR: 'it returns false'. Refute it at one input. -/
def wireReadsWrong : ChangeSpec := { name := "wireReads", fn := fun _ => fun
  | [d] => { results := [.lit (.bool false)], args := [d] }
  | _ => none }
def WireReadsWrongFalsely : Prop := wireReadsRow.holds Try.pinned (OpenSpec.ofChange wireReadsWrong)

/-- 'chordmaillaw11.WireRows': WHATEVER THE INPUT: true; the input reads as it did. -/
def wireRowsSpec : ChangeSpec := { name := "wireRows", fn := fun _ => fun
  | [d1, d2] => { results := [.lit (.bool true)], args := [d1, d2] }
  | _ => none }
def wireRowsRow : OpenClaim := { program := "ytlbfnnngemonoaa", sum := "1c07fb0da559c676cfc08777caae39a05133952576c8d9e1fe16ce7dac3b540a", func := "chordmail/chordmaillaw11.WireRows", spec := "wireRows", inPlace := ["math.Float64frombits"], unfollowed := true, recurses := true, apart := false }
def WireRowsSaid : Prop := wireRowsRow.holds Try.pinned (OpenSpec.ofChange wireRowsSpec)

/-- ITS FALSE NEIGHBOUR: 'it returns false'. Refute it at one input. -/
def wireRowsWrong : ChangeSpec := { name := "wireRows", fn := fun _ => fun
  | [d1, d2] => { results := [.lit (.bool false)], args := [d1, d2] }
  | _ => none }
def WireRowsWrongFalsely : Prop := wireRowsRow.holds Try.pinned (OpenSpec.ofChange wireRowsWrong)

/-- 'chordmaillaw11.WireForm': WHATEVER THE INPUT: true; the input reads as it did. -/
def wireFormSpec : ChangeSpec := { name := "wireForm", fn := fun _ => fun
  | [d] => { results := [.lit (.bool true)], args := [d] }
  | _ => none }
def wireFormRow : OpenClaim := { program := "ytlbfnnngemonoaa", sum := "1c07fb0da559c676cfc08777caae39a05133952576c8d9e1fe16ce7dac3b540a", func := "chordmail/chordmaillaw11.WireForm", spec := "wireForm", inPlace := ["math.Float64bits", "math.Float64frombits"], apart := false }
def WireFormSaid : Prop := wireFormRow.holds Try.pinned (OpenSpec.ofChange wireFormSpec)

/-- ITS FALSE NEIGHBOUR: 'it returns false'. Refute it at one input. -/
def wireFormWrong : ChangeSpec := { name := "wireForm", fn := fun _ => fun
  | [d] => { results := [.lit (.bool false)], args := [d] }
  | _ => none }
def WireFormWrongFalsely : Prop := wireFormRow.holds Try.pinned (OpenSpec.ofChange wireFormWrong)

/-- 'chordmaillaw26.TapeReads': WHATEVER THE INPUT: true; the input reads as it did. -/
def tapeReadsSpec : ChangeSpec := { name := "tapeReads", fn := fun _ => fun
  | [d] => { results := [.lit (.bool true)], args := [d] }
  | _ => none }
def tapeReadsRow : OpenClaim := { program := "ytlbfnnngemonoaa", sum := "1c07fb0da559c676cfc08777caae39a05133952576c8d9e1fe16ce7dac3b540a", func := "chordmail/chordmaillaw26.TapeReads", spec := "tapeReads", inPlace := ["math.Float64frombits"], unfollowed := true, recurses := true, apart := false }
def TapeReadsSaid : Prop := tapeReadsRow.holds Try.pinned (OpenSpec.ofChange tapeReadsSpec)

/-- ITS FALSE NEIGHBOUR: 'it returns false'. Refute it at one input. -/
def tapeReadsWrong : ChangeSpec := { name := "tapeReads", fn := fun _ => fun
  | [d] => { results := [.lit (.bool false)], args := [d] }
  | _ => none }
def TapeReadsWrongFalsely : Prop := tapeReadsRow.holds Try.pinned (OpenSpec.ofChange tapeReadsWrong)

/-- 'chordmaillaw26.TapeOne': WHATEVER THE INPUT: true; the input reads as it did. -/
def tapeOneSpec : ChangeSpec := { name := "tapeOne", fn := fun _ => fun
  | [d] => { results := [.lit (.bool true)], args := [d] }
  | _ => none }
def tapeOneRow : OpenClaim := { program := "ytlbfnnngemonoaa", sum := "1c07fb0da559c676cfc08777caae39a05133952576c8d9e1fe16ce7dac3b540a", func := "chordmail/chordmaillaw26.TapeOne", spec := "tapeOne", inPlace := ["math.Float64frombits"], unfollowed := true, recurses := true, apart := false }
def TapeOneSaid : Prop := tapeOneRow.holds Try.pinned (OpenSpec.ofChange tapeOneSpec)

/-- ITS FALSE NEIGHBOUR: 'it returns false'. Refute it at one input. -/
def tapeOneWrong : ChangeSpec := { name := "tapeOne", fn := fun _ => fun
  | [d] => { results := [.lit (.bool false)], args := [d] }
  | _ => none }
def TapeOneWrongFalsely : Prop := tapeOneRow.holds Try.pinned (OpenSpec.ofChange tapeOneWrong)

/- THE SECOND FORM. 'bulk': how many values and letters a reading holds, each counted each time it is reached (what is shared counts as often as it is met; a slice's spare places count too). A statement '..UptoSaid' is the law's where the arguments, and the package variables that the reading takes, are together of bulk at most 1048576: NARROWER than '..Said'. Prove '..Said' where nothing that the law and all that it calls make is longer than what came in: it says more and counts as full. Else prove '..UptoSaid'. A law counts once. -/
mutual
def uptoBulk {H : Type} : DataW H → Nat
  | .lit (.string bytes) => bytes.length + 1
  | .lit _ => 1
  | .nil => 1
  | .ptr d => uptoBulk d + 1
  | .slice elems spare => uptoBulkAll elems + uptoBulkAll spare + 1
  | .agg parts => uptoBulkAll parts + 1
  | .iface _ d => uptoBulk d + 1
  | .map entries => uptoBulkEntries entries + 1
  | .held _ => 1
def uptoBulkAll {H : Type} : List (DataW H) → Nat
  | [] => 0
  | d :: r => uptoBulk d + uptoBulkAll r
def uptoBulkEntries {H : Type} : List (Lit × DataW H) → Nat
  | [] => 0
  | x :: r => uptoBulkEntry x + uptoBulkEntries r
def uptoBulkEntry {H : Type} : Lit × DataW H → Nat
  | (.string bytes, d) => bytes.length + uptoBulk d + 1
  | (_, d) => uptoBulk d + 1
 end
def uptoSmall : (H : Type) → List (DataW H) → Bool := fun _ ds => decide (uptoBulkAll ds ≤ 1048576)
def OpenSpec.upto (s : _root_.Go.ChangeSpec) : _root_.Go.OpenSpec := { _root_.Go.OpenSpec.ofChange s with cond := some uptoSmall }

/-- 'chordmaillaw24.FateBooks', WHERE WHAT IT READS IS OF BULK AT MOST 1048576: true; the input reads as it did. -/
def fateBooksUptoRow : OpenClaim := { program := "ytlbfnnngemonoaa", sum := "1c07fb0da559c676cfc08777caae39a05133952576c8d9e1fe16ce7dac3b540a", func := "chordmail/chordmaillaw24.FateBooks", spec := "fateBooks", apart := false, narrowed := true }
def FateBooksUptoSaid : Prop := fateBooksUptoRow.holds Try.pinned (OpenSpec.upto fateBooksSpec)

/-- 'chordmaillaw24.FateOwn', WHERE WHAT IT READS IS OF BULK AT MOST 1048576: true; the input reads as it did. -/
def fateOwnUptoRow : OpenClaim := { program := "ytlbfnnngemonoaa", sum := "1c07fb0da559c676cfc08777caae39a05133952576c8d9e1fe16ce7dac3b540a", func := "chordmail/chordmaillaw24.FateOwn", spec := "fateOwn", apart := false, narrowed := true }
def FateOwnUptoSaid : Prop := fateOwnUptoRow.holds Try.pinned (OpenSpec.upto fateOwnSpec)

/-- 'chordmaillaw11.WireReads', WHERE WHAT IT READS IS OF BULK AT MOST 1048576: true; the input reads as it did. -/
def wireReadsUptoRow : OpenClaim := { program := "ytlbfnnngemonoaa", sum := "1c07fb0da559c676cfc08777caae39a05133952576c8d9e1fe16ce7dac3b540a", func := "chordmail/chordmaillaw11.WireReads", spec := "wireReads", inPlace := ["math.Float64frombits"], apart := false, narrowed := true }
def WireReadsUptoSaid : Prop := wireReadsUptoRow.holds Try.pinned (OpenSpec.upto wireReadsSpec)

/-- 'chordmaillaw11.WireRows', WHERE WHAT IT READS IS OF BULK AT MOST 1048576: true; the input reads as it did. -/
def wireRowsUptoRow : OpenClaim := { program := "ytlbfnnngemonoaa", sum := "1c07fb0da559c676cfc08777caae39a05133952576c8d9e1fe16ce7dac3b540a", func := "chordmail/chordmaillaw11.WireRows", spec := "wireRows", inPlace := ["math.Float64frombits"], unfollowed := true, recurses := true, apart := false, narrowed := true }
def WireRowsUptoSaid : Prop := wireRowsUptoRow.holds Try.pinned (OpenSpec.upto wireRowsSpec)

/-- 'chordmaillaw11.WireForm', WHERE WHAT IT READS IS OF BULK AT MOST 1048576: true; the input reads as it did. -/
def wireFormUptoRow : OpenClaim := { program := "ytlbfnnngemonoaa", sum := "1c07fb0da559c676cfc08777caae39a05133952576c8d9e1fe16ce7dac3b540a", func := "chordmail/chordmaillaw11.WireForm", spec := "wireForm", inPlace := ["math.Float64bits", "math.Float64frombits"], apart := false, narrowed := true }
def WireFormUptoSaid : Prop := wireFormUptoRow.holds Try.pinned (OpenSpec.upto wireFormSpec)

/-- 'chordmaillaw26.TapeReads', WHERE WHAT IT READS IS OF BULK AT MOST 1048576: true; the input reads as it did. -/
def tapeReadsUptoRow : OpenClaim := { program := "ytlbfnnngemonoaa", sum := "1c07fb0da559c676cfc08777caae39a05133952576c8d9e1fe16ce7dac3b540a", func := "chordmail/chordmaillaw26.TapeReads", spec := "tapeReads", inPlace := ["math.Float64frombits"], unfollowed := true, recurses := true, apart := false, narrowed := true }
def TapeReadsUptoSaid : Prop := tapeReadsUptoRow.holds Try.pinned (OpenSpec.upto tapeReadsSpec)

/-- 'chordmaillaw26.TapeOne', WHERE WHAT IT READS IS OF BULK AT MOST 1048576: true; the input reads as it did. -/
def tapeOneUptoRow : OpenClaim := { program := "ytlbfnnngemonoaa", sum := "1c07fb0da559c676cfc08777caae39a05133952576c8d9e1fe16ce7dac3b540a", func := "chordmail/chordmaillaw26.TapeOne", spec := "tapeOne", inPlace := ["math.Float64frombits"], unfollowed := true, recurses := true, apart := false, narrowed := true }
def TapeOneUptoSaid : Prop := tapeOneUptoRow.holds Try.pinned (OpenSpec.upto tapeOneSpec)

end Rows
end Go.Proofs.Ytlbfnnngemonoaa
