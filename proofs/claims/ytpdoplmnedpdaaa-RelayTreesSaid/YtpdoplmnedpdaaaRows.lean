/-
  No cell of these rows narrows 'for every input' (looked for: loops, veiled, ifaces, maps, wideKeys, modest, calm, conditions, laid).
  DERIVED. THE GIVEN ROWS OF THIS SEAT. 12 by the template 'for every input the law returns true; each argument reads behind the call as it read before'; 0 by the template 'total and deterministic' (their statements: YtpdoplmnedpdaaaTotals.lean).
  GIVEN WITH THE SEED: the statements are not yours to turn. If you find one false, say at which input.
  Laid BY PROGRAM, IN A SANDBOX (cutbox-rows.mjs): the forced cells as the released guide's own fill.sh prints them over the translation 1e53331d281ee940… (all of the seat's roots in one cut). By AI agents, Wed Nov 11 2026. No macro, syntax, notation, axiom, sorry.
-/
import Derived.Test.YtpdoplmnedpdaaaChecked
import GoSem.Claim
import GoSem.ClaimJoined
import GoSem.ClaimMapViews
import Derived.JoinedTies
import Derived.KernelRfl
namespace Go.Proofs.Ytpdoplmnedpdaaa
/- THE CELL 'sum', in the pinned program and in every row, IS THE sha256 OF THE DUMP (.gsa) THAT YtpdoplmnedpdaaaProg.lean LOADS. Nothing in Lean hashes anything: it is a label: what it is worth is what the hold of that sum in a sandbox is worth. -/
noncomputable def Try.pinned : Pinned := { name := "ytpdoplmnedpdaaa", sum := "1e53331d281ee94041159969e6f39c39925efc214e6152f2e5d751371d19078e", checked := Try.checked }
namespace Rows
def none {H : Type} : Left H := { results := [], args := [] }

/-- 'hedgelaw8.BookLearns': WHATEVER THE INPUT: true; the input reads as it did. -/
def bookLearnsSpec : ChangeSpec := { name := "bookLearns", fn := fun _ => fun
  | [d1, d2, d3, d4, d5] => { results := [.lit (.bool true)], args := [d1, d2, d3, d4, d5] }
  | _ => none }
def bookLearnsRow : OpenClaim := { program := "ytpdoplmnedpdaaa", sum := "1e53331d281ee94041159969e6f39c39925efc214e6152f2e5d751371d19078e", func := "hedgerow/hedgelaw8.BookLearns", spec := "bookLearns", inPlace := ["slices.overlaps[hedgerow/api.Entry]"], unfollowed := true, recurses := true, apart := false }
def BookLearnsSaid : Prop := bookLearnsRow.holds Try.pinned (OpenSpec.ofChange bookLearnsSpec)

/-- ITS FALSE NEIGHBOUR: 'it returns false'. Refute it at one input. -/
def bookLearnsWrong : ChangeSpec := { name := "bookLearns", fn := fun _ => fun
  | [d1, d2, d3, d4, d5] => { results := [.lit (.bool false)], args := [d1, d2, d3, d4, d5] }
  | _ => none }
def BookLearnsWrongFalsely : Prop := bookLearnsRow.holds Try.pinned (OpenSpec.ofChange bookLearnsWrong)

/-- 'hedgelaw8.BookOld': WHATEVER THE INPUT: true; the input reads as it did. -/
def bookOldSpec : ChangeSpec := { name := "bookOld", fn := fun _ => fun
  | [d1, d2, d3] => { results := [.lit (.bool true)], args := [d1, d2, d3] }
  | _ => none }
def bookOldRow : OpenClaim := { program := "ytpdoplmnedpdaaa", sum := "1e53331d281ee94041159969e6f39c39925efc214e6152f2e5d751371d19078e", func := "hedgerow/hedgelaw8.BookOld", spec := "bookOld", inPlace := ["slices.overlaps[hedgerow/api.Entry]"], unfollowed := true, recurses := true, apart := false }
def BookOldSaid : Prop := bookOldRow.holds Try.pinned (OpenSpec.ofChange bookOldSpec)

/-- ITS FALSE NEIGHBOUR: 'it returns false'. Refute it at one input. -/
def bookOldWrong : ChangeSpec := { name := "bookOld", fn := fun _ => fun
  | [d1, d2, d3] => { results := [.lit (.bool false)], args := [d1, d2, d3] }
  | _ => none }
def BookOldWrongFalsely : Prop := bookOldRow.holds Try.pinned (OpenSpec.ofChange bookOldWrong)

/-- 'hedgelaw8.BookTwice': WHATEVER THE INPUT: true; the input reads as it did. -/
def bookTwiceSpec : ChangeSpec := { name := "bookTwice", fn := fun _ => fun
  | [d1, d2, d3, d4, d5] => { results := [.lit (.bool true)], args := [d1, d2, d3, d4, d5] }
  | _ => none }
def bookTwiceRow : OpenClaim := { program := "ytpdoplmnedpdaaa", sum := "1e53331d281ee94041159969e6f39c39925efc214e6152f2e5d751371d19078e", func := "hedgerow/hedgelaw8.BookTwice", spec := "bookTwice", inPlace := ["slices.overlaps[hedgerow/api.Entry]"], unfollowed := true, recurses := true, apart := false }
def BookTwiceSaid : Prop := bookTwiceRow.holds Try.pinned (OpenSpec.ofChange bookTwiceSpec)

/-- ITS FALSE NEIGHBOUR: 'it returns false'. Refute it at one input. -/
def bookTwiceWrong : ChangeSpec := { name := "bookTwice", fn := fun _ => fun
  | [d1, d2, d3, d4, d5] => { results := [.lit (.bool false)], args := [d1, d2, d3, d4, d5] }
  | _ => none }
def BookTwiceWrongFalsely : Prop := bookTwiceRow.holds Try.pinned (OpenSpec.ofChange bookTwiceWrong)

/-- 'hedgelaw8.BookTells': WHATEVER THE INPUT: true; the input reads as it did. -/
def bookTellsSpec : ChangeSpec := { name := "bookTells", fn := fun _ => fun
  | [d1, d2, d3, d4, d5, d6] => { results := [.lit (.bool true)], args := [d1, d2, d3, d4, d5, d6] }
  | _ => none }
def bookTellsRow : OpenClaim := { program := "ytpdoplmnedpdaaa", sum := "1e53331d281ee94041159969e6f39c39925efc214e6152f2e5d751371d19078e", func := "hedgerow/hedgelaw8.BookTells", spec := "bookTells", inPlace := ["slices.overlaps[hedgerow/api.Entry]"], unfollowed := true, recurses := true, apart := false }
def BookTellsSaid : Prop := bookTellsRow.holds Try.pinned (OpenSpec.ofChange bookTellsSpec)

/-- ITS FALSE NEIGHBOUR: 'it returns false'. Refute it at one input. -/
def bookTellsWrong : ChangeSpec := { name := "bookTells", fn := fun _ => fun
  | [d1, d2, d3, d4, d5, d6] => { results := [.lit (.bool false)], args := [d1, d2, d3, d4, d5, d6] }
  | _ => none }
def BookTellsWrongFalsely : Prop := bookTellsRow.holds Try.pinned (OpenSpec.ofChange bookTellsWrong)

/-- 'hedgelaw8.BookFlush': WHATEVER THE INPUT: true; the input reads as it did. -/
def bookFlushSpec : ChangeSpec := { name := "bookFlush", fn := fun _ => fun
  | [d1, d2, d3] => { results := [.lit (.bool true)], args := [d1, d2, d3] }
  | _ => none }
def bookFlushRow : OpenClaim := { program := "ytpdoplmnedpdaaa", sum := "1e53331d281ee94041159969e6f39c39925efc214e6152f2e5d751371d19078e", func := "hedgerow/hedgelaw8.BookFlush", spec := "bookFlush", inPlace := ["slices.overlaps[hedgerow/api.Entry]"], unfollowed := true, recurses := true, apart := false }
def BookFlushSaid : Prop := bookFlushRow.holds Try.pinned (OpenSpec.ofChange bookFlushSpec)

/-- ITS FALSE NEIGHBOUR: 'it returns false'. Refute it at one input. -/
def bookFlushWrong : ChangeSpec := { name := "bookFlush", fn := fun _ => fun
  | [d1, d2, d3] => { results := [.lit (.bool false)], args := [d1, d2, d3] }
  | _ => none }
def BookFlushWrongFalsely : Prop := bookFlushRow.holds Try.pinned (OpenSpec.ofChange bookFlushWrong)

/-- 'hedgelaw9.RelayTells': WHATEVER THE INPUT: true; the input reads as it did. -/
def relayTellsSpec : ChangeSpec := { name := "relayTells", fn := fun _ => fun
  | [d1, d2, d3, d4, d5] => { results := [.lit (.bool true)], args := [d1, d2, d3, d4, d5] }
  | _ => none }
def relayTellsRow : OpenClaim := { program := "ytpdoplmnedpdaaa", sum := "1e53331d281ee94041159969e6f39c39925efc214e6152f2e5d751371d19078e", func := "hedgerow/hedgelaw9.RelayTells", spec := "relayTells", inPlace := ["slices.overlaps[hedgerow/api.Entry]"], unfollowed := true, recurses := true, apart := false }
def RelayTellsSaid : Prop := relayTellsRow.holds Try.pinned (OpenSpec.ofChange relayTellsSpec)

/-- ITS FALSE NEIGHBOUR: 'it returns false'. Refute it at one input. -/
def relayTellsWrong : ChangeSpec := { name := "relayTells", fn := fun _ => fun
  | [d1, d2, d3, d4, d5] => { results := [.lit (.bool false)], args := [d1, d2, d3, d4, d5] }
  | _ => none }
def RelayTellsWrongFalsely : Prop := relayTellsRow.holds Try.pinned (OpenSpec.ofChange relayTellsWrong)

/-- 'hedgelaw9.RelayGates': WHATEVER THE INPUT: true; the input reads as it did. -/
def relayGatesSpec : ChangeSpec := { name := "relayGates", fn := fun _ => fun
  | [d1, d2, d3, d4, d5] => { results := [.lit (.bool true)], args := [d1, d2, d3, d4, d5] }
  | _ => none }
def relayGatesRow : OpenClaim := { program := "ytpdoplmnedpdaaa", sum := "1e53331d281ee94041159969e6f39c39925efc214e6152f2e5d751371d19078e", func := "hedgerow/hedgelaw9.RelayGates", spec := "relayGates", inPlace := ["slices.overlaps[hedgerow/api.Entry]"], unfollowed := true, recurses := true, apart := false }
def RelayGatesSaid : Prop := relayGatesRow.holds Try.pinned (OpenSpec.ofChange relayGatesSpec)

/-- ITS FALSE NEIGHBOUR: 'it returns false'. Refute it at one input. -/
def relayGatesWrong : ChangeSpec := { name := "relayGates", fn := fun _ => fun
  | [d1, d2, d3, d4, d5] => { results := [.lit (.bool false)], args := [d1, d2, d3, d4, d5] }
  | _ => none }
def RelayGatesWrongFalsely : Prop := relayGatesRow.holds Try.pinned (OpenSpec.ofChange relayGatesWrong)

/-- 'hedgelaw9.RelayFlood': WHATEVER THE INPUT: true; the input reads as it did. -/
def relayFloodSpec : ChangeSpec := { name := "relayFlood", fn := fun _ => fun
  | [d1, d2, d3, d4, d5] => { results := [.lit (.bool true)], args := [d1, d2, d3, d4, d5] }
  | _ => none }
def relayFloodRow : OpenClaim := { program := "ytpdoplmnedpdaaa", sum := "1e53331d281ee94041159969e6f39c39925efc214e6152f2e5d751371d19078e", func := "hedgerow/hedgelaw9.RelayFlood", spec := "relayFlood", inPlace := ["slices.overlaps[hedgerow/api.Entry]"], unfollowed := true, recurses := true, apart := false }
def RelayFloodSaid : Prop := relayFloodRow.holds Try.pinned (OpenSpec.ofChange relayFloodSpec)

/-- ITS FALSE NEIGHBOUR: 'it returns false'. Refute it at one input. -/
def relayFloodWrong : ChangeSpec := { name := "relayFlood", fn := fun _ => fun
  | [d1, d2, d3, d4, d5] => { results := [.lit (.bool false)], args := [d1, d2, d3, d4, d5] }
  | _ => none }
def RelayFloodWrongFalsely : Prop := relayFloodRow.holds Try.pinned (OpenSpec.ofChange relayFloodWrong)

/-- 'hedgelaw9.RelayFrames': WHATEVER THE INPUT: true; the input reads as it did. -/
def relayFramesSpec : ChangeSpec := { name := "relayFrames", fn := fun _ => fun
  | [d1, d2, d3, d4, d5] => { results := [.lit (.bool true)], args := [d1, d2, d3, d4, d5] }
  | _ => none }
def relayFramesRow : OpenClaim := { program := "ytpdoplmnedpdaaa", sum := "1e53331d281ee94041159969e6f39c39925efc214e6152f2e5d751371d19078e", func := "hedgerow/hedgelaw9.RelayFrames", spec := "relayFrames", inPlace := ["slices.overlaps[hedgerow/api.Entry]"], unfollowed := true, recurses := true, apart := false }
def RelayFramesSaid : Prop := relayFramesRow.holds Try.pinned (OpenSpec.ofChange relayFramesSpec)

/-- ITS FALSE NEIGHBOUR: 'it returns false'. Refute it at one input. -/
def relayFramesWrong : ChangeSpec := { name := "relayFrames", fn := fun _ => fun
  | [d1, d2, d3, d4, d5] => { results := [.lit (.bool false)], args := [d1, d2, d3, d4, d5] }
  | _ => none }
def RelayFramesWrongFalsely : Prop := relayFramesRow.holds Try.pinned (OpenSpec.ofChange relayFramesWrong)

/-- 'hedgelaw9.RelayTrees': WHATEVER THE INPUT: true; the input reads as it did. -/
def relayTreesSpec : ChangeSpec := { name := "relayTrees", fn := fun _ => fun
  | [d1, d2, d3, d4, d5, d6, d7] => { results := [.lit (.bool true)], args := [d1, d2, d3, d4, d5, d6, d7] }
  | _ => none }
def relayTreesRow : OpenClaim := { program := "ytpdoplmnedpdaaa", sum := "1e53331d281ee94041159969e6f39c39925efc214e6152f2e5d751371d19078e", func := "hedgerow/hedgelaw9.RelayTrees", spec := "relayTrees", inPlace := ["slices.overlaps[hedgerow/api.Entry]"], unfollowed := true, recurses := true, apart := false }
def RelayTreesSaid : Prop := relayTreesRow.holds Try.pinned (OpenSpec.ofChange relayTreesSpec)

/-- ITS FALSE NEIGHBOUR: 'it returns false'. Refute it at one input. -/
def relayTreesWrong : ChangeSpec := { name := "relayTrees", fn := fun _ => fun
  | [d1, d2, d3, d4, d5, d6, d7] => { results := [.lit (.bool false)], args := [d1, d2, d3, d4, d5, d6, d7] }
  | _ => none }
def RelayTreesWrongFalsely : Prop := relayTreesRow.holds Try.pinned (OpenSpec.ofChange relayTreesWrong)

/-- 'hedgelaw9.RelayAnswer': WHATEVER THE INPUT: true; the input reads as it did. -/
def relayAnswerSpec : ChangeSpec := { name := "relayAnswer", fn := fun _ => fun
  | [d1, d2, d3, d4, d5, d6] => { results := [.lit (.bool true)], args := [d1, d2, d3, d4, d5, d6] }
  | _ => none }
def relayAnswerRow : OpenClaim := { program := "ytpdoplmnedpdaaa", sum := "1e53331d281ee94041159969e6f39c39925efc214e6152f2e5d751371d19078e", func := "hedgerow/hedgelaw9.RelayAnswer", spec := "relayAnswer", inPlace := ["slices.overlaps[hedgerow/api.Entry]"], unfollowed := true, recurses := true, apart := false }
def RelayAnswerSaid : Prop := relayAnswerRow.holds Try.pinned (OpenSpec.ofChange relayAnswerSpec)

/-- ITS FALSE NEIGHBOUR: 'it returns false'. Refute it at one input. -/
def relayAnswerWrong : ChangeSpec := { name := "relayAnswer", fn := fun _ => fun
  | [d1, d2, d3, d4, d5, d6] => { results := [.lit (.bool false)], args := [d1, d2, d3, d4, d5, d6] }
  | _ => none }
def RelayAnswerWrongFalsely : Prop := relayAnswerRow.holds Try.pinned (OpenSpec.ofChange relayAnswerWrong)

/-- 'hedgelaw3.RegionWays': WHATEVER THE INPUT: true; the input reads as it did. -/
def regionWaysSpec : ChangeSpec := { name := "regionWays", fn := fun _ => fun
  | [d] => { results := [.lit (.bool true)], args := [d] }
  | _ => none }
def regionWaysRow : OpenClaim := { program := "ytpdoplmnedpdaaa", sum := "1e53331d281ee94041159969e6f39c39925efc214e6152f2e5d751371d19078e", func := "hedgerow/hedgelaw3.RegionWays", spec := "regionWays", unfollowed := true, recurses := true, apart := false }
def RegionWaysSaid : Prop := regionWaysRow.holds Try.pinned (OpenSpec.ofChange regionWaysSpec)

/-- ITS FALSE NEIGHBOUR: 'it returns false'. Refute it at one input. -/
def regionWaysWrong : ChangeSpec := { name := "regionWays", fn := fun _ => fun
  | [d] => { results := [.lit (.bool false)], args := [d] }
  | _ => none }
def RegionWaysWrongFalsely : Prop := regionWaysRow.holds Try.pinned (OpenSpec.ofChange regionWaysWrong)

/- THE SECOND FORM. 'bulk': how many values and letters a reading holds, each counted each time it is reached (what is shared counts as often as it is met; a slice's spare places count too). A statement '..UptoSaid' is the law's where the arguments, and the package variables that the reading takes, are together of bulk at most 1048576: NARROWER than '..Said'. Prove '..Said' where nothing that the law and all that it calls make is longer than what came in: it says more and counts as full. Else prove '..UptoSaid'. A law counts once. -/
mutual
def uptoBulk {H : Type} : DataW H → Nat
  | .lit (.string bytes) => bytes.length + 1
  | .lit _ => 1
  | .nil => 1
  | .ptr d => uptoBulk d + 1
  | .slice elems spare => uptoBulkAll elems + uptoBulkAll spare + 1
  | .agg parts => uptoBulkAll parts + 1
  | .iface _ d => uptoBulk d + 1
  | .map entries => uptoBulkEntries entries + 1
  | .held _ => 1
def uptoBulkAll {H : Type} : List (DataW H) → Nat
  | [] => 0
  | d :: r => uptoBulk d + uptoBulkAll r
def uptoBulkEntries {H : Type} : List (Lit × DataW H) → Nat
  | [] => 0
  | x :: r => uptoBulkEntry x + uptoBulkEntries r
def uptoBulkEntry {H : Type} : Lit × DataW H → Nat
  | (.string bytes, d) => bytes.length + uptoBulk d + 1
  | (_, d) => uptoBulk d + 1
 end
def uptoSmall : (H : Type) → List (DataW H) → Bool := fun _ ds => decide (uptoBulkAll ds ≤ 1048576)
def OpenSpec.upto (s : _root_.Go.ChangeSpec) : _root_.Go.OpenSpec := { _root_.Go.OpenSpec.ofChange s with cond := some uptoSmall }

/-- 'hedgelaw8.BookLearns', WHERE WHAT IT READS IS OF BULK AT MOST 1048576: true; the input reads as it did. -/
def bookLearnsUptoRow : OpenClaim := { program := "ytpdoplmnedpdaaa", sum := "1e53331d281ee94041159969e6f39c39925efc214e6152f2e5d751371d19078e", func := "hedgerow/hedgelaw8.BookLearns", spec := "bookLearns", inPlace := ["slices.overlaps[hedgerow/api.Entry]"], unfollowed := true, recurses := true, apart := false, narrowed := true }
def BookLearnsUptoSaid : Prop := bookLearnsUptoRow.holds Try.pinned (OpenSpec.upto bookLearnsSpec)

/-- 'hedgelaw8.BookOld', WHERE WHAT IT READS IS OF BULK AT MOST 1048576: true; the input reads as it did. -/
def bookOldUptoRow : OpenClaim := { program := "ytpdoplmnedpdaaa", sum := "1e53331d281ee94041159969e6f39c39925efc214e6152f2e5d751371d19078e", func := "hedgerow/hedgelaw8.BookOld", spec := "bookOld", inPlace := ["slices.overlaps[hedgerow/api.Entry]"], unfollowed := true, recurses := true, apart := false, narrowed := true }
def BookOldUptoSaid : Prop := bookOldUptoRow.holds Try.pinned (OpenSpec.upto bookOldSpec)

/-- 'hedgelaw8.BookTwice', WHERE WHAT IT READS IS OF BULK AT MOST 1048576: true; the input reads as it did. -/
def bookTwiceUptoRow : OpenClaim := { program := "ytpdoplmnedpdaaa", sum := "1e53331d281ee94041159969e6f39c39925efc214e6152f2e5d751371d19078e", func := "hedgerow/hedgelaw8.BookTwice", spec := "bookTwice", inPlace := ["slices.overlaps[hedgerow/api.Entry]"], unfollowed := true, recurses := true, apart := false, narrowed := true }
def BookTwiceUptoSaid : Prop := bookTwiceUptoRow.holds Try.pinned (OpenSpec.upto bookTwiceSpec)

/-- 'hedgelaw8.BookTells', WHERE WHAT IT READS IS OF BULK AT MOST 1048576: true; the input reads as it did. -/
def bookTellsUptoRow : OpenClaim := { program := "ytpdoplmnedpdaaa", sum := "1e53331d281ee94041159969e6f39c39925efc214e6152f2e5d751371d19078e", func := "hedgerow/hedgelaw8.BookTells", spec := "bookTells", inPlace := ["slices.overlaps[hedgerow/api.Entry]"], unfollowed := true, recurses := true, apart := false, narrowed := true }
def BookTellsUptoSaid : Prop := bookTellsUptoRow.holds Try.pinned (OpenSpec.upto bookTellsSpec)

/-- 'hedgelaw8.BookFlush', WHERE WHAT IT READS IS OF BULK AT MOST 1048576: true; the input reads as it did. -/
def bookFlushUptoRow : OpenClaim := { program := "ytpdoplmnedpdaaa", sum := "1e53331d281ee94041159969e6f39c39925efc214e6152f2e5d751371d19078e", func := "hedgerow/hedgelaw8.BookFlush", spec := "bookFlush", inPlace := ["slices.overlaps[hedgerow/api.Entry]"], unfollowed := true, recurses := true, apart := false, narrowed := true }
def BookFlushUptoSaid : Prop := bookFlushUptoRow.holds Try.pinned (OpenSpec.upto bookFlushSpec)

/-- 'hedgelaw9.RelayTells', WHERE WHAT IT READS IS OF BULK AT MOST 1048576: true; the input reads as it did. -/
def relayTellsUptoRow : OpenClaim := { program := "ytpdoplmnedpdaaa", sum := "1e53331d281ee94041159969e6f39c39925efc214e6152f2e5d751371d19078e", func := "hedgerow/hedgelaw9.RelayTells", spec := "relayTells", inPlace := ["slices.overlaps[hedgerow/api.Entry]"], unfollowed := true, recurses := true, apart := false, narrowed := true }
def RelayTellsUptoSaid : Prop := relayTellsUptoRow.holds Try.pinned (OpenSpec.upto relayTellsSpec)

/-- 'hedgelaw9.RelayGates', WHERE WHAT IT READS IS OF BULK AT MOST 1048576: true; the input reads as it did. -/
def relayGatesUptoRow : OpenClaim := { program := "ytpdoplmnedpdaaa", sum := "1e53331d281ee94041159969e6f39c39925efc214e6152f2e5d751371d19078e", func := "hedgerow/hedgelaw9.RelayGates", spec := "relayGates", inPlace := ["slices.overlaps[hedgerow/api.Entry]"], unfollowed := true, recurses := true, apart := false, narrowed := true }
def RelayGatesUptoSaid : Prop := relayGatesUptoRow.holds Try.pinned (OpenSpec.upto relayGatesSpec)

/-- 'hedgelaw9.RelayFlood', WHERE WHAT IT READS IS OF BULK AT MOST 1048576: true; the input reads as it did. -/
def relayFloodUptoRow : OpenClaim := { program := "ytpdoplmnedpdaaa", sum := "1e53331d281ee94041159969e6f39c39925efc214e6152f2e5d751371d19078e", func := "hedgerow/hedgelaw9.RelayFlood", spec := "relayFlood", inPlace := ["slices.overlaps[hedgerow/api.Entry]"], unfollowed := true, recurses := true, apart := false, narrowed := true }
def RelayFloodUptoSaid : Prop := relayFloodUptoRow.holds Try.pinned (OpenSpec.upto relayFloodSpec)

/-- 'hedgelaw9.RelayFrames', WHERE WHAT IT READS IS OF BULK AT MOST 1048576: true; the input reads as it did. -/
def relayFramesUptoRow : OpenClaim := { program := "ytpdoplmnedpdaaa", sum := "1e53331d281ee94041159969e6f39c39925efc214e6152f2e5d751371d19078e", func := "hedgerow/hedgelaw9.RelayFrames", spec := "relayFrames", inPlace := ["slices.overlaps[hedgerow/api.Entry]"], unfollowed := true, recurses := true, apart := false, narrowed := true }
def RelayFramesUptoSaid : Prop := relayFramesUptoRow.holds Try.pinned (OpenSpec.upto relayFramesSpec)

/-- 'hedgelaw9.RelayTrees', WHERE WHAT IT READS IS OF BULK AT MOST 1048576: true; the input reads as it did. -/
def relayTreesUptoRow : OpenClaim := { program := "ytpdoplmnedpdaaa", sum := "1e53331d281ee94041159969e6f39c39925efc214e6152f2e5d751371d19078e", func := "hedgerow/hedgelaw9.RelayTrees", spec := "relayTrees", inPlace := ["slices.overlaps[hedgerow/api.Entry]"], unfollowed := true, recurses := true, apart := false, narrowed := true }
def RelayTreesUptoSaid : Prop := relayTreesUptoRow.holds Try.pinned (OpenSpec.upto relayTreesSpec)

/-- 'hedgelaw9.RelayAnswer', WHERE WHAT IT READS IS OF BULK AT MOST 1048576: true; the input reads as it did. -/
def relayAnswerUptoRow : OpenClaim := { program := "ytpdoplmnedpdaaa", sum := "1e53331d281ee94041159969e6f39c39925efc214e6152f2e5d751371d19078e", func := "hedgerow/hedgelaw9.RelayAnswer", spec := "relayAnswer", inPlace := ["slices.overlaps[hedgerow/api.Entry]"], unfollowed := true, recurses := true, apart := false, narrowed := true }
def RelayAnswerUptoSaid : Prop := relayAnswerUptoRow.holds Try.pinned (OpenSpec.upto relayAnswerSpec)

/-- 'hedgelaw3.RegionWays', WHERE WHAT IT READS IS OF BULK AT MOST 1048576: true; the input reads as it did. -/
def regionWaysUptoRow : OpenClaim := { program := "ytpdoplmnedpdaaa", sum := "1e53331d281ee94041159969e6f39c39925efc214e6152f2e5d751371d19078e", func := "hedgerow/hedgelaw3.RegionWays", spec := "regionWays", unfollowed := true, recurses := true, apart := false, narrowed := true }
def RegionWaysUptoSaid : Prop := regionWaysUptoRow.holds Try.pinned (OpenSpec.upto regionWaysSpec)

end Rows
end Go.Proofs.Ytpdoplmnedpdaaa
