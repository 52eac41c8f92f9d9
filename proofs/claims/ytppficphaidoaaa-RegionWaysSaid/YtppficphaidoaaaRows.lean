/-
  No cell of these rows narrows 'for every input' (looked for: loops, veiled, ifaces, maps, wideKeys, modest, calm, conditions, laid).
  DERIVED. THE GIVEN ROWS OF THIS SEAT. 8 by the template 'for every input the law returns true; each argument reads behind the call as it read before'; 0 by the template 'total and deterministic' (their statements: YtppficphaidoaaaTotals.lean).
  GIVEN WITH THE SEED: the statements are not yours to turn. If you find one false, say at which input.
  Laid BY PROGRAM, IN A SANDBOX (cutbox-rows.mjs): the forced cells as the released guide's own fill.sh prints them over the translation c81c6fb9542bb49f… (all of the seat's roots in one cut). By AI agents, Wed Nov 11 2026. No macro, syntax, notation, axiom, sorry.
-/
import Derived.Test.YtppficphaidoaaaChecked
import GoSem.Claim
import GoSem.ClaimJoined
import GoSem.ClaimMapViews
import Derived.JoinedTies
import Derived.KernelRfl
namespace Go.Proofs.Ytppficphaidoaaa
/- THE CELL 'sum', in the pinned program and in every row, IS THE sha256 OF THE DUMP (.gsa) THAT YtppficphaidoaaaProg.lean LOADS. Nothing in Lean hashes anything: it is a label: what it is worth is what the hold of that sum in a sandbox is worth. -/
noncomputable def Try.pinned : Pinned := { name := "ytppficphaidoaaa", sum := "c81c6fb9542bb49ffc606d95b90ff848218d7405aad000422347f76a2c9bb325", checked := Try.checked }
namespace Rows
def none {H : Type} : Left H := { results := [], args := [] }

/-- 'hedgelaw3.RegionWays': WHATEVER THE INPUT: true; the input reads as it did. -/
def regionWaysSpec : ChangeSpec := { name := "regionWays", fn := fun _ => fun
  | [d] => { results := [.lit (.bool true)], args := [d] }
  | _ => none }
def regionWaysRow : OpenClaim := { program := "ytppficphaidoaaa", sum := "c81c6fb9542bb49ffc606d95b90ff848218d7405aad000422347f76a2c9bb325", func := "hedgerow/hedgelaw3.RegionWays", spec := "regionWays", unfollowed := true, recurses := true, apart := false }
def RegionWaysSaid : Prop := regionWaysRow.holds Try.pinned (OpenSpec.ofChange regionWaysSpec)

/-- ITS FALSE NEIGHBOUR: 'it returns false'. Refute it at one input. -/
def regionWaysWrong : ChangeSpec := { name := "regionWays", fn := fun _ => fun
  | [d] => { results := [.lit (.bool false)], args := [d] }
  | _ => none }
def RegionWaysWrongFalsely : Prop := regionWaysRow.holds Try.pinned (OpenSpec.ofChange regionWaysWrong)

/-- 'hedgelaw3.RegionTells': WHATEVER THE INPUT: true; the input reads as it did. -/
def regionTellsSpec : ChangeSpec := { name := "regionTells", fn := fun _ => fun
  | [d1, d2, d3] => { results := [.lit (.bool true)], args := [d1, d2, d3] }
  | _ => none }
def regionTellsRow : OpenClaim := { program := "ytppficphaidoaaa", sum := "c81c6fb9542bb49ffc606d95b90ff848218d7405aad000422347f76a2c9bb325", func := "hedgerow/hedgelaw3.RegionTells", spec := "regionTells", unfollowed := true, recurses := true, apart := false }
def RegionTellsSaid : Prop := regionTellsRow.holds Try.pinned (OpenSpec.ofChange regionTellsSpec)

/-- ITS FALSE NEIGHBOUR: 'it returns false'. Refute it at one input. -/
def regionTellsWrong : ChangeSpec := { name := "regionTells", fn := fun _ => fun
  | [d1, d2, d3] => { results := [.lit (.bool false)], args := [d1, d2, d3] }
  | _ => none }
def RegionTellsWrongFalsely : Prop := regionTellsRow.holds Try.pinned (OpenSpec.ofChange regionTellsWrong)

/-- 'hedgelaw3.RegionSame': WHATEVER THE INPUT: true; the input reads as it did. -/
def regionSameSpec : ChangeSpec := { name := "regionSame", fn := fun _ => fun
  | [d1, d2] => { results := [.lit (.bool true)], args := [d1, d2] }
  | _ => none }
def regionSameRow : OpenClaim := { program := "ytppficphaidoaaa", sum := "c81c6fb9542bb49ffc606d95b90ff848218d7405aad000422347f76a2c9bb325", func := "hedgerow/hedgelaw3.RegionSame", spec := "regionSame", unfollowed := true, recurses := true, apart := false }
def RegionSameSaid : Prop := regionSameRow.holds Try.pinned (OpenSpec.ofChange regionSameSpec)

/-- ITS FALSE NEIGHBOUR: 'it returns false'. Refute it at one input. -/
def regionSameWrong : ChangeSpec := { name := "regionSame", fn := fun _ => fun
  | [d1, d2] => { results := [.lit (.bool false)], args := [d1, d2] }
  | _ => none }
def RegionSameWrongFalsely : Prop := regionSameRow.holds Try.pinned (OpenSpec.ofChange regionSameWrong)

/-- 'hedgelaw8.BookLearns': WHATEVER THE INPUT: true; the input reads as it did. -/
def bookLearnsSpec : ChangeSpec := { name := "bookLearns", fn := fun _ => fun
  | [d1, d2, d3, d4, d5] => { results := [.lit (.bool true)], args := [d1, d2, d3, d4, d5] }
  | _ => none }
def bookLearnsRow : OpenClaim := { program := "ytppficphaidoaaa", sum := "c81c6fb9542bb49ffc606d95b90ff848218d7405aad000422347f76a2c9bb325", func := "hedgerow/hedgelaw8.BookLearns", spec := "bookLearns", inPlace := ["slices.overlaps[hedgerow/api.Entry]"], unfollowed := true, recurses := true, apart := false }
def BookLearnsSaid : Prop := bookLearnsRow.holds Try.pinned (OpenSpec.ofChange bookLearnsSpec)

/-- ITS FALSE NEIGHBOUR: 'it returns false'. Refute it at one input. -/
def bookLearnsWrong : ChangeSpec := { name := "bookLearns", fn := fun _ => fun
  | [d1, d2, d3, d4, d5] => { results := [.lit (.bool false)], args := [d1, d2, d3, d4, d5] }
  | _ => none }
def BookLearnsWrongFalsely : Prop := bookLearnsRow.holds Try.pinned (OpenSpec.ofChange bookLearnsWrong)

/-- 'hedgelaw8.BookOld': WHATEVER THE INPUT: true; the input reads as it did. -/
def bookOldSpec : ChangeSpec := { name := "bookOld", fn := fun _ => fun
  | [d1, d2, d3] => { results := [.lit (.bool true)], args := [d1, d2, d3] }
  | _ => none }
def bookOldRow : OpenClaim := { program := "ytppficphaidoaaa", sum := "c81c6fb9542bb49ffc606d95b90ff848218d7405aad000422347f76a2c9bb325", func := "hedgerow/hedgelaw8.BookOld", spec := "bookOld", inPlace := ["slices.overlaps[hedgerow/api.Entry]"], unfollowed := true, recurses := true, apart := false }
def BookOldSaid : Prop := bookOldRow.holds Try.pinned (OpenSpec.ofChange bookOldSpec)

/-- ITS FALSE NEIGHBOUR: 'it returns false'. Refute it at one input. -/
def bookOldWrong : ChangeSpec := { name := "bookOld", fn := fun _ => fun
  | [d1, d2, d3] => { results := [.lit (.bool false)], args := [d1, d2, d3] }
  | _ => none }
def BookOldWrongFalsely : Prop := bookOldRow.holds Try.pinned (OpenSpec.ofChange bookOldWrong)

/-- 'hedgelaw8.BookTwice': WHATEVER THE INPUT: true; the input reads as it did. -/
def bookTwiceSpec : ChangeSpec := { name := "bookTwice", fn := fun _ => fun
  | [d1, d2, d3, d4, d5] => { results := [.lit (.bool true)], args := [d1, d2, d3, d4, d5] }
  | _ => none }
def bookTwiceRow : OpenClaim := { program := "ytppficphaidoaaa", sum := "c81c6fb9542bb49ffc606d95b90ff848218d7405aad000422347f76a2c9bb325", func := "hedgerow/hedgelaw8.BookTwice", spec := "bookTwice", inPlace := ["slices.overlaps[hedgerow/api.Entry]"], unfollowed := true, recurses := true, apart := false }
def BookTwiceSaid : Prop := bookTwiceRow.holds Try.pinned (OpenSpec.ofChange bookTwiceSpec)

/-- ITS FALSE NEIGHBOUR: 'it returns false'. Refute it at one input. -/
def bookTwiceWrong : ChangeSpec := { name := "bookTwice", fn := fun _ => fun
  | [d1, d2, d3, d4, d5] => { results := [.lit (.bool false)], args := [d1, d2, d3, d4, d5] }
  | _ => none }
def BookTwiceWrongFalsely : Prop := bookTwiceRow.holds Try.pinned (OpenSpec.ofChange bookTwiceWrong)

/-- 'hedgelaw8.BookTells': WHATEVER THE INPUT: true; the input reads as it did. -/
def bookTellsSpec : ChangeSpec := { name := "bookTells", fn := fun _ => fun
  | [d1, d2, d3, d4, d5, d6] => { results := [.lit (.bool true)], args := [d1, d2, d3, d4, d5, d6] }
  | _ => none }
def bookTellsRow : OpenClaim := { program := "ytppficphaidoaaa", sum := "c81c6fb9542bb49ffc606d95b90ff848218d7405aad000422347f76a2c9bb325", func := "hedgerow/hedgelaw8.BookTells", spec := "bookTells", inPlace := ["slices.overlaps[hedgerow/api.Entry]"], unfollowed := true, recurses := true, apart := false }
def BookTellsSaid : Prop := bookTellsRow.holds Try.pinned (OpenSpec.ofChange bookTellsSpec)

/-- ITS FALSE NEIGHBOUR: 'it returns false'. Refute it at one input. -/
def bookTellsWrong : ChangeSpec := { name := "bookTells", fn := fun _ => fun
  | [d1, d2, d3, d4, d5, d6] => { results := [.lit (.bool false)], args := [d1, d2, d3, d4, d5, d6] }
  | _ => none }
def BookTellsWrongFalsely : Prop := bookTellsRow.holds Try.pinned (OpenSpec.ofChange bookTellsWrong)

/-- 'hedgelaw8.BookFlush': WHATEVER THE INPUT: true; the input reads as it did. -/
def bookFlushSpec : ChangeSpec := { name := "bookFlush", fn := fun _ => fun
  | [d1, d2, d3] => { results := [.lit (.bool true)], args := [d1, d2, d3] }
  | _ => none }
def bookFlushRow : OpenClaim := { program := "ytppficphaidoaaa", sum := "c81c6fb9542bb49ffc606d95b90ff848218d7405aad000422347f76a2c9bb325", func := "hedgerow/hedgelaw8.BookFlush", spec := "bookFlush", inPlace := ["slices.overlaps[hedgerow/api.Entry]"], unfollowed := true, recurses := true, apart := false }
def BookFlushSaid : Prop := bookFlushRow.holds Try.pinned (OpenSpec.ofChange bookFlushSpec)

/-- ITS FALSE NEIGHBOUR: 'it returns false'. Refute it at one input. -/
def bookFlushWrong : ChangeSpec := { name := "bookFlush", fn := fun _ => fun
  | [d1, d2, d3] => { results := [.lit (.bool false)], args := [d1, d2, d3] }
  | _ => none }
def BookFlushWrongFalsely : Prop := bookFlushRow.holds Try.pinned (OpenSpec.ofChange bookFlushWrong)

/- THE SECOND FORM. 'bulk': how many values and letters a reading holds, each counted each time it is reached (what is shared counts as often as it is met; a slice's spare places count too). A statement '..UptoSaid' is the law's where the arguments, and the package variables that the reading takes, are together of bulk at most 1048576: NARROWER than '..Said'. Prove '..Said' where nothing that the law and all that it calls make is longer than what came in: it says more and counts as full. Else prove '..UptoSaid'. A law counts once. -/
mutual
def uptoBulk {H : Type} : DataW H → Nat
  | .lit (.string bytes) => bytes.length + 1
  | .lit _ => 1
  | .nil => 1
  | .ptr d => uptoBulk d + 1
  | .slice elems spare => uptoBulkAll elems + uptoBulkAll spare + 1
  | .agg parts => uptoBulkAll parts + 1
  | .iface _ d => uptoBulk d + 1
  | .map entries => uptoBulkEntries entries + 1
  | .held _ => 1
def uptoBulkAll {H : Type} : List (DataW H) → Nat
  | [] => 0
  | d :: r => uptoBulk d + uptoBulkAll r
def uptoBulkEntries {H : Type} : List (Lit × DataW H) → Nat
  | [] => 0
  | x :: r => uptoBulkEntry x + uptoBulkEntries r
def uptoBulkEntry {H : Type} : Lit × DataW H → Nat
  | (.string bytes, d) => bytes.length + uptoBulk d + 1
  | (_, d) => uptoBulk d + 1
 end
def uptoSmall : (H : Type) → List (DataW H) → Bool := fun _ ds => decide (uptoBulkAll ds ≤ 1048576)
def OpenSpec.upto (s : _root_.Go.ChangeSpec) : _root_.Go.OpenSpec := { _root_.Go.OpenSpec.ofChange s with cond := some uptoSmall }

/-- 'hedgelaw3.RegionWays', WHERE WHAT IT READS IS OF BULK AT MOST 1048576: true; the input reads as it did. -/
def regionWaysUptoRow : OpenClaim := { program := "ytppficphaidoaaa", sum := "c81c6fb9542bb49ffc606d95b90ff848218d7405aad000422347f76a2c9bb325", func := "hedgerow/hedgelaw3.RegionWays", spec := "regionWays", unfollowed := true, recurses := true, apart := false, narrowed := true }
def RegionWaysUptoSaid : Prop := regionWaysUptoRow.holds Try.pinned (OpenSpec.upto regionWaysSpec)

/-- 'hedgelaw3.RegionTells', WHERE WHAT IT READS IS OF BULK AT MOST 1048576: true; the input reads as it did. -/
def regionTellsUptoRow : OpenClaim := { program := "ytppficphaidoaaa", sum := "c81c6fb9542bb49ffc606d95b90ff848218d7405aad000422347f76a2c9bb325", func := "hedgerow/hedgelaw3.RegionTells", spec := "regionTells", unfollowed := true, recurses := true, apart := false, narrowed := true }
def RegionTellsUptoSaid : Prop := regionTellsUptoRow.holds Try.pinned (OpenSpec.upto regionTellsSpec)

/-- 'hedgelaw3.RegionSame', WHERE WHAT IT READS IS OF BULK AT MOST 1048576: true; the input reads as it did. -/
def regionSameUptoRow : OpenClaim := { program := "ytppficphaidoaaa", sum := "c81c6fb9542bb49ffc606d95b90ff848218d7405aad000422347f76a2c9bb325", func := "hedgerow/hedgelaw3.RegionSame", spec := "regionSame", unfollowed := true, recurses := true, apart := false, narrowed := true }
def RegionSameUptoSaid : Prop := regionSameUptoRow.holds Try.pinned (OpenSpec.upto regionSameSpec)

/-- 'hedgelaw8.BookLearns', WHERE WHAT IT READS IS OF BULK AT MOST 1048576: true; the input reads as it did. -/
def bookLearnsUptoRow : OpenClaim := { program := "ytppficphaidoaaa", sum := "c81c6fb9542bb49ffc606d95b90ff848218d7405aad000422347f76a2c9bb325", func := "hedgerow/hedgelaw8.BookLearns", spec := "bookLearns", inPlace := ["slices.overlaps[hedgerow/api.Entry]"], unfollowed := true, recurses := true, apart := false, narrowed := true }
def BookLearnsUptoSaid : Prop := bookLearnsUptoRow.holds Try.pinned (OpenSpec.upto bookLearnsSpec)

/-- 'hedgelaw8.BookOld', WHERE WHAT IT READS IS OF BULK AT MOST 1048576: true; the input reads as it did. -/
def bookOldUptoRow : OpenClaim := { program := "ytppficphaidoaaa", sum := "c81c6fb9542bb49ffc606d95b90ff848218d7405aad000422347f76a2c9bb325", func := "hedgerow/hedgelaw8.BookOld", spec := "bookOld", inPlace := ["slices.overlaps[hedgerow/api.Entry]"], unfollowed := true, recurses := true, apart := false, narrowed := true }
def BookOldUptoSaid : Prop := bookOldUptoRow.holds Try.pinned (OpenSpec.upto bookOldSpec)

/-- 'hedgelaw8.BookTwice', WHERE WHAT IT READS IS OF BULK AT MOST 1048576: true; the input reads as it did. -/
def bookTwiceUptoRow : OpenClaim := { program := "ytppficphaidoaaa", sum := "c81c6fb9542bb49ffc606d95b90ff848218d7405aad000422347f76a2c9bb325", func := "hedgerow/hedgelaw8.BookTwice", spec := "bookTwice", inPlace := ["slices.overlaps[hedgerow/api.Entry]"], unfollowed := true, recurses := true, apart := false, narrowed := true }
def BookTwiceUptoSaid : Prop := bookTwiceUptoRow.holds Try.pinned (OpenSpec.upto bookTwiceSpec)

/-- 'hedgelaw8.BookTells', WHERE WHAT IT READS IS OF BULK AT MOST 1048576: true; the input reads as it did. -/
def bookTellsUptoRow : OpenClaim := { program := "ytppficphaidoaaa", sum := "c81c6fb9542bb49ffc606d95b90ff848218d7405aad000422347f76a2c9bb325", func := "hedgerow/hedgelaw8.BookTells", spec := "bookTells", inPlace := ["slices.overlaps[hedgerow/api.Entry]"], unfollowed := true, recurses := true, apart := false, narrowed := true }
def BookTellsUptoSaid : Prop := bookTellsUptoRow.holds Try.pinned (OpenSpec.upto bookTellsSpec)

/-- 'hedgelaw8.BookFlush', WHERE WHAT IT READS IS OF BULK AT MOST 1048576: true; the input reads as it did. -/
def bookFlushUptoRow : OpenClaim := { program := "ytppficphaidoaaa", sum := "c81c6fb9542bb49ffc606d95b90ff848218d7405aad000422347f76a2c9bb325", func := "hedgerow/hedgelaw8.BookFlush", spec := "bookFlush", inPlace := ["slices.overlaps[hedgerow/api.Entry]"], unfollowed := true, recurses := true, apart := false, narrowed := true }
def BookFlushUptoSaid : Prop := bookFlushUptoRow.holds Try.pinned (OpenSpec.upto bookFlushSpec)

end Rows
end Go.Proofs.Ytppficphaidoaaa
