/-
  No cell of these rows narrows 'for every input' (looked for: loops, veiled, ifaces, maps, wideKeys, modest, calm, conditions, laid).
  DERIVED. THE GIVEN ROWS OF THIS SEAT. 12 by the template 'for every input the law returns true; each argument reads behind the call as it read before'; 0 by the template 'total and deterministic' (their statements: YtjniepfecgcmaaaTotals.lean).
  GIVEN WITH THE SEED: the statements are not yours to turn. If you find one false, say at which input.
  Laid BY PROGRAM, IN A SANDBOX (cutbox-rows.mjs): the forced cells as the released guide's own fill.sh prints them over the translation fd78428ec3a244dc… (all of the seat's roots in one cut). By AI agents, Wed Nov 11 2026. No macro, syntax, notation, axiom, sorry.
-/
import Derived.Test.YtjniepfecgcmaaaChecked
import GoSem.Claim
import GoSem.ClaimJoined
import GoSem.ClaimMapViews
import Derived.JoinedTies
import Derived.KernelRfl
namespace Go.Proofs.Ytjniepfecgcmaaa
/- THE CELL 'sum', in the pinned program and in every row, IS THE sha256 OF THE DUMP (.gsa) THAT YtjniepfecgcmaaaProg.lean LOADS. Nothing in Lean hashes anything: it is a label: what it is worth is what the hold of that sum in a sandbox is worth. -/
noncomputable def Try.pinned : Pinned := { name := "ytjniepfecgcmaaa", sum := "fd78428ec3a244dc2a861b7f287c0015fb32a80844396c94fdf2c73f94a1a2e1", checked := Try.checked }
namespace Rows
def none {H : Type} : Left H := { results := [], args := [] }

/-- 'hedgelaw4.HelloTells': WHATEVER THE INPUT: true; the input reads as it did. -/
def helloTellsSpec : ChangeSpec := { name := "helloTells", fn := fun _ => fun
  | [d1, d2] => { results := [.lit (.bool true)], args := [d1, d2] }
  | _ => none }
def helloTellsRow : OpenClaim := { program := "ytjniepfecgcmaaa", sum := "fd78428ec3a244dc2a861b7f287c0015fb32a80844396c94fdf2c73f94a1a2e1", func := "hedgerow/hedgelaw4.HelloTells", spec := "helloTells", apart := false }
def HelloTellsSaid : Prop := helloTellsRow.holds Try.pinned (OpenSpec.ofChange helloTellsSpec)

/-- ITS FALSE NEIGHBOUR: 'it returns false'. Refute it at one input. -/
def helloTellsWrong : ChangeSpec := { name := "helloTells", fn := fun _ => fun
  | [d1, d2] => { results := [.lit (.bool false)], args := [d1, d2] }
  | _ => none }
def HelloTellsWrongFalsely : Prop := helloTellsRow.holds Try.pinned (OpenSpec.ofChange helloTellsWrong)

/-- 'hedgelaw4.HelloTurns': WHATEVER THE INPUT: true; the input reads as it did. -/
def helloTurnsSpec : ChangeSpec := { name := "helloTurns", fn := fun _ => fun
  | [d1, d2] => { results := [.lit (.bool true)], args := [d1, d2] }
  | _ => none }
def helloTurnsRow : OpenClaim := { program := "ytjniepfecgcmaaa", sum := "fd78428ec3a244dc2a861b7f287c0015fb32a80844396c94fdf2c73f94a1a2e1", func := "hedgerow/hedgelaw4.HelloTurns", spec := "helloTurns", apart := false }
def HelloTurnsSaid : Prop := helloTurnsRow.holds Try.pinned (OpenSpec.ofChange helloTurnsSpec)

/-- ITS FALSE NEIGHBOUR: 'it returns false'. Refute it at one input. -/
def helloTurnsWrong : ChangeSpec := { name := "helloTurns", fn := fun _ => fun
  | [d1, d2] => { results := [.lit (.bool false)], args := [d1, d2] }
  | _ => none }
def HelloTurnsWrongFalsely : Prop := helloTurnsRow.holds Try.pinned (OpenSpec.ofChange helloTurnsWrong)

/-- 'hedgelaw4.HelloMore': WHATEVER THE INPUT: true; the input reads as it did. -/
def helloMoreSpec : ChangeSpec := { name := "helloMore", fn := fun _ => fun
  | [d1, d2] => { results := [.lit (.bool true)], args := [d1, d2] }
  | _ => none }
def helloMoreRow : OpenClaim := { program := "ytjniepfecgcmaaa", sum := "fd78428ec3a244dc2a861b7f287c0015fb32a80844396c94fdf2c73f94a1a2e1", func := "hedgerow/hedgelaw4.HelloMore", spec := "helloMore", apart := false }
def HelloMoreSaid : Prop := helloMoreRow.holds Try.pinned (OpenSpec.ofChange helloMoreSpec)

/-- ITS FALSE NEIGHBOUR: 'it returns false'. Refute it at one input. -/
def helloMoreWrong : ChangeSpec := { name := "helloMore", fn := fun _ => fun
  | [d1, d2] => { results := [.lit (.bool false)], args := [d1, d2] }
  | _ => none }
def HelloMoreWrongFalsely : Prop := helloMoreRow.holds Try.pinned (OpenSpec.ofChange helloMoreWrong)

/-- 'hedgelaw2.FrameTells': WHATEVER THE INPUT: true; the input reads as it did. -/
def frameTellsSpec : ChangeSpec := { name := "frameTells", fn := fun _ => fun
  | [d1, d2] => { results := [.lit (.bool true)], args := [d1, d2] }
  | _ => none }
def frameTellsRow : OpenClaim := { program := "ytjniepfecgcmaaa", sum := "fd78428ec3a244dc2a861b7f287c0015fb32a80844396c94fdf2c73f94a1a2e1", func := "hedgerow/hedgelaw2.FrameTells", spec := "frameTells", apart := false }
def FrameTellsSaid : Prop := frameTellsRow.holds Try.pinned (OpenSpec.ofChange frameTellsSpec)

/-- ITS FALSE NEIGHBOUR: 'it returns false'. Refute it at one input. -/
def frameTellsWrong : ChangeSpec := { name := "frameTells", fn := fun _ => fun
  | [d1, d2] => { results := [.lit (.bool false)], args := [d1, d2] }
  | _ => none }
def FrameTellsWrongFalsely : Prop := frameTellsRow.holds Try.pinned (OpenSpec.ofChange frameTellsWrong)

/-- 'hedgelaw2.FrameTurns': WHATEVER THE INPUT: true; the input reads as it did. -/
def frameTurnsSpec : ChangeSpec := { name := "frameTurns", fn := fun _ => fun
  | [d1, d2] => { results := [.lit (.bool true)], args := [d1, d2] }
  | _ => none }
def frameTurnsRow : OpenClaim := { program := "ytjniepfecgcmaaa", sum := "fd78428ec3a244dc2a861b7f287c0015fb32a80844396c94fdf2c73f94a1a2e1", func := "hedgerow/hedgelaw2.FrameTurns", spec := "frameTurns", apart := false }
def FrameTurnsSaid : Prop := frameTurnsRow.holds Try.pinned (OpenSpec.ofChange frameTurnsSpec)

/-- ITS FALSE NEIGHBOUR: 'it returns false'. Refute it at one input. -/
def frameTurnsWrong : ChangeSpec := { name := "frameTurns", fn := fun _ => fun
  | [d1, d2] => { results := [.lit (.bool false)], args := [d1, d2] }
  | _ => none }
def FrameTurnsWrongFalsely : Prop := frameTurnsRow.holds Try.pinned (OpenSpec.ofChange frameTurnsWrong)

/-- 'hedgelaw2.FrameTags': WHATEVER THE INPUT: true; the input reads as it did. -/
def frameTagsSpec : ChangeSpec := { name := "frameTags", fn := fun _ => fun
  | [d1, d2, d3] => { results := [.lit (.bool true)], args := [d1, d2, d3] }
  | _ => none }
def frameTagsRow : OpenClaim := { program := "ytjniepfecgcmaaa", sum := "fd78428ec3a244dc2a861b7f287c0015fb32a80844396c94fdf2c73f94a1a2e1", func := "hedgerow/hedgelaw2.FrameTags", spec := "frameTags", apart := false }
def FrameTagsSaid : Prop := frameTagsRow.holds Try.pinned (OpenSpec.ofChange frameTagsSpec)

/-- ITS FALSE NEIGHBOUR: 'it returns false'. Refute it at one input. -/
def frameTagsWrong : ChangeSpec := { name := "frameTags", fn := fun _ => fun
  | [d1, d2, d3] => { results := [.lit (.bool false)], args := [d1, d2, d3] }
  | _ => none }
def FrameTagsWrongFalsely : Prop := frameTagsRow.holds Try.pinned (OpenSpec.ofChange frameTagsWrong)

/-- 'hedgelaw2.FrameSize': WHATEVER THE INPUT: true; the input reads as it did. -/
def frameSizeSpec : ChangeSpec := { name := "frameSize", fn := fun _ => fun
  | [d1, d2] => { results := [.lit (.bool true)], args := [d1, d2] }
  | _ => none }
def frameSizeRow : OpenClaim := { program := "ytjniepfecgcmaaa", sum := "fd78428ec3a244dc2a861b7f287c0015fb32a80844396c94fdf2c73f94a1a2e1", func := "hedgerow/hedgelaw2.FrameSize", spec := "frameSize", apart := false }
def FrameSizeSaid : Prop := frameSizeRow.holds Try.pinned (OpenSpec.ofChange frameSizeSpec)

/-- ITS FALSE NEIGHBOUR: 'it returns false'. Refute it at one input. -/
def frameSizeWrong : ChangeSpec := { name := "frameSize", fn := fun _ => fun
  | [d1, d2] => { results := [.lit (.bool false)], args := [d1, d2] }
  | _ => none }
def FrameSizeWrongFalsely : Prop := frameSizeRow.holds Try.pinned (OpenSpec.ofChange frameSizeWrong)

/-- 'hedgelaw1.SumTells': WHATEVER THE INPUT: true; the input reads as it did. -/
def sumTellsSpec : ChangeSpec := { name := "sumTells", fn := fun _ => fun
  | [d1, d2] => { results := [.lit (.bool true)], args := [d1, d2] }
  | _ => none }
def sumTellsRow : OpenClaim := { program := "ytjniepfecgcmaaa", sum := "fd78428ec3a244dc2a861b7f287c0015fb32a80844396c94fdf2c73f94a1a2e1", func := "hedgerow/hedgelaw1.SumTells", spec := "sumTells", unfollowed := true, recurses := true, apart := false }
def SumTellsSaid : Prop := sumTellsRow.holds Try.pinned (OpenSpec.ofChange sumTellsSpec)

/-- ITS FALSE NEIGHBOUR: 'it returns false'. Refute it at one input. -/
def sumTellsWrong : ChangeSpec := { name := "sumTells", fn := fun _ => fun
  | [d1, d2] => { results := [.lit (.bool false)], args := [d1, d2] }
  | _ => none }
def SumTellsWrongFalsely : Prop := sumTellsRow.holds Try.pinned (OpenSpec.ofChange sumTellsWrong)

/-- 'hedgelaw1.SumKnown': WHATEVER THE INPUT: true; the input reads as it did. -/
def sumKnownSpec : ChangeSpec := { name := "sumKnown", fn := fun _ => fun
  | [] => { results := [.lit (.bool true)], args := [] }
  | _ => none }
def sumKnownRow : OpenClaim := { program := "ytjniepfecgcmaaa", sum := "fd78428ec3a244dc2a861b7f287c0015fb32a80844396c94fdf2c73f94a1a2e1", func := "hedgerow/hedgelaw1.SumKnown", spec := "sumKnown", unfollowed := true, recurses := true, apart := false }
def SumKnownSaid : Prop := sumKnownRow.holds Try.pinned (OpenSpec.ofChange sumKnownSpec)

/-- ITS FALSE NEIGHBOUR: 'it returns false'. Refute it at one input. -/
def sumKnownWrong : ChangeSpec := { name := "sumKnown", fn := fun _ => fun
  | [] => { results := [.lit (.bool false)], args := [] }
  | _ => none }
def SumKnownWrongFalsely : Prop := sumKnownRow.holds Try.pinned (OpenSpec.ofChange sumKnownWrong)

/-- 'hedgelaw1.SumKeys': WHATEVER THE INPUT: true; the input reads as it did. -/
def sumKeysSpec : ChangeSpec := { name := "sumKeys", fn := fun _ => fun
  | [d1, d2, d3] => { results := [.lit (.bool true)], args := [d1, d2, d3] }
  | _ => none }
def sumKeysRow : OpenClaim := { program := "ytjniepfecgcmaaa", sum := "fd78428ec3a244dc2a861b7f287c0015fb32a80844396c94fdf2c73f94a1a2e1", func := "hedgerow/hedgelaw1.SumKeys", spec := "sumKeys", unfollowed := true, recurses := true, apart := false }
def SumKeysSaid : Prop := sumKeysRow.holds Try.pinned (OpenSpec.ofChange sumKeysSpec)

/-- ITS FALSE NEIGHBOUR: 'it returns false'. Refute it at one input. -/
def sumKeysWrong : ChangeSpec := { name := "sumKeys", fn := fun _ => fun
  | [d1, d2, d3] => { results := [.lit (.bool false)], args := [d1, d2, d3] }
  | _ => none }
def SumKeysWrongFalsely : Prop := sumKeysRow.holds Try.pinned (OpenSpec.ofChange sumKeysWrong)

/-- 'hedgelaw1.SumAgain': WHATEVER THE INPUT: true; the input reads as it did. -/
def sumAgainSpec : ChangeSpec := { name := "sumAgain", fn := fun _ => fun
  | [d1, d2] => { results := [.lit (.bool true)], args := [d1, d2] }
  | _ => none }
def sumAgainRow : OpenClaim := { program := "ytjniepfecgcmaaa", sum := "fd78428ec3a244dc2a861b7f287c0015fb32a80844396c94fdf2c73f94a1a2e1", func := "hedgerow/hedgelaw1.SumAgain", spec := "sumAgain", unfollowed := true, recurses := true, apart := false }
def SumAgainSaid : Prop := sumAgainRow.holds Try.pinned (OpenSpec.ofChange sumAgainSpec)

/-- ITS FALSE NEIGHBOUR: 'it returns false'. Refute it at one input. -/
def sumAgainWrong : ChangeSpec := { name := "sumAgain", fn := fun _ => fun
  | [d1, d2] => { results := [.lit (.bool false)], args := [d1, d2] }
  | _ => none }
def SumAgainWrongFalsely : Prop := sumAgainRow.holds Try.pinned (OpenSpec.ofChange sumAgainWrong)

/-- 'hedgetop.Names': WHATEVER THE INPUT: true; the input reads as it did. -/
def namesSpec : ChangeSpec := { name := "names", fn := fun _ => fun
  | [] => { results := [.lit (.bool true)], args := [] }
  | _ => none }
def namesRow : OpenClaim := { program := "ytjniepfecgcmaaa", sum := "fd78428ec3a244dc2a861b7f287c0015fb32a80844396c94fdf2c73f94a1a2e1", func := "hedgerow/hedgetop.Names", spec := "names", apart := false }
def NamesSaid : Prop := namesRow.holds Try.pinned (OpenSpec.ofChange namesSpec)

/-- ITS FALSE NEIGHBOUR: 'it returns false'. Refute it at one input. -/
def namesWrong : ChangeSpec := { name := "names", fn := fun _ => fun
  | [] => { results := [.lit (.bool false)], args := [] }
  | _ => none }
def NamesWrongFalsely : Prop := namesRow.holds Try.pinned (OpenSpec.ofChange namesWrong)

/- THE SECOND FORM. 'bulk': how many values and letters a reading holds, each counted each time it is reached (what is shared counts as often as it is met; a slice's spare places count too). A statement '..UptoSaid' is the law's where the arguments, and the package variables that the reading takes, are together of bulk at most 1048576: NARROWER than '..Said'. Prove '..Said' where nothing that the law and all that it calls make is longer than what came in: it says more and counts as full. Else prove '..UptoSaid'. A law counts once. -/
mutual
def uptoBulk {H : Type} : DataW H → Nat
  | .lit (.string bytes) => bytes.length + 1
  | .lit _ => 1
  | .nil => 1
  | .ptr d => uptoBulk d + 1
  | .slice elems spare => uptoBulkAll elems + uptoBulkAll spare + 1
  | .agg parts => uptoBulkAll parts + 1
  | .iface _ d => uptoBulk d + 1
  | .map entries => uptoBulkEntries entries + 1
  | .held _ => 1
def uptoBulkAll {H : Type} : List (DataW H) → Nat
  | [] => 0
  | d :: r => uptoBulk d + uptoBulkAll r
def uptoBulkEntries {H : Type} : List (Lit × DataW H) → Nat
  | [] => 0
  | x :: r => uptoBulkEntry x + uptoBulkEntries r
def uptoBulkEntry {H : Type} : Lit × DataW H → Nat
  | (.string bytes, d) => bytes.length + uptoBulk d + 1
  | (_, d) => uptoBulk d + 1
 end
def uptoSmall : (H : Type) → List (DataW H) → Bool := fun _ ds => decide (uptoBulkAll ds ≤ 1048576)
def OpenSpec.upto (s : _root_.Go.ChangeSpec) : _root_.Go.OpenSpec := { _root_.Go.OpenSpec.ofChange s with cond := some uptoSmall }

/-- 'hedgelaw4.HelloTells', WHERE WHAT IT READS IS OF BULK AT MOST 1048576: true; the input reads as it did. -/
def helloTellsUptoRow : OpenClaim := { program := "ytjniepfecgcmaaa", sum := "fd78428ec3a244dc2a861b7f287c0015fb32a80844396c94fdf2c73f94a1a2e1", func := "hedgerow/hedgelaw4.HelloTells", spec := "helloTells", apart := false, narrowed := true }
def HelloTellsUptoSaid : Prop := helloTellsUptoRow.holds Try.pinned (OpenSpec.upto helloTellsSpec)

/-- 'hedgelaw4.HelloTurns', WHERE WHAT IT READS IS OF BULK AT MOST 1048576: true; the input reads as it did. -/
def helloTurnsUptoRow : OpenClaim := { program := "ytjniepfecgcmaaa", sum := "fd78428ec3a244dc2a861b7f287c0015fb32a80844396c94fdf2c73f94a1a2e1", func := "hedgerow/hedgelaw4.HelloTurns", spec := "helloTurns", apart := false, narrowed := true }
def HelloTurnsUptoSaid : Prop := helloTurnsUptoRow.holds Try.pinned (OpenSpec.upto helloTurnsSpec)

/-- 'hedgelaw4.HelloMore', WHERE WHAT IT READS IS OF BULK AT MOST 1048576: true; the input reads as it did. -/
def helloMoreUptoRow : OpenClaim := { program := "ytjniepfecgcmaaa", sum := "fd78428ec3a244dc2a861b7f287c0015fb32a80844396c94fdf2c73f94a1a2e1", func := "hedgerow/hedgelaw4.HelloMore", spec := "helloMore", apart := false, narrowed := true }
def HelloMoreUptoSaid : Prop := helloMoreUptoRow.holds Try.pinned (OpenSpec.upto helloMoreSpec)

/-- 'hedgelaw2.FrameTells', WHERE WHAT IT READS IS OF BULK AT MOST 1048576: true; the input reads as it did. -/
def frameTellsUptoRow : OpenClaim := { program := "ytjniepfecgcmaaa", sum := "fd78428ec3a244dc2a861b7f287c0015fb32a80844396c94fdf2c73f94a1a2e1", func := "hedgerow/hedgelaw2.FrameTells", spec := "frameTells", apart := false, narrowed := true }
def FrameTellsUptoSaid : Prop := frameTellsUptoRow.holds Try.pinned (OpenSpec.upto frameTellsSpec)

/-- 'hedgelaw2.FrameTurns', WHERE WHAT IT READS IS OF BULK AT MOST 1048576: true; the input reads as it did. -/
def frameTurnsUptoRow : OpenClaim := { program := "ytjniepfecgcmaaa", sum := "fd78428ec3a244dc2a861b7f287c0015fb32a80844396c94fdf2c73f94a1a2e1", func := "hedgerow/hedgelaw2.FrameTurns", spec := "frameTurns", apart := false, narrowed := true }
def FrameTurnsUptoSaid : Prop := frameTurnsUptoRow.holds Try.pinned (OpenSpec.upto frameTurnsSpec)

/-- 'hedgelaw2.FrameTags', WHERE WHAT IT READS IS OF BULK AT MOST 1048576: true; the input reads as it did. -/
def frameTagsUptoRow : OpenClaim := { program := "ytjniepfecgcmaaa", sum := "fd78428ec3a244dc2a861b7f287c0015fb32a80844396c94fdf2c73f94a1a2e1", func := "hedgerow/hedgelaw2.FrameTags", spec := "frameTags", apart := false, narrowed := true }
def FrameTagsUptoSaid : Prop := frameTagsUptoRow.holds Try.pinned (OpenSpec.upto frameTagsSpec)

/-- 'hedgelaw2.FrameSize', WHERE WHAT IT READS IS OF BULK AT MOST 1048576: true; the input reads as it did. -/
def frameSizeUptoRow : OpenClaim := { program := "ytjniepfecgcmaaa", sum := "fd78428ec3a244dc2a861b7f287c0015fb32a80844396c94fdf2c73f94a1a2e1", func := "hedgerow/hedgelaw2.FrameSize", spec := "frameSize", apart := false, narrowed := true }
def FrameSizeUptoSaid : Prop := frameSizeUptoRow.holds Try.pinned (OpenSpec.upto frameSizeSpec)

/-- 'hedgelaw1.SumTells', WHERE WHAT IT READS IS OF BULK AT MOST 1048576: true; the input reads as it did. -/
def sumTellsUptoRow : OpenClaim := { program := "ytjniepfecgcmaaa", sum := "fd78428ec3a244dc2a861b7f287c0015fb32a80844396c94fdf2c73f94a1a2e1", func := "hedgerow/hedgelaw1.SumTells", spec := "sumTells", unfollowed := true, recurses := true, apart := false, narrowed := true }
def SumTellsUptoSaid : Prop := sumTellsUptoRow.holds Try.pinned (OpenSpec.upto sumTellsSpec)

/-- 'hedgelaw1.SumKnown', WHERE WHAT IT READS IS OF BULK AT MOST 1048576: true; the input reads as it did. -/
def sumKnownUptoRow : OpenClaim := { program := "ytjniepfecgcmaaa", sum := "fd78428ec3a244dc2a861b7f287c0015fb32a80844396c94fdf2c73f94a1a2e1", func := "hedgerow/hedgelaw1.SumKnown", spec := "sumKnown", unfollowed := true, recurses := true, apart := false, narrowed := true }
def SumKnownUptoSaid : Prop := sumKnownUptoRow.holds Try.pinned (OpenSpec.upto sumKnownSpec)

/-- 'hedgelaw1.SumKeys', WHERE WHAT IT READS IS OF BULK AT MOST 1048576: true; the input reads as it did. -/
def sumKeysUptoRow : OpenClaim := { program := "ytjniepfecgcmaaa", sum := "fd78428ec3a244dc2a861b7f287c0015fb32a80844396c94fdf2c73f94a1a2e1", func := "hedgerow/hedgelaw1.SumKeys", spec := "sumKeys", unfollowed := true, recurses := true, apart := false, narrowed := true }
def SumKeysUptoSaid : Prop := sumKeysUptoRow.holds Try.pinned (OpenSpec.upto sumKeysSpec)

/-- 'hedgelaw1.SumAgain', WHERE WHAT IT READS IS OF BULK AT MOST 1048576: true; the input reads as it did. -/
def sumAgainUptoRow : OpenClaim := { program := "ytjniepfecgcmaaa", sum := "fd78428ec3a244dc2a861b7f287c0015fb32a80844396c94fdf2c73f94a1a2e1", func := "hedgerow/hedgelaw1.SumAgain", spec := "sumAgain", unfollowed := true, recurses := true, apart := false, narrowed := true }
def SumAgainUptoSaid : Prop := sumAgainUptoRow.holds Try.pinned (OpenSpec.upto sumAgainSpec)

/-- 'hedgetop.Names', WHERE WHAT IT READS IS OF BULK AT MOST 1048576: true; the input reads as it did. -/
def namesUptoRow : OpenClaim := { program := "ytjniepfecgcmaaa", sum := "fd78428ec3a244dc2a861b7f287c0015fb32a80844396c94fdf2c73f94a1a2e1", func := "hedgerow/hedgetop.Names", spec := "names", apart := false, narrowed := true }
def NamesUptoSaid : Prop := namesUptoRow.holds Try.pinned (OpenSpec.upto namesSpec)

end Rows
end Go.Proofs.Ytjniepfecgcmaaa
