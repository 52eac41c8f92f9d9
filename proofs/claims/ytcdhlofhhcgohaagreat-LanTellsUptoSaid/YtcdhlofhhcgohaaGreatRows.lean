/-
  No cell of these rows narrows 'for every input' (looked for: loops, veiled, ifaces, maps, wideKeys, modest, calm, conditions, laid).
  DERIVED. THE GIVEN ROWS OF THIS SEAT. 9 by the template 'for every input the law returns true; each argument reads behind the call as it read before'; 0 by the template 'total and deterministic' (their statements: YtcdhlofhhcgohaaGreatTotals.lean).
  GIVEN WITH THE SEED: the statements are not yours to turn. If you find one false, say at which input.
  Laid BY PROGRAM, IN A SANDBOX (cutbox-rows.mjs): the forced cells as the released guide's own fill.sh prints them over the translation 203f3166cb36601a… (all of the seat's roots in one cut). By AI agents, Wed Nov 11 2026. No macro, syntax, notation, axiom, sorry.
-/
import Derived.Test.YtcdhlofhhcgohaaGreatChecked
import GoSem.Claim
import GoSem.ClaimJoined
import GoSem.ClaimMapViews
import Derived.JoinedTies
import Derived.KernelRfl
namespace Go.Proofs.YtcdhlofhhcgohaaGreat
/- THE CELL 'sum', in the pinned program and in every row, IS THE sha256 OF THE DUMP (.gsa) THAT YtcdhlofhhcgohaaGreatProg.lean LOADS. Nothing in Lean hashes anything: it is a label: what it is worth is what the hold of that sum in a sandbox is worth. -/
noncomputable def Tryz.pinned : Pinned := { name := "ytcdhlofhhcgohaagreat", sum := "203f3166cb36601a31fd4dfbc3dbea2ba44ed4dc242af39885665b4fae9f6d32", checked := Tryz.checked }
namespace Rows
def none {H : Type} : Left H := { results := [], args := [] }

/-- 'hedgelaw7.TalkTells': WHATEVER THE INPUT: true; the input reads as it did. -/
def talkTellsSpec : ChangeSpec := { name := "talkTells", fn := fun _ => fun
  | [d1, d2, d3, d4, d5, d6, d7] => { results := [.lit (.bool true)], args := [d1, d2, d3, d4, d5, d6, d7] }
  | _ => none }
def talkTellsRow : OpenClaim := { program := "ytcdhlofhhcgohaagreat", sum := "203f3166cb36601a31fd4dfbc3dbea2ba44ed4dc242af39885665b4fae9f6d32", func := "hedgerow/hedgelaw7.TalkTells", spec := "talkTells", unfollowed := true, recurses := true, plainKeys := false, apart := false }
def TalkTellsSaid : Prop := talkTellsRow.holds Tryz.pinned (OpenSpec.ofChange talkTellsSpec)

/-- ITS FALSE NEIGHBOUR: 'it returns false'. Refute it at one input. -/
def talkTellsWrong : ChangeSpec := { name := "talkTells", fn := fun _ => fun
  | [d1, d2, d3, d4, d5, d6, d7] => { results := [.lit (.bool false)], args := [d1, d2, d3, d4, d5, d6, d7] }
  | _ => none }
def TalkTellsWrongFalsely : Prop := talkTellsRow.holds Tryz.pinned (OpenSpec.ofChange talkTellsWrong)

/-- 'hedgelaw10.LanTells': WHATEVER THE INPUT: true; the input reads as it did. -/
def lanTellsSpec : ChangeSpec := { name := "lanTells", fn := fun _ => fun
  | [d1, d2, d3, d4, d5, d6, d7] => { results := [.lit (.bool true)], args := [d1, d2, d3, d4, d5, d6, d7] }
  | _ => none }
def lanTellsRow : OpenClaim := { program := "ytcdhlofhhcgohaagreat", sum := "203f3166cb36601a31fd4dfbc3dbea2ba44ed4dc242af39885665b4fae9f6d32", func := "hedgerow/hedgelaw10.LanTells", spec := "lanTells", inPlace := ["slices.overlaps[hedgerow/api.Entry]"], unfollowed := true, recurses := true, plainKeys := false, apart := false }
def LanTellsSaid : Prop := lanTellsRow.holds Tryz.pinned (OpenSpec.ofChange lanTellsSpec)

/-- ITS FALSE NEIGHBOUR: 'it returns false'. Refute it at one input. -/
def lanTellsWrong : ChangeSpec := { name := "lanTells", fn := fun _ => fun
  | [d1, d2, d3, d4, d5, d6, d7] => { results := [.lit (.bool false)], args := [d1, d2, d3, d4, d5, d6, d7] }
  | _ => none }
def LanTellsWrongFalsely : Prop := lanTellsRow.holds Tryz.pinned (OpenSpec.ofChange lanTellsWrong)

/-- 'hedgelaw10.LanApart': WHATEVER THE INPUT: true; the input reads as it did. -/
def lanApartSpec : ChangeSpec := { name := "lanApart", fn := fun _ => fun
  | [d1, d2, d3, d4, d5, d6, d7] => { results := [.lit (.bool true)], args := [d1, d2, d3, d4, d5, d6, d7] }
  | _ => none }
def lanApartRow : OpenClaim := { program := "ytcdhlofhhcgohaagreat", sum := "203f3166cb36601a31fd4dfbc3dbea2ba44ed4dc242af39885665b4fae9f6d32", func := "hedgerow/hedgelaw10.LanApart", spec := "lanApart", inPlace := ["slices.overlaps[hedgerow/api.Entry]"], unfollowed := true, recurses := true, plainKeys := false, apart := false }
def LanApartSaid : Prop := lanApartRow.holds Tryz.pinned (OpenSpec.ofChange lanApartSpec)

/-- ITS FALSE NEIGHBOUR: 'it returns false'. Refute it at one input. -/
def lanApartWrong : ChangeSpec := { name := "lanApart", fn := fun _ => fun
  | [d1, d2, d3, d4, d5, d6, d7] => { results := [.lit (.bool false)], args := [d1, d2, d3, d4, d5, d6, d7] }
  | _ => none }
def LanApartWrongFalsely : Prop := lanApartRow.holds Tryz.pinned (OpenSpec.ofChange lanApartWrong)

/-- 'hedgelaw10.LanFrames': WHATEVER THE INPUT: true; the input reads as it did. -/
def lanFramesSpec : ChangeSpec := { name := "lanFrames", fn := fun _ => fun
  | [d1, d2, d3, d4, d5, d6, d7] => { results := [.lit (.bool true)], args := [d1, d2, d3, d4, d5, d6, d7] }
  | _ => none }
def lanFramesRow : OpenClaim := { program := "ytcdhlofhhcgohaagreat", sum := "203f3166cb36601a31fd4dfbc3dbea2ba44ed4dc242af39885665b4fae9f6d32", func := "hedgerow/hedgelaw10.LanFrames", spec := "lanFrames", inPlace := ["slices.overlaps[hedgerow/api.Entry]"], unfollowed := true, recurses := true, plainKeys := false, apart := false }
def LanFramesSaid : Prop := lanFramesRow.holds Tryz.pinned (OpenSpec.ofChange lanFramesSpec)

/-- ITS FALSE NEIGHBOUR: 'it returns false'. Refute it at one input. -/
def lanFramesWrong : ChangeSpec := { name := "lanFrames", fn := fun _ => fun
  | [d1, d2, d3, d4, d5, d6, d7] => { results := [.lit (.bool false)], args := [d1, d2, d3, d4, d5, d6, d7] }
  | _ => none }
def LanFramesWrongFalsely : Prop := lanFramesRow.holds Tryz.pinned (OpenSpec.ofChange lanFramesWrong)

/-- 'hedgetop.TopFirst': WHATEVER THE INPUT: true; the input reads as it did. -/
def topFirstSpec : ChangeSpec := { name := "topFirst", fn := fun _ => fun
  | [d1, d2, d3, d4] => { results := [.lit (.bool true)], args := [d1, d2, d3, d4] }
  | _ => none }
def topFirstRow : OpenClaim := { program := "ytcdhlofhhcgohaagreat", sum := "203f3166cb36601a31fd4dfbc3dbea2ba44ed4dc242af39885665b4fae9f6d32", func := "hedgerow/hedgetop.TopFirst", spec := "topFirst", unfollowed := true, recurses := true, plainKeys := false, apart := false }
def TopFirstSaid : Prop := topFirstRow.holds Tryz.pinned (OpenSpec.ofChange topFirstSpec)

/-- ITS FALSE NEIGHBOUR: 'it returns false'. Refute it at one input. -/
def topFirstWrong : ChangeSpec := { name := "topFirst", fn := fun _ => fun
  | [d1, d2, d3, d4] => { results := [.lit (.bool false)], args := [d1, d2, d3, d4] }
  | _ => none }
def TopFirstWrongFalsely : Prop := topFirstRow.holds Tryz.pinned (OpenSpec.ofChange topFirstWrong)

/-- 'hedgetop.TopHello': WHATEVER THE INPUT: true; the input reads as it did. -/
def topHelloSpec : ChangeSpec := { name := "topHello", fn := fun _ => fun
  | [d1, d2, d3, d4] => { results := [.lit (.bool true)], args := [d1, d2, d3, d4] }
  | _ => none }
def topHelloRow : OpenClaim := { program := "ytcdhlofhhcgohaagreat", sum := "203f3166cb36601a31fd4dfbc3dbea2ba44ed4dc242af39885665b4fae9f6d32", func := "hedgerow/hedgetop.TopHello", spec := "topHello", unfollowed := true, recurses := true, plainKeys := false, apart := false }
def TopHelloSaid : Prop := topHelloRow.holds Tryz.pinned (OpenSpec.ofChange topHelloSpec)

/-- ITS FALSE NEIGHBOUR: 'it returns false'. Refute it at one input. -/
def topHelloWrong : ChangeSpec := { name := "topHello", fn := fun _ => fun
  | [d1, d2, d3, d4] => { results := [.lit (.bool false)], args := [d1, d2, d3, d4] }
  | _ => none }
def TopHelloWrongFalsely : Prop := topHelloRow.holds Tryz.pinned (OpenSpec.ofChange topHelloWrong)

/-- 'hedgetop.TopRing': WHATEVER THE INPUT: true; the input reads as it did. -/
def topRingSpec : ChangeSpec := { name := "topRing", fn := fun _ => fun
  | [d1, d2, d3] => { results := [.lit (.bool true)], args := [d1, d2, d3] }
  | _ => none }
def topRingRow : OpenClaim := { program := "ytcdhlofhhcgohaagreat", sum := "203f3166cb36601a31fd4dfbc3dbea2ba44ed4dc242af39885665b4fae9f6d32", func := "hedgerow/hedgetop.TopRing", spec := "topRing", inPlace := ["slices.overlaps[hedgerow/api.Entry]"], unfollowed := true, recurses := true, plainKeys := false, apart := false }
def TopRingSaid : Prop := topRingRow.holds Tryz.pinned (OpenSpec.ofChange topRingSpec)

/-- ITS FALSE NEIGHBOUR: 'it returns false'. Refute it at one input. -/
def topRingWrong : ChangeSpec := { name := "topRing", fn := fun _ => fun
  | [d1, d2, d3] => { results := [.lit (.bool false)], args := [d1, d2, d3] }
  | _ => none }
def TopRingWrongFalsely : Prop := topRingRow.holds Tryz.pinned (OpenSpec.ofChange topRingWrong)

/-- 'hedgetop.TopTrees': WHATEVER THE INPUT: true; the input reads as it did. -/
def topTreesSpec : ChangeSpec := { name := "topTrees", fn := fun _ => fun
  | [d1, d2, d3] => { results := [.lit (.bool true)], args := [d1, d2, d3] }
  | _ => none }
def topTreesRow : OpenClaim := { program := "ytcdhlofhhcgohaagreat", sum := "203f3166cb36601a31fd4dfbc3dbea2ba44ed4dc242af39885665b4fae9f6d32", func := "hedgerow/hedgetop.TopTrees", spec := "topTrees", inPlace := ["slices.overlaps[hedgerow/api.Entry]"], unfollowed := true, recurses := true, plainKeys := false, apart := false }
def TopTreesSaid : Prop := topTreesRow.holds Tryz.pinned (OpenSpec.ofChange topTreesSpec)

/-- ITS FALSE NEIGHBOUR: 'it returns false'. Refute it at one input. -/
def topTreesWrong : ChangeSpec := { name := "topTrees", fn := fun _ => fun
  | [d1, d2, d3] => { results := [.lit (.bool false)], args := [d1, d2, d3] }
  | _ => none }
def TopTreesWrongFalsely : Prop := topTreesRow.holds Tryz.pinned (OpenSpec.ofChange topTreesWrong)

/-- 'hedgetop.TopPath': WHATEVER THE INPUT: true; the input reads as it did. -/
def topPathSpec : ChangeSpec := { name := "topPath", fn := fun _ => fun
  | [d1, d2, d3] => { results := [.lit (.bool true)], args := [d1, d2, d3] }
  | _ => none }
def topPathRow : OpenClaim := { program := "ytcdhlofhhcgohaagreat", sum := "203f3166cb36601a31fd4dfbc3dbea2ba44ed4dc242af39885665b4fae9f6d32", func := "hedgerow/hedgetop.TopPath", spec := "topPath", inPlace := ["slices.overlaps[hedgerow/api.Entry]"], unfollowed := true, recurses := true, plainKeys := false, apart := false }
def TopPathSaid : Prop := topPathRow.holds Tryz.pinned (OpenSpec.ofChange topPathSpec)

/-- ITS FALSE NEIGHBOUR: 'it returns false'. Refute it at one input. -/
def topPathWrong : ChangeSpec := { name := "topPath", fn := fun _ => fun
  | [d1, d2, d3] => { results := [.lit (.bool false)], args := [d1, d2, d3] }
  | _ => none }
def TopPathWrongFalsely : Prop := topPathRow.holds Tryz.pinned (OpenSpec.ofChange topPathWrong)

/- THE SECOND FORM. 'bulk': how many values and letters a reading holds, each counted each time it is reached (what is shared counts as often as it is met; a slice's spare places count too). A statement '..UptoSaid' is the law's where the arguments, and the package variables that the reading takes, are together of bulk at most 1048576: NARROWER than '..Said'. Prove '..Said' where nothing that the law and all that it calls make is longer than what came in: it says more and counts as full. Else prove '..UptoSaid'. A law counts once. -/
mutual
def uptoBulk {H : Type} : DataW H → Nat
  | .lit (.string bytes) => bytes.length + 1
  | .lit _ => 1
  | .nil => 1
  | .ptr d => uptoBulk d + 1
  | .slice elems spare => uptoBulkAll elems + uptoBulkAll spare + 1
  | .agg parts => uptoBulkAll parts + 1
  | .iface _ d => uptoBulk d + 1
  | .map entries => uptoBulkEntries entries + 1
  | .held _ => 1
def uptoBulkAll {H : Type} : List (DataW H) → Nat
  | [] => 0
  | d :: r => uptoBulk d + uptoBulkAll r
def uptoBulkEntries {H : Type} : List (Lit × DataW H) → Nat
  | [] => 0
  | x :: r => uptoBulkEntry x + uptoBulkEntries r
def uptoBulkEntry {H : Type} : Lit × DataW H → Nat
  | (.string bytes, d) => bytes.length + uptoBulk d + 1
  | (_, d) => uptoBulk d + 1
 end
def uptoSmall : (H : Type) → List (DataW H) → Bool := fun _ ds => decide (uptoBulkAll ds ≤ 1048576)
def OpenSpec.upto (s : _root_.Go.ChangeSpec) : _root_.Go.OpenSpec := { _root_.Go.OpenSpec.ofChange s with cond := some uptoSmall }

/-- 'hedgelaw7.TalkTells', WHERE WHAT IT READS IS OF BULK AT MOST 1048576: true; the input reads as it did. -/
def talkTellsUptoRow : OpenClaim := { program := "ytcdhlofhhcgohaagreat", sum := "203f3166cb36601a31fd4dfbc3dbea2ba44ed4dc242af39885665b4fae9f6d32", func := "hedgerow/hedgelaw7.TalkTells", spec := "talkTells", unfollowed := true, recurses := true, plainKeys := false, apart := false, narrowed := true }
def TalkTellsUptoSaid : Prop := talkTellsUptoRow.holds Tryz.pinned (OpenSpec.upto talkTellsSpec)

/-- 'hedgelaw10.LanTells', WHERE WHAT IT READS IS OF BULK AT MOST 1048576: true; the input reads as it did. -/
def lanTellsUptoRow : OpenClaim := { program := "ytcdhlofhhcgohaagreat", sum := "203f3166cb36601a31fd4dfbc3dbea2ba44ed4dc242af39885665b4fae9f6d32", func := "hedgerow/hedgelaw10.LanTells", spec := "lanTells", inPlace := ["slices.overlaps[hedgerow/api.Entry]"], unfollowed := true, recurses := true, plainKeys := false, apart := false, narrowed := true }
def LanTellsUptoSaid : Prop := lanTellsUptoRow.holds Tryz.pinned (OpenSpec.upto lanTellsSpec)

/-- 'hedgelaw10.LanApart', WHERE WHAT IT READS IS OF BULK AT MOST 1048576: true; the input reads as it did. -/
def lanApartUptoRow : OpenClaim := { program := "ytcdhlofhhcgohaagreat", sum := "203f3166cb36601a31fd4dfbc3dbea2ba44ed4dc242af39885665b4fae9f6d32", func := "hedgerow/hedgelaw10.LanApart", spec := "lanApart", inPlace := ["slices.overlaps[hedgerow/api.Entry]"], unfollowed := true, recurses := true, plainKeys := false, apart := false, narrowed := true }
def LanApartUptoSaid : Prop := lanApartUptoRow.holds Tryz.pinned (OpenSpec.upto lanApartSpec)

/-- 'hedgelaw10.LanFrames', WHERE WHAT IT READS IS OF BULK AT MOST 1048576: true; the input reads as it did. -/
def lanFramesUptoRow : OpenClaim := { program := "ytcdhlofhhcgohaagreat", sum := "203f3166cb36601a31fd4dfbc3dbea2ba44ed4dc242af39885665b4fae9f6d32", func := "hedgerow/hedgelaw10.LanFrames", spec := "lanFrames", inPlace := ["slices.overlaps[hedgerow/api.Entry]"], unfollowed := true, recurses := true, plainKeys := false, apart := false, narrowed := true }
def LanFramesUptoSaid : Prop := lanFramesUptoRow.holds Tryz.pinned (OpenSpec.upto lanFramesSpec)

/-- 'hedgetop.TopFirst', WHERE WHAT IT READS IS OF BULK AT MOST 1048576: true; the input reads as it did. -/
def topFirstUptoRow : OpenClaim := { program := "ytcdhlofhhcgohaagreat", sum := "203f3166cb36601a31fd4dfbc3dbea2ba44ed4dc242af39885665b4fae9f6d32", func := "hedgerow/hedgetop.TopFirst", spec := "topFirst", unfollowed := true, recurses := true, plainKeys := false, apart := false, narrowed := true }
def TopFirstUptoSaid : Prop := topFirstUptoRow.holds Tryz.pinned (OpenSpec.upto topFirstSpec)

/-- 'hedgetop.TopHello', WHERE WHAT IT READS IS OF BULK AT MOST 1048576: true; the input reads as it did. -/
def topHelloUptoRow : OpenClaim := { program := "ytcdhlofhhcgohaagreat", sum := "203f3166cb36601a31fd4dfbc3dbea2ba44ed4dc242af39885665b4fae9f6d32", func := "hedgerow/hedgetop.TopHello", spec := "topHello", unfollowed := true, recurses := true, plainKeys := false, apart := false, narrowed := true }
def TopHelloUptoSaid : Prop := topHelloUptoRow.holds Tryz.pinned (OpenSpec.upto topHelloSpec)

/-- 'hedgetop.TopRing', WHERE WHAT IT READS IS OF BULK AT MOST 1048576: true; the input reads as it did. -/
def topRingUptoRow : OpenClaim := { program := "ytcdhlofhhcgohaagreat", sum := "203f3166cb36601a31fd4dfbc3dbea2ba44ed4dc242af39885665b4fae9f6d32", func := "hedgerow/hedgetop.TopRing", spec := "topRing", inPlace := ["slices.overlaps[hedgerow/api.Entry]"], unfollowed := true, recurses := true, plainKeys := false, apart := false, narrowed := true }
def TopRingUptoSaid : Prop := topRingUptoRow.holds Tryz.pinned (OpenSpec.upto topRingSpec)

/-- 'hedgetop.TopTrees', WHERE WHAT IT READS IS OF BULK AT MOST 1048576: true; the input reads as it did. -/
def topTreesUptoRow : OpenClaim := { program := "ytcdhlofhhcgohaagreat", sum := "203f3166cb36601a31fd4dfbc3dbea2ba44ed4dc242af39885665b4fae9f6d32", func := "hedgerow/hedgetop.TopTrees", spec := "topTrees", inPlace := ["slices.overlaps[hedgerow/api.Entry]"], unfollowed := true, recurses := true, plainKeys := false, apart := false, narrowed := true }
def TopTreesUptoSaid : Prop := topTreesUptoRow.holds Tryz.pinned (OpenSpec.upto topTreesSpec)

/-- 'hedgetop.TopPath', WHERE WHAT IT READS IS OF BULK AT MOST 1048576: true; the input reads as it did. -/
def topPathUptoRow : OpenClaim := { program := "ytcdhlofhhcgohaagreat", sum := "203f3166cb36601a31fd4dfbc3dbea2ba44ed4dc242af39885665b4fae9f6d32", func := "hedgerow/hedgetop.TopPath", spec := "topPath", inPlace := ["slices.overlaps[hedgerow/api.Entry]"], unfollowed := true, recurses := true, plainKeys := false, apart := false, narrowed := true }
def TopPathUptoSaid : Prop := topPathUptoRow.holds Tryz.pinned (OpenSpec.upto topPathSpec)

end Rows
end Go.Proofs.YtcdhlofhhcgohaaGreat
