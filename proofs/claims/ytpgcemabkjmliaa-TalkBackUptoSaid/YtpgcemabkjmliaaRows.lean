/-
  No cell of these rows narrows 'for every input' (looked for: loops, veiled, ifaces, maps, wideKeys, modest, calm, conditions, laid).
  DERIVED. THE GIVEN ROWS OF THIS SEAT. 7 by the template 'for every input the law returns true; each argument reads behind the call as it read before'; 0 by the template 'total and deterministic' (their statements: YtpgcemabkjmliaaTotals.lean).
  GIVEN WITH THE SEED: the statements are not yours to turn. If you find one false, say at which input.
  Laid BY PROGRAM, IN A SANDBOX (cutbox-rows.mjs): the forced cells as the released guide's own fill.sh prints them over the translation 3e9e033e34a4a5e1… (all of the seat's roots in one cut). By AI agents, Wed Nov 11 2026. No macro, syntax, notation, axiom, sorry.
-/
import Derived.Test.YtpgcemabkjmliaaChecked
import GoSem.Claim
import GoSem.ClaimJoined
import GoSem.ClaimMapViews
import Derived.JoinedTies
import Derived.KernelRfl
namespace Go.Proofs.Ytpgcemabkjmliaa
/- THE CELL 'sum', in the pinned program and in every row, IS THE sha256 OF THE DUMP (.gsa) THAT YtpgcemabkjmliaaProg.lean LOADS. Nothing in Lean hashes anything: it is a label: what it is worth is what the hold of that sum in a sandbox is worth. -/
noncomputable def Try.pinned : Pinned := { name := "ytpgcemabkjmliaa", sum := "3e9e033e34a4a5e12008434c6c92488b2ea754a8c356e874a66978cabf3f5360", checked := Try.checked }
namespace Rows
def none {H : Type} : Left H := { results := [], args := [] }

/-- 'hedgelaw7.TalkOn': WHATEVER THE INPUT: true; the input reads as it did. -/
def talkOnSpec : ChangeSpec := { name := "talkOn", fn := fun _ => fun
  | [d1, d2, d3, d4] => { results := [.lit (.bool true)], args := [d1, d2, d3, d4] }
  | _ => none }
def talkOnRow : OpenClaim := { program := "ytpgcemabkjmliaa", sum := "3e9e033e34a4a5e12008434c6c92488b2ea754a8c356e874a66978cabf3f5360", func := "hedgerow/hedgelaw7.TalkOn", spec := "talkOn", unfollowed := true, recurses := true, plainKeys := false, apart := false }
def TalkOnSaid : Prop := talkOnRow.holds Try.pinned (OpenSpec.ofChange talkOnSpec)

/-- ITS FALSE NEIGHBOUR: 'it returns false'. Refute it at one input. -/
def talkOnWrong : ChangeSpec := { name := "talkOn", fn := fun _ => fun
  | [d1, d2, d3, d4] => { results := [.lit (.bool false)], args := [d1, d2, d3, d4] }
  | _ => none }
def TalkOnWrongFalsely : Prop := talkOnRow.holds Try.pinned (OpenSpec.ofChange talkOnWrong)

/-- 'hedgelaw7.TalkTrees': WHATEVER THE INPUT: true; the input reads as it did. -/
def talkTreesSpec : ChangeSpec := { name := "talkTrees", fn := fun _ => fun
  | [d1, d2, d3, d4] => { results := [.lit (.bool true)], args := [d1, d2, d3, d4] }
  | _ => none }
def talkTreesRow : OpenClaim := { program := "ytpgcemabkjmliaa", sum := "3e9e033e34a4a5e12008434c6c92488b2ea754a8c356e874a66978cabf3f5360", func := "hedgerow/hedgelaw7.TalkTrees", spec := "talkTrees", unfollowed := true, recurses := true, plainKeys := false, apart := false }
def TalkTreesSaid : Prop := talkTreesRow.holds Try.pinned (OpenSpec.ofChange talkTreesSpec)

/-- ITS FALSE NEIGHBOUR: 'it returns false'. Refute it at one input. -/
def talkTreesWrong : ChangeSpec := { name := "talkTrees", fn := fun _ => fun
  | [d1, d2, d3, d4] => { results := [.lit (.bool false)], args := [d1, d2, d3, d4] }
  | _ => none }
def TalkTreesWrongFalsely : Prop := talkTreesRow.holds Try.pinned (OpenSpec.ofChange talkTreesWrong)

/-- 'hedgelaw7.TalkAges': WHATEVER THE INPUT: true; the input reads as it did. -/
def talkAgesSpec : ChangeSpec := { name := "talkAges", fn := fun _ => fun
  | [d1, d2, d3] => { results := [.lit (.bool true)], args := [d1, d2, d3] }
  | _ => none }
def talkAgesRow : OpenClaim := { program := "ytpgcemabkjmliaa", sum := "3e9e033e34a4a5e12008434c6c92488b2ea754a8c356e874a66978cabf3f5360", func := "hedgerow/hedgelaw7.TalkAges", spec := "talkAges", unfollowed := true, recurses := true, plainKeys := false, apart := false }
def TalkAgesSaid : Prop := talkAgesRow.holds Try.pinned (OpenSpec.ofChange talkAgesSpec)

/-- ITS FALSE NEIGHBOUR: 'it returns false'. Refute it at one input. -/
def talkAgesWrong : ChangeSpec := { name := "talkAges", fn := fun _ => fun
  | [d1, d2, d3] => { results := [.lit (.bool false)], args := [d1, d2, d3] }
  | _ => none }
def TalkAgesWrongFalsely : Prop := talkAgesRow.holds Try.pinned (OpenSpec.ofChange talkAgesWrong)

/-- 'hedgelaw7.TalkQuiet': WHATEVER THE INPUT: true; the input reads as it did. -/
def talkQuietSpec : ChangeSpec := { name := "talkQuiet", fn := fun _ => fun
  | [d1, d2, d3] => { results := [.lit (.bool true)], args := [d1, d2, d3] }
  | _ => none }
def talkQuietRow : OpenClaim := { program := "ytpgcemabkjmliaa", sum := "3e9e033e34a4a5e12008434c6c92488b2ea754a8c356e874a66978cabf3f5360", func := "hedgerow/hedgelaw7.TalkQuiet", spec := "talkQuiet", unfollowed := true, recurses := true, plainKeys := false, apart := false }
def TalkQuietSaid : Prop := talkQuietRow.holds Try.pinned (OpenSpec.ofChange talkQuietSpec)

/-- ITS FALSE NEIGHBOUR: 'it returns false'. Refute it at one input. -/
def talkQuietWrong : ChangeSpec := { name := "talkQuiet", fn := fun _ => fun
  | [d1, d2, d3] => { results := [.lit (.bool false)], args := [d1, d2, d3] }
  | _ => none }
def TalkQuietWrongFalsely : Prop := talkQuietRow.holds Try.pinned (OpenSpec.ofChange talkQuietWrong)

/-- 'hedgelaw7.TalkSettles': WHATEVER THE INPUT: true; the input reads as it did. -/
def talkSettlesSpec : ChangeSpec := { name := "talkSettles", fn := fun _ => fun
  | [d1, d2, d3, d4] => { results := [.lit (.bool true)], args := [d1, d2, d3, d4] }
  | _ => none }
def talkSettlesRow : OpenClaim := { program := "ytpgcemabkjmliaa", sum := "3e9e033e34a4a5e12008434c6c92488b2ea754a8c356e874a66978cabf3f5360", func := "hedgerow/hedgelaw7.TalkSettles", spec := "talkSettles", unfollowed := true, recurses := true, plainKeys := false, apart := false }
def TalkSettlesSaid : Prop := talkSettlesRow.holds Try.pinned (OpenSpec.ofChange talkSettlesSpec)

/-- ITS FALSE NEIGHBOUR: 'it returns false'. Refute it at one input. -/
def talkSettlesWrong : ChangeSpec := { name := "talkSettles", fn := fun _ => fun
  | [d1, d2, d3, d4] => { results := [.lit (.bool false)], args := [d1, d2, d3, d4] }
  | _ => none }
def TalkSettlesWrongFalsely : Prop := talkSettlesRow.holds Try.pinned (OpenSpec.ofChange talkSettlesWrong)

/-- 'hedgelaw7.TalkBack': WHATEVER THE INPUT: true; the input reads as it did. -/
def talkBackSpec : ChangeSpec := { name := "talkBack", fn := fun _ => fun
  | [d1, d2, d3, d4, d5] => { results := [.lit (.bool true)], args := [d1, d2, d3, d4, d5] }
  | _ => none }
def talkBackRow : OpenClaim := { program := "ytpgcemabkjmliaa", sum := "3e9e033e34a4a5e12008434c6c92488b2ea754a8c356e874a66978cabf3f5360", func := "hedgerow/hedgelaw7.TalkBack", spec := "talkBack", unfollowed := true, recurses := true, plainKeys := false, apart := false }
def TalkBackSaid : Prop := talkBackRow.holds Try.pinned (OpenSpec.ofChange talkBackSpec)

/-- ITS FALSE NEIGHBOUR: 'it returns false'. Refute it at one input. -/
def talkBackWrong : ChangeSpec := { name := "talkBack", fn := fun _ => fun
  | [d1, d2, d3, d4, d5] => { results := [.lit (.bool false)], args := [d1, d2, d3, d4, d5] }
  | _ => none }
def TalkBackWrongFalsely : Prop := talkBackRow.holds Try.pinned (OpenSpec.ofChange talkBackWrong)

/-- 'hedgelaw7.TalkOpens': WHATEVER THE INPUT: true; the input reads as it did. -/
def talkOpensSpec : ChangeSpec := { name := "talkOpens", fn := fun _ => fun
  | [d1, d2, d3] => { results := [.lit (.bool true)], args := [d1, d2, d3] }
  | _ => none }
def talkOpensRow : OpenClaim := { program := "ytpgcemabkjmliaa", sum := "3e9e033e34a4a5e12008434c6c92488b2ea754a8c356e874a66978cabf3f5360", func := "hedgerow/hedgelaw7.TalkOpens", spec := "talkOpens", unfollowed := true, recurses := true, plainKeys := false, apart := false }
def TalkOpensSaid : Prop := talkOpensRow.holds Try.pinned (OpenSpec.ofChange talkOpensSpec)

/-- ITS FALSE NEIGHBOUR: 'it returns false'. Refute it at one input. -/
def talkOpensWrong : ChangeSpec := { name := "talkOpens", fn := fun _ => fun
  | [d1, d2, d3] => { results := [.lit (.bool false)], args := [d1, d2, d3] }
  | _ => none }
def TalkOpensWrongFalsely : Prop := talkOpensRow.holds Try.pinned (OpenSpec.ofChange talkOpensWrong)

/- THE SECOND FORM. 'bulk': how many values and letters a reading holds, each counted each time it is reached (what is shared counts as often as it is met; a slice's spare places count too). A statement '..UptoSaid' is the law's where the arguments, and the package variables that the reading takes, are together of bulk at most 1048576: NARROWER than '..Said'. Prove '..Said' where nothing that the law and all that it calls make is longer than what came in: it says more and counts as full. Else prove '..UptoSaid'. A law counts once. -/
mutual
def uptoBulk {H : Type} : DataW H → Nat
  | .lit (.string bytes) => bytes.length + 1
  | .lit _ => 1
  | .nil => 1
  | .ptr d => uptoBulk d + 1
  | .slice elems spare => uptoBulkAll elems + uptoBulkAll spare + 1
  | .agg parts => uptoBulkAll parts + 1
  | .iface _ d => uptoBulk d + 1
  | .map entries => uptoBulkEntries entries + 1
  | .held _ => 1
def uptoBulkAll {H : Type} : List (DataW H) → Nat
  | [] => 0
  | d :: r => uptoBulk d + uptoBulkAll r
def uptoBulkEntries {H : Type} : List (Lit × DataW H) → Nat
  | [] => 0
  | x :: r => uptoBulkEntry x + uptoBulkEntries r
def uptoBulkEntry {H : Type} : Lit × DataW H → Nat
  | (.string bytes, d) => bytes.length + uptoBulk d + 1
  | (_, d) => uptoBulk d + 1
 end
def uptoSmall : (H : Type) → List (DataW H) → Bool := fun _ ds => decide (uptoBulkAll ds ≤ 1048576)
def OpenSpec.upto (s : _root_.Go.ChangeSpec) : _root_.Go.OpenSpec := { _root_.Go.OpenSpec.ofChange s with cond := some uptoSmall }

/-- 'hedgelaw7.TalkOn', WHERE WHAT IT READS IS OF BULK AT MOST 1048576: true; the input reads as it did. -/
def talkOnUptoRow : OpenClaim := { program := "ytpgcemabkjmliaa", sum := "3e9e033e34a4a5e12008434c6c92488b2ea754a8c356e874a66978cabf3f5360", func := "hedgerow/hedgelaw7.TalkOn", spec := "talkOn", unfollowed := true, recurses := true, plainKeys := false, apart := false, narrowed := true }
def TalkOnUptoSaid : Prop := talkOnUptoRow.holds Try.pinned (OpenSpec.upto talkOnSpec)

/-- 'hedgelaw7.TalkTrees', WHERE WHAT IT READS IS OF BULK AT MOST 1048576: true; the input reads as it did. -/
def talkTreesUptoRow : OpenClaim := { program := "ytpgcemabkjmliaa", sum := "3e9e033e34a4a5e12008434c6c92488b2ea754a8c356e874a66978cabf3f5360", func := "hedgerow/hedgelaw7.TalkTrees", spec := "talkTrees", unfollowed := true, recurses := true, plainKeys := false, apart := false, narrowed := true }
def TalkTreesUptoSaid : Prop := talkTreesUptoRow.holds Try.pinned (OpenSpec.upto talkTreesSpec)

/-- 'hedgelaw7.TalkAges', WHERE WHAT IT READS IS OF BULK AT MOST 1048576: true; the input reads as it did. -/
def talkAgesUptoRow : OpenClaim := { program := "ytpgcemabkjmliaa", sum := "3e9e033e34a4a5e12008434c6c92488b2ea754a8c356e874a66978cabf3f5360", func := "hedgerow/hedgelaw7.TalkAges", spec := "talkAges", unfollowed := true, recurses := true, plainKeys := false, apart := false, narrowed := true }
def TalkAgesUptoSaid : Prop := talkAgesUptoRow.holds Try.pinned (OpenSpec.upto talkAgesSpec)

/-- 'hedgelaw7.TalkQuiet', WHERE WHAT IT READS IS OF BULK AT MOST 1048576: true; the input reads as it did. -/
def talkQuietUptoRow : OpenClaim := { program := "ytpgcemabkjmliaa", sum := "3e9e033e34a4a5e12008434c6c92488b2ea754a8c356e874a66978cabf3f5360", func := "hedgerow/hedgelaw7.TalkQuiet", spec := "talkQuiet", unfollowed := true, recurses := true, plainKeys := false, apart := false, narrowed := true }
def TalkQuietUptoSaid : Prop := talkQuietUptoRow.holds Try.pinned (OpenSpec.upto talkQuietSpec)

/-- 'hedgelaw7.TalkSettles', WHERE WHAT IT READS IS OF BULK AT MOST 1048576: true; the input reads as it did. -/
def talkSettlesUptoRow : OpenClaim := { program := "ytpgcemabkjmliaa", sum := "3e9e033e34a4a5e12008434c6c92488b2ea754a8c356e874a66978cabf3f5360", func := "hedgerow/hedgelaw7.TalkSettles", spec := "talkSettles", unfollowed := true, recurses := true, plainKeys := false, apart := false, narrowed := true }
def TalkSettlesUptoSaid : Prop := talkSettlesUptoRow.holds Try.pinned (OpenSpec.upto talkSettlesSpec)

/-- 'hedgelaw7.TalkBack', WHERE WHAT IT READS IS OF BULK AT MOST 1048576: true; the input reads as it did. -/
def talkBackUptoRow : OpenClaim := { program := "ytpgcemabkjmliaa", sum := "3e9e033e34a4a5e12008434c6c92488b2ea754a8c356e874a66978cabf3f5360", func := "hedgerow/hedgelaw7.TalkBack", spec := "talkBack", unfollowed := true, recurses := true, plainKeys := false, apart := false, narrowed := true }
def TalkBackUptoSaid : Prop := talkBackUptoRow.holds Try.pinned (OpenSpec.upto talkBackSpec)

/-- 'hedgelaw7.TalkOpens', WHERE WHAT IT READS IS OF BULK AT MOST 1048576: true; the input reads as it did. -/
def talkOpensUptoRow : OpenClaim := { program := "ytpgcemabkjmliaa", sum := "3e9e033e34a4a5e12008434c6c92488b2ea754a8c356e874a66978cabf3f5360", func := "hedgerow/hedgelaw7.TalkOpens", spec := "talkOpens", unfollowed := true, recurses := true, plainKeys := false, apart := false, narrowed := true }
def TalkOpensUptoSaid : Prop := talkOpensUptoRow.holds Try.pinned (OpenSpec.upto talkOpensSpec)

end Rows
end Go.Proofs.Ytpgcemabkjmliaa
