/-
  No cell of these rows narrows 'for every input' (looked for: loops, veiled, ifaces, maps, wideKeys, modest, calm, conditions, laid).
  DERIVED. THE GIVEN ROWS OF THIS SEAT. 6 by the template 'for every input the law returns true; each argument reads behind the call as it read before'; 0 by the template 'total and deterministic' (their statements: YtcdeielnkmjfhaaTotals.lean).
  GIVEN WITH THE SEED: the statements are not yours to turn. If you find one false, say at which input.
  Laid BY PROGRAM, IN A SANDBOX (cutbox-rows.mjs): the forced cells as the released guide's own fill.sh prints them over the translation dd37ed67d97d6c9a… (all of the seat's roots in one cut). By AI agents, Wed Nov 11 2026. No macro, syntax, notation, axiom, sorry.
-/
import Derived.Test.YtcdeielnkmjfhaaChecked
import GoSem.Claim
import GoSem.ClaimJoined
import GoSem.ClaimMapViews
import Derived.JoinedTies
import Derived.KernelRfl
namespace Go.Proofs.Ytcdeielnkmjfhaa
/- THE CELL 'sum', in the pinned program and in every row, IS THE sha256 OF THE DUMP (.gsa) THAT YtcdeielnkmjfhaaProg.lean LOADS. Nothing in Lean hashes anything: it is a label: what it is worth is what the hold of that sum in a sandbox is worth. -/
noncomputable def Try.pinned : Pinned := { name := "ytcdeielnkmjfhaa", sum := "dd37ed67d97d6c9aa733e31da3e16f6b237f4ee758d121334ab6d0c0590f1c63", checked := Try.checked }
namespace Rows
def none {H : Type} : Left H := { results := [], args := [] }

/-- 'hedgelaw5.VecOrder': WHATEVER THE INPUT: true; the input reads as it did. -/
def vecOrderSpec : ChangeSpec := { name := "vecOrder", fn := fun _ => fun
  | [d1, d2, d3] => { results := [.lit (.bool true)], args := [d1, d2, d3] }
  | _ => none }
def vecOrderRow : OpenClaim := { program := "ytcdeielnkmjfhaa", sum := "dd37ed67d97d6c9aa733e31da3e16f6b237f4ee758d121334ab6d0c0590f1c63", func := "hedgerow/hedgelaw5.VecOrder", spec := "vecOrder", plainKeys := false, apart := false }
def VecOrderSaid : Prop := vecOrderRow.holds Try.pinned (OpenSpec.ofChange vecOrderSpec)

/-- ITS FALSE NEIGHBOUR: 'it returns false'. Refute it at one input. -/
def vecOrderWrong : ChangeSpec := { name := "vecOrder", fn := fun _ => fun
  | [d1, d2, d3] => { results := [.lit (.bool false)], args := [d1, d2, d3] }
  | _ => none }
def VecOrderWrongFalsely : Prop := vecOrderRow.holds Try.pinned (OpenSpec.ofChange vecOrderWrong)

/-- 'hedgelaw5.VecOver': WHATEVER THE INPUT: true; the input reads as it did. -/
def vecOverSpec : ChangeSpec := { name := "vecOver", fn := fun _ => fun
  | [d1, d2, d3, d4] => { results := [.lit (.bool true)], args := [d1, d2, d3, d4] }
  | _ => none }
def vecOverRow : OpenClaim := { program := "ytcdeielnkmjfhaa", sum := "dd37ed67d97d6c9aa733e31da3e16f6b237f4ee758d121334ab6d0c0590f1c63", func := "hedgerow/hedgelaw5.VecOver", spec := "vecOver", plainKeys := false, apart := false }
def VecOverSaid : Prop := vecOverRow.holds Try.pinned (OpenSpec.ofChange vecOverSpec)

/-- ITS FALSE NEIGHBOUR: 'it returns false'. Refute it at one input. -/
def vecOverWrong : ChangeSpec := { name := "vecOver", fn := fun _ => fun
  | [d1, d2, d3, d4] => { results := [.lit (.bool false)], args := [d1, d2, d3, d4] }
  | _ => none }
def VecOverWrongFalsely : Prop := vecOverRow.holds Try.pinned (OpenSpec.ofChange vecOverWrong)

/-- 'hedgelaw5.VecChoose': WHATEVER THE INPUT: true; the input reads as it did. -/
def vecChooseSpec : ChangeSpec := { name := "vecChoose", fn := fun _ => fun
  | [d1, d2] => { results := [.lit (.bool true)], args := [d1, d2] }
  | _ => none }
def vecChooseRow : OpenClaim := { program := "ytcdeielnkmjfhaa", sum := "dd37ed67d97d6c9aa733e31da3e16f6b237f4ee758d121334ab6d0c0590f1c63", func := "hedgerow/hedgelaw5.VecChoose", spec := "vecChoose", plainKeys := false, apart := false }
def VecChooseSaid : Prop := vecChooseRow.holds Try.pinned (OpenSpec.ofChange vecChooseSpec)

/-- ITS FALSE NEIGHBOUR: 'it returns false'. Refute it at one input. -/
def vecChooseWrong : ChangeSpec := { name := "vecChoose", fn := fun _ => fun
  | [d1, d2] => { results := [.lit (.bool false)], args := [d1, d2] }
  | _ => none }
def VecChooseWrongFalsely : Prop := vecChooseRow.holds Try.pinned (OpenSpec.ofChange vecChooseWrong)

/-- 'hedgelaw5.VecRoles': WHATEVER THE INPUT: true; the input reads as it did. -/
def vecRolesSpec : ChangeSpec := { name := "vecRoles", fn := fun _ => fun
  | [d1, d2, d3, d4] => { results := [.lit (.bool true)], args := [d1, d2, d3, d4] }
  | _ => none }
def vecRolesRow : OpenClaim := { program := "ytcdeielnkmjfhaa", sum := "dd37ed67d97d6c9aa733e31da3e16f6b237f4ee758d121334ab6d0c0590f1c63", func := "hedgerow/hedgelaw5.VecRoles", spec := "vecRoles", plainKeys := false, apart := false }
def VecRolesSaid : Prop := vecRolesRow.holds Try.pinned (OpenSpec.ofChange vecRolesSpec)

/-- ITS FALSE NEIGHBOUR: 'it returns false'. Refute it at one input. -/
def vecRolesWrong : ChangeSpec := { name := "vecRoles", fn := fun _ => fun
  | [d1, d2, d3, d4] => { results := [.lit (.bool false)], args := [d1, d2, d3, d4] }
  | _ => none }
def VecRolesWrongFalsely : Prop := vecRolesRow.holds Try.pinned (OpenSpec.ofChange vecRolesWrong)

/-- 'hedgelaw5.VecSorted': WHATEVER THE INPUT: true; the input reads as it did. -/
def vecSortedSpec : ChangeSpec := { name := "vecSorted", fn := fun _ => fun
  | [d] => { results := [.lit (.bool true)], args := [d] }
  | _ => none }
def vecSortedRow : OpenClaim := { program := "ytcdeielnkmjfhaa", sum := "dd37ed67d97d6c9aa733e31da3e16f6b237f4ee758d121334ab6d0c0590f1c63", func := "hedgerow/hedgelaw5.VecSorted", spec := "vecSorted", unfollowed := true, recurses := true, plainKeys := false, apart := false }
def VecSortedSaid : Prop := vecSortedRow.holds Try.pinned (OpenSpec.ofChange vecSortedSpec)

/-- ITS FALSE NEIGHBOUR: 'it returns false'. Refute it at one input. -/
def vecSortedWrong : ChangeSpec := { name := "vecSorted", fn := fun _ => fun
  | [d] => { results := [.lit (.bool false)], args := [d] }
  | _ => none }
def VecSortedWrongFalsely : Prop := vecSortedRow.holds Try.pinned (OpenSpec.ofChange vecSortedWrong)

/-- 'hedgelaw5.VecTells': WHATEVER THE INPUT: true; the input reads as it did. -/
def vecTellsSpec : ChangeSpec := { name := "vecTells", fn := fun _ => fun
  | [d1, d2, d3, d4, d5] => { results := [.lit (.bool true)], args := [d1, d2, d3, d4, d5] }
  | _ => none }
def vecTellsRow : OpenClaim := { program := "ytcdeielnkmjfhaa", sum := "dd37ed67d97d6c9aa733e31da3e16f6b237f4ee758d121334ab6d0c0590f1c63", func := "hedgerow/hedgelaw5.VecTells", spec := "vecTells", unfollowed := true, recurses := true, plainKeys := false, apart := false }
def VecTellsSaid : Prop := vecTellsRow.holds Try.pinned (OpenSpec.ofChange vecTellsSpec)

/-- ITS FALSE NEIGHBOUR: 'it returns false'. Refute it at one input. -/
def vecTellsWrong : ChangeSpec := { name := "vecTells", fn := fun _ => fun
  | [d1, d2, d3, d4, d5] => { results := [.lit (.bool false)], args := [d1, d2, d3, d4, d5] }
  | _ => none }
def VecTellsWrongFalsely : Prop := vecTellsRow.holds Try.pinned (OpenSpec.ofChange vecTellsWrong)

/- THE SECOND FORM. 'bulk': how many values and letters a reading holds, each counted each time it is reached (what is shared counts as often as it is met; a slice's spare places count too). A statement '..UptoSaid' is the law's where the arguments, and the package variables that the reading takes, are together of bulk at most 1048576: NARROWER than '..Said'. Prove '..Said' where nothing that the law and all that it calls make is longer than what came in: it says more and counts as full. Else prove '..UptoSaid'. A law counts once. -/
mutual
def uptoBulk {H : Type} : DataW H → Nat
  | .lit (.string bytes) => bytes.length + 1
  | .lit _ => 1
  | .nil => 1
  | .ptr d => uptoBulk d + 1
  | .slice elems spare => uptoBulkAll elems + uptoBulkAll spare + 1
  | .agg parts => uptoBulkAll parts + 1
  | .iface _ d => uptoBulk d + 1
  | .map entries => uptoBulkEntries entries + 1
  | .held _ => 1
def uptoBulkAll {H : Type} : List (DataW H) → Nat
  | [] => 0
  | d :: r => uptoBulk d + uptoBulkAll r
def uptoBulkEntries {H : Type} : List (Lit × DataW H) → Nat
  | [] => 0
  | x :: r => uptoBulkEntry x + uptoBulkEntries r
def uptoBulkEntry {H : Type} : Lit × DataW H → Nat
  | (.string bytes, d) => bytes.length + uptoBulk d + 1
  | (_, d) => uptoBulk d + 1
 end
def uptoSmall : (H : Type) → List (DataW H) → Bool := fun _ ds => decide (uptoBulkAll ds ≤ 1048576)
def OpenSpec.upto (s : _root_.Go.ChangeSpec) : _root_.Go.OpenSpec := { _root_.Go.OpenSpec.ofChange s with cond := some uptoSmall }

/-- 'hedgelaw5.VecOrder', WHERE WHAT IT READS IS OF BULK AT MOST 1048576: true; the input reads as it did. -/
def vecOrderUptoRow : OpenClaim := { program := "ytcdeielnkmjfhaa", sum := "dd37ed67d97d6c9aa733e31da3e16f6b237f4ee758d121334ab6d0c0590f1c63", func := "hedgerow/hedgelaw5.VecOrder", spec := "vecOrder", plainKeys := false, apart := false, narrowed := true }
def VecOrderUptoSaid : Prop := vecOrderUptoRow.holds Try.pinned (OpenSpec.upto vecOrderSpec)

/-- 'hedgelaw5.VecOver', WHERE WHAT IT READS IS OF BULK AT MOST 1048576: true; the input reads as it did. -/
def vecOverUptoRow : OpenClaim := { program := "ytcdeielnkmjfhaa", sum := "dd37ed67d97d6c9aa733e31da3e16f6b237f4ee758d121334ab6d0c0590f1c63", func := "hedgerow/hedgelaw5.VecOver", spec := "vecOver", plainKeys := false, apart := false, narrowed := true }
def VecOverUptoSaid : Prop := vecOverUptoRow.holds Try.pinned (OpenSpec.upto vecOverSpec)

/-- 'hedgelaw5.VecChoose', WHERE WHAT IT READS IS OF BULK AT MOST 1048576: true; the input reads as it did. -/
def vecChooseUptoRow : OpenClaim := { program := "ytcdeielnkmjfhaa", sum := "dd37ed67d97d6c9aa733e31da3e16f6b237f4ee758d121334ab6d0c0590f1c63", func := "hedgerow/hedgelaw5.VecChoose", spec := "vecChoose", plainKeys := false, apart := false, narrowed := true }
def VecChooseUptoSaid : Prop := vecChooseUptoRow.holds Try.pinned (OpenSpec.upto vecChooseSpec)

/-- 'hedgelaw5.VecRoles', WHERE WHAT IT READS IS OF BULK AT MOST 1048576: true; the input reads as it did. -/
def vecRolesUptoRow : OpenClaim := { program := "ytcdeielnkmjfhaa", sum := "dd37ed67d97d6c9aa733e31da3e16f6b237f4ee758d121334ab6d0c0590f1c63", func := "hedgerow/hedgelaw5.VecRoles", spec := "vecRoles", plainKeys := false, apart := false, narrowed := true }
def VecRolesUptoSaid : Prop := vecRolesUptoRow.holds Try.pinned (OpenSpec.upto vecRolesSpec)

/-- 'hedgelaw5.VecSorted', WHERE WHAT IT READS IS OF BULK AT MOST 1048576: true; the input reads as it did. -/
def vecSortedUptoRow : OpenClaim := { program := "ytcdeielnkmjfhaa", sum := "dd37ed67d97d6c9aa733e31da3e16f6b237f4ee758d121334ab6d0c0590f1c63", func := "hedgerow/hedgelaw5.VecSorted", spec := "vecSorted", unfollowed := true, recurses := true, plainKeys := false, apart := false, narrowed := true }
def VecSortedUptoSaid : Prop := vecSortedUptoRow.holds Try.pinned (OpenSpec.upto vecSortedSpec)

/-- 'hedgelaw5.VecTells', WHERE WHAT IT READS IS OF BULK AT MOST 1048576: true; the input reads as it did. -/
def vecTellsUptoRow : OpenClaim := { program := "ytcdeielnkmjfhaa", sum := "dd37ed67d97d6c9aa733e31da3e16f6b237f4ee758d121334ab6d0c0590f1c63", func := "hedgerow/hedgelaw5.VecTells", spec := "vecTells", unfollowed := true, recurses := true, plainKeys := false, apart := false, narrowed := true }
def VecTellsUptoSaid : Prop := vecTellsUptoRow.holds Try.pinned (OpenSpec.upto vecTellsSpec)

end Rows
end Go.Proofs.Ytcdeielnkmjfhaa
