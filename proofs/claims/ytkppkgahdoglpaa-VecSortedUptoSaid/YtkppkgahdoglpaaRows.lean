/-
  No cell of these rows narrows 'for every input' (looked for: loops, veiled, ifaces, maps, wideKeys, modest, calm, conditions, laid).
  DERIVED. THE GIVEN ROWS OF THIS SEAT. 9 by the template 'for every input the law returns true; each argument reads behind the call as it read before'; 0 by the template 'total and deterministic' (their statements: YtkppkgahdoglpaaTotals.lean).
  GIVEN WITH THE SEED: the statements are not yours to turn. If you find one false, say at which input.
  Laid BY PROGRAM, IN A SANDBOX (cutbox-rows.mjs): the forced cells as the released guide's own fill.sh prints them over the translation 37451970509c1db0… (all of the seat's roots in one cut). By AI agents, Wed Nov 11 2026. No macro, syntax, notation, axiom, sorry.
-/
import Derived.Test.YtkppkgahdoglpaaChecked
import GoSem.Claim
import GoSem.ClaimJoined
import GoSem.ClaimMapViews
import Derived.JoinedTies
import Derived.KernelRfl
namespace Go.Proofs.Ytkppkgahdoglpaa
/- THE CELL 'sum', in the pinned program and in every row, IS THE sha256 OF THE DUMP (.gsa) THAT YtkppkgahdoglpaaProg.lean LOADS. Nothing in Lean hashes anything: it is a label: what it is worth is what the hold of that sum in a sandbox is worth. -/
noncomputable def Try.pinned : Pinned := { name := "ytkppkgahdoglpaa", sum := "37451970509c1db0cf657efca683be46d1825842d8ab4aaac97b24d886e61f03", checked := Try.checked }
namespace Rows
def none {H : Type} : Left H := { results := [], args := [] }

/-- 'hedgelaw6.PlanTells': WHATEVER THE INPUT: true; the input reads as it did. -/
def planTellsSpec : ChangeSpec := { name := "planTells", fn := fun _ => fun
  | [d1, d2] => { results := [.lit (.bool true)], args := [d1, d2] }
  | _ => none }
def planTellsRow : OpenClaim := { program := "ytkppkgahdoglpaa", sum := "37451970509c1db0cf657efca683be46d1825842d8ab4aaac97b24d886e61f03", func := "hedgerow/hedgelaw6.PlanTells", spec := "planTells", unfollowed := true, recurses := true, plainKeys := false, apart := false }
def PlanTellsSaid : Prop := planTellsRow.holds Try.pinned (OpenSpec.ofChange planTellsSpec)

/-- ITS FALSE NEIGHBOUR: 'it returns false'. Refute it at one input. -/
def planTellsWrong : ChangeSpec := { name := "planTells", fn := fun _ => fun
  | [d1, d2] => { results := [.lit (.bool false)], args := [d1, d2] }
  | _ => none }
def PlanTellsWrongFalsely : Prop := planTellsRow.holds Try.pinned (OpenSpec.ofChange planTellsWrong)

/-- 'hedgelaw6.PlanRoot': WHATEVER THE INPUT: true; the input reads as it did. -/
def planRootSpec : ChangeSpec := { name := "planRoot", fn := fun _ => fun
  | [d1, d2] => { results := [.lit (.bool true)], args := [d1, d2] }
  | _ => none }
def planRootRow : OpenClaim := { program := "ytkppkgahdoglpaa", sum := "37451970509c1db0cf657efca683be46d1825842d8ab4aaac97b24d886e61f03", func := "hedgerow/hedgelaw6.PlanRoot", spec := "planRoot", unfollowed := true, recurses := true, plainKeys := false, apart := false }
def PlanRootSaid : Prop := planRootRow.holds Try.pinned (OpenSpec.ofChange planRootSpec)

/-- ITS FALSE NEIGHBOUR: 'it returns false'. Refute it at one input. -/
def planRootWrong : ChangeSpec := { name := "planRoot", fn := fun _ => fun
  | [d1, d2] => { results := [.lit (.bool false)], args := [d1, d2] }
  | _ => none }
def PlanRootWrongFalsely : Prop := planRootRow.holds Try.pinned (OpenSpec.ofChange planRootWrong)

/-- 'hedgelaw6.PlanFar': WHATEVER THE INPUT: true; the input reads as it did. -/
def planFarSpec : ChangeSpec := { name := "planFar", fn := fun _ => fun
  | [d1, d2] => { results := [.lit (.bool true)], args := [d1, d2] }
  | _ => none }
def planFarRow : OpenClaim := { program := "ytkppkgahdoglpaa", sum := "37451970509c1db0cf657efca683be46d1825842d8ab4aaac97b24d886e61f03", func := "hedgerow/hedgelaw6.PlanFar", spec := "planFar", unfollowed := true, recurses := true, plainKeys := false, apart := false }
def PlanFarSaid : Prop := planFarRow.holds Try.pinned (OpenSpec.ofChange planFarSpec)

/-- ITS FALSE NEIGHBOUR: 'it returns false'. Refute it at one input. -/
def planFarWrong : ChangeSpec := { name := "planFar", fn := fun _ => fun
  | [d1, d2] => { results := [.lit (.bool false)], args := [d1, d2] }
  | _ => none }
def PlanFarWrongFalsely : Prop := planFarRow.holds Try.pinned (OpenSpec.ofChange planFarWrong)

/-- 'hedgelaw6.PlanEnds': WHATEVER THE INPUT: true; the input reads as it did. -/
def planEndsSpec : ChangeSpec := { name := "planEnds", fn := fun _ => fun
  | [d1, d2] => { results := [.lit (.bool true)], args := [d1, d2] }
  | _ => none }
def planEndsRow : OpenClaim := { program := "ytkppkgahdoglpaa", sum := "37451970509c1db0cf657efca683be46d1825842d8ab4aaac97b24d886e61f03", func := "hedgerow/hedgelaw6.PlanEnds", spec := "planEnds", unfollowed := true, recurses := true, plainKeys := false, apart := false }
def PlanEndsSaid : Prop := planEndsRow.holds Try.pinned (OpenSpec.ofChange planEndsSpec)

/-- ITS FALSE NEIGHBOUR: 'it returns false'. Refute it at one input. -/
def planEndsWrong : ChangeSpec := { name := "planEnds", fn := fun _ => fun
  | [d1, d2] => { results := [.lit (.bool false)], args := [d1, d2] }
  | _ => none }
def PlanEndsWrongFalsely : Prop := planEndsRow.holds Try.pinned (OpenSpec.ofChange planEndsWrong)

/-- 'hedgelaw6.PlanTree': WHATEVER THE INPUT: true; the input reads as it did. -/
def planTreeSpec : ChangeSpec := { name := "planTree", fn := fun _ => fun
  | [d1, d2] => { results := [.lit (.bool true)], args := [d1, d2] }
  | _ => none }
def planTreeRow : OpenClaim := { program := "ytkppkgahdoglpaa", sum := "37451970509c1db0cf657efca683be46d1825842d8ab4aaac97b24d886e61f03", func := "hedgerow/hedgelaw6.PlanTree", spec := "planTree", unfollowed := true, recurses := true, plainKeys := false, apart := false }
def PlanTreeSaid : Prop := planTreeRow.holds Try.pinned (OpenSpec.ofChange planTreeSpec)

/-- ITS FALSE NEIGHBOUR: 'it returns false'. Refute it at one input. -/
def planTreeWrong : ChangeSpec := { name := "planTree", fn := fun _ => fun
  | [d1, d2] => { results := [.lit (.bool false)], args := [d1, d2] }
  | _ => none }
def PlanTreeWrongFalsely : Prop := planTreeRow.holds Try.pinned (OpenSpec.ofChange planTreeWrong)

/-- 'hedgelaw6.PlanNames': WHATEVER THE INPUT: true; the input reads as it did. -/
def planNamesSpec : ChangeSpec := { name := "planNames", fn := fun _ => fun
  | [d1, d2] => { results := [.lit (.bool true)], args := [d1, d2] }
  | _ => none }
def planNamesRow : OpenClaim := { program := "ytkppkgahdoglpaa", sum := "37451970509c1db0cf657efca683be46d1825842d8ab4aaac97b24d886e61f03", func := "hedgerow/hedgelaw6.PlanNames", spec := "planNames", unfollowed := true, recurses := true, plainKeys := false, apart := false }
def PlanNamesSaid : Prop := planNamesRow.holds Try.pinned (OpenSpec.ofChange planNamesSpec)

/-- ITS FALSE NEIGHBOUR: 'it returns false'. Refute it at one input. -/
def planNamesWrong : ChangeSpec := { name := "planNames", fn := fun _ => fun
  | [d1, d2] => { results := [.lit (.bool false)], args := [d1, d2] }
  | _ => none }
def PlanNamesWrongFalsely : Prop := planNamesRow.holds Try.pinned (OpenSpec.ofChange planNamesWrong)

/-- 'hedgelaw6.PlanMore': WHATEVER THE INPUT: true; the input reads as it did. -/
def planMoreSpec : ChangeSpec := { name := "planMore", fn := fun _ => fun
  | [d1, d2, d3] => { results := [.lit (.bool true)], args := [d1, d2, d3] }
  | _ => none }
def planMoreRow : OpenClaim := { program := "ytkppkgahdoglpaa", sum := "37451970509c1db0cf657efca683be46d1825842d8ab4aaac97b24d886e61f03", func := "hedgerow/hedgelaw6.PlanMore", spec := "planMore", unfollowed := true, recurses := true, plainKeys := false, apart := false }
def PlanMoreSaid : Prop := planMoreRow.holds Try.pinned (OpenSpec.ofChange planMoreSpec)

/-- ITS FALSE NEIGHBOUR: 'it returns false'. Refute it at one input. -/
def planMoreWrong : ChangeSpec := { name := "planMore", fn := fun _ => fun
  | [d1, d2, d3] => { results := [.lit (.bool false)], args := [d1, d2, d3] }
  | _ => none }
def PlanMoreWrongFalsely : Prop := planMoreRow.holds Try.pinned (OpenSpec.ofChange planMoreWrong)

/-- 'hedgelaw6.PlanTrees': WHATEVER THE INPUT: true; the input reads as it did. -/
def planTreesSpec : ChangeSpec := { name := "planTrees", fn := fun _ => fun
  | [d1, d2, d3, d4, d5] => { results := [.lit (.bool true)], args := [d1, d2, d3, d4, d5] }
  | _ => none }
def planTreesRow : OpenClaim := { program := "ytkppkgahdoglpaa", sum := "37451970509c1db0cf657efca683be46d1825842d8ab4aaac97b24d886e61f03", func := "hedgerow/hedgelaw6.PlanTrees", spec := "planTrees", unfollowed := true, recurses := true, plainKeys := false, apart := false }
def PlanTreesSaid : Prop := planTreesRow.holds Try.pinned (OpenSpec.ofChange planTreesSpec)

/-- ITS FALSE NEIGHBOUR: 'it returns false'. Refute it at one input. -/
def planTreesWrong : ChangeSpec := { name := "planTrees", fn := fun _ => fun
  | [d1, d2, d3, d4, d5] => { results := [.lit (.bool false)], args := [d1, d2, d3, d4, d5] }
  | _ => none }
def PlanTreesWrongFalsely : Prop := planTreesRow.holds Try.pinned (OpenSpec.ofChange planTreesWrong)

/-- 'hedgelaw5.VecSorted': WHATEVER THE INPUT: true; the input reads as it did. -/
def vecSortedSpec : ChangeSpec := { name := "vecSorted", fn := fun _ => fun
  | [d] => { results := [.lit (.bool true)], args := [d] }
  | _ => none }
def vecSortedRow : OpenClaim := { program := "ytkppkgahdoglpaa", sum := "37451970509c1db0cf657efca683be46d1825842d8ab4aaac97b24d886e61f03", func := "hedgerow/hedgelaw5.VecSorted", spec := "vecSorted", unfollowed := true, recurses := true, plainKeys := false, apart := false }
def VecSortedSaid : Prop := vecSortedRow.holds Try.pinned (OpenSpec.ofChange vecSortedSpec)

/-- ITS FALSE NEIGHBOUR: 'it returns false'. Refute it at one input. -/
def vecSortedWrong : ChangeSpec := { name := "vecSorted", fn := fun _ => fun
  | [d] => { results := [.lit (.bool false)], args := [d] }
  | _ => none }
def VecSortedWrongFalsely : Prop := vecSortedRow.holds Try.pinned (OpenSpec.ofChange vecSortedWrong)

/- THE SECOND FORM. 'bulk': how many values and letters a reading holds, each counted each time it is reached (what is shared counts as often as it is met; a slice's spare places count too). A statement '..UptoSaid' is the law's where the arguments, and the package variables that the reading takes, are together of bulk at most 1048576: NARROWER than '..Said'. Prove '..Said' where nothing that the law and all that it calls make is longer than what came in: it says more and counts as full. Else prove '..UptoSaid'. A law counts once. -/
mutual
def uptoBulk {H : Type} : DataW H → Nat
  | .lit (.string bytes) => bytes.length + 1
  | .lit _ => 1
  | .nil => 1
  | .ptr d => uptoBulk d + 1
  | .slice elems spare => uptoBulkAll elems + uptoBulkAll spare + 1
  | .agg parts => uptoBulkAll parts + 1
  | .iface _ d => uptoBulk d + 1
  | .map entries => uptoBulkEntries entries + 1
  | .held _ => 1
def uptoBulkAll {H : Type} : List (DataW H) → Nat
  | [] => 0
  | d :: r => uptoBulk d + uptoBulkAll r
def uptoBulkEntries {H : Type} : List (Lit × DataW H) → Nat
  | [] => 0
  | x :: r => uptoBulkEntry x + uptoBulkEntries r
def uptoBulkEntry {H : Type} : Lit × DataW H → Nat
  | (.string bytes, d) => bytes.length + uptoBulk d + 1
  | (_, d) => uptoBulk d + 1
 end
def uptoSmall : (H : Type) → List (DataW H) → Bool := fun _ ds => decide (uptoBulkAll ds ≤ 1048576)
def OpenSpec.upto (s : _root_.Go.ChangeSpec) : _root_.Go.OpenSpec := { _root_.Go.OpenSpec.ofChange s with cond := some uptoSmall }

/-- 'hedgelaw6.PlanTells', WHERE WHAT IT READS IS OF BULK AT MOST 1048576: true; the input reads as it did. -/
def planTellsUptoRow : OpenClaim := { program := "ytkppkgahdoglpaa", sum := "37451970509c1db0cf657efca683be46d1825842d8ab4aaac97b24d886e61f03", func := "hedgerow/hedgelaw6.PlanTells", spec := "planTells", unfollowed := true, recurses := true, plainKeys := false, apart := false, narrowed := true }
def PlanTellsUptoSaid : Prop := planTellsUptoRow.holds Try.pinned (OpenSpec.upto planTellsSpec)

/-- 'hedgelaw6.PlanRoot', WHERE WHAT IT READS IS OF BULK AT MOST 1048576: true; the input reads as it did. -/
def planRootUptoRow : OpenClaim := { program := "ytkppkgahdoglpaa", sum := "37451970509c1db0cf657efca683be46d1825842d8ab4aaac97b24d886e61f03", func := "hedgerow/hedgelaw6.PlanRoot", spec := "planRoot", unfollowed := true, recurses := true, plainKeys := false, apart := false, narrowed := true }
def PlanRootUptoSaid : Prop := planRootUptoRow.holds Try.pinned (OpenSpec.upto planRootSpec)

/-- 'hedgelaw6.PlanFar', WHERE WHAT IT READS IS OF BULK AT MOST 1048576: true; the input reads as it did. -/
def planFarUptoRow : OpenClaim := { program := "ytkppkgahdoglpaa", sum := "37451970509c1db0cf657efca683be46d1825842d8ab4aaac97b24d886e61f03", func := "hedgerow/hedgelaw6.PlanFar", spec := "planFar", unfollowed := true, recurses := true, plainKeys := false, apart := false, narrowed := true }
def PlanFarUptoSaid : Prop := planFarUptoRow.holds Try.pinned (OpenSpec.upto planFarSpec)

/-- 'hedgelaw6.PlanEnds', WHERE WHAT IT READS IS OF BULK AT MOST 1048576: true; the input reads as it did. -/
def planEndsUptoRow : OpenClaim := { program := "ytkppkgahdoglpaa", sum := "37451970509c1db0cf657efca683be46d1825842d8ab4aaac97b24d886e61f03", func := "hedgerow/hedgelaw6.PlanEnds", spec := "planEnds", unfollowed := true, recurses := true, plainKeys := false, apart := false, narrowed := true }
def PlanEndsUptoSaid : Prop := planEndsUptoRow.holds Try.pinned (OpenSpec.upto planEndsSpec)

/-- 'hedgelaw6.PlanTree', WHERE WHAT IT READS IS OF BULK AT MOST 1048576: true; the input reads as it did. -/
def planTreeUptoRow : OpenClaim := { program := "ytkppkgahdoglpaa", sum := "37451970509c1db0cf657efca683be46d1825842d8ab4aaac97b24d886e61f03", func := "hedgerow/hedgelaw6.PlanTree", spec := "planTree", unfollowed := true, recurses := true, plainKeys := false, apart := false, narrowed := true }
def PlanTreeUptoSaid : Prop := planTreeUptoRow.holds Try.pinned (OpenSpec.upto planTreeSpec)

/-- 'hedgelaw6.PlanNames', WHERE WHAT IT READS IS OF BULK AT MOST 1048576: true; the input reads as it did. -/
def planNamesUptoRow : OpenClaim := { program := "ytkppkgahdoglpaa", sum := "37451970509c1db0cf657efca683be46d1825842d8ab4aaac97b24d886e61f03", func := "hedgerow/hedgelaw6.PlanNames", spec := "planNames", unfollowed := true, recurses := true, plainKeys := false, apart := false, narrowed := true }
def PlanNamesUptoSaid : Prop := planNamesUptoRow.holds Try.pinned (OpenSpec.upto planNamesSpec)

/-- 'hedgelaw6.PlanMore', WHERE WHAT IT READS IS OF BULK AT MOST 1048576: true; the input reads as it did. -/
def planMoreUptoRow : OpenClaim := { program := "ytkppkgahdoglpaa", sum := "37451970509c1db0cf657efca683be46d1825842d8ab4aaac97b24d886e61f03", func := "hedgerow/hedgelaw6.PlanMore", spec := "planMore", unfollowed := true, recurses := true, plainKeys := false, apart := false, narrowed := true }
def PlanMoreUptoSaid : Prop := planMoreUptoRow.holds Try.pinned (OpenSpec.upto planMoreSpec)

/-- 'hedgelaw6.PlanTrees', WHERE WHAT IT READS IS OF BULK AT MOST 1048576: true; the input reads as it did. -/
def planTreesUptoRow : OpenClaim := { program := "ytkppkgahdoglpaa", sum := "37451970509c1db0cf657efca683be46d1825842d8ab4aaac97b24d886e61f03", func := "hedgerow/hedgelaw6.PlanTrees", spec := "planTrees", unfollowed := true, recurses := true, plainKeys := false, apart := false, narrowed := true }
def PlanTreesUptoSaid : Prop := planTreesUptoRow.holds Try.pinned (OpenSpec.upto planTreesSpec)

/-- 'hedgelaw5.VecSorted', WHERE WHAT IT READS IS OF BULK AT MOST 1048576: true; the input reads as it did. -/
def vecSortedUptoRow : OpenClaim := { program := "ytkppkgahdoglpaa", sum := "37451970509c1db0cf657efca683be46d1825842d8ab4aaac97b24d886e61f03", func := "hedgerow/hedgelaw5.VecSorted", spec := "vecSorted", unfollowed := true, recurses := true, plainKeys := false, apart := false, narrowed := true }
def VecSortedUptoSaid : Prop := vecSortedUptoRow.holds Try.pinned (OpenSpec.upto vecSortedSpec)

end Rows
end Go.Proofs.Ytkppkgahdoglpaa
