/-
  No cell of these rows narrows 'for every input' (looked for: loops, veiled, ifaces, maps, wideKeys, modest, calm, conditions, laid).
  DERIVED. THE GIVEN ROWS OF THIS SEAT. 4 by the template 'for every input the law returns true; each argument reads behind the call as it read before'; 0 by the template 'total and deterministic' (their statements: YtfmaehhloffabaaTotals.lean).
  GIVEN WITH THE SEED: the statements are not yours to turn. If you find one false, say at which input.
  Laid BY PROGRAM, IN A SANDBOX (cutbox-rows.mjs): the forced cells as the released guide's own fill.sh prints them over the translation d28b6433cf2dc70e… (all of the seat's roots in one cut). By AI agents, Wed Nov 11 2026. No macro, syntax, notation, axiom, sorry.
-/
import Derived.Test.YtfmaehhloffabaaChecked
import GoSem.Claim
import GoSem.ClaimJoined
import GoSem.ClaimMapViews
import Derived.JoinedTies
import Derived.KernelRfl
namespace Go.Proofs.Ytfmaehhloffabaa
/- THE CELL 'sum', in the pinned program and in every row, IS THE sha256 OF THE DUMP (.gsa) THAT YtfmaehhloffabaaProg.lean LOADS. Nothing in Lean hashes anything: it is a label: what it is worth is what the hold of that sum in a sandbox is worth. -/
noncomputable def Try.pinned : Pinned := { name := "ytfmaehhloffabaa", sum := "d28b6433cf2dc70e0421dd04b25b31b14bc02c14b1659476ce4b50a6bc9c1ce1", checked := Try.checked }
namespace Rows
def none {H : Type} : Left H := { results := [], args := [] }

/-- 'hedgetop.TopLine': WHATEVER THE INPUT: true; the input reads as it did. -/
def topLineSpec : ChangeSpec := { name := "topLine", fn := fun _ => fun
  | [d1, d2] => { results := [.lit (.bool true)], args := [d1, d2] }
  | _ => none }
def topLineRow : OpenClaim := { program := "ytfmaehhloffabaa", sum := "d28b6433cf2dc70e0421dd04b25b31b14bc02c14b1659476ce4b50a6bc9c1ce1", func := "hedgerow/hedgetop.TopLine", spec := "topLine", unfollowed := true, recurses := true, plainKeys := false, apart := false }
def TopLineSaid : Prop := topLineRow.holds Try.pinned (OpenSpec.ofChange topLineSpec)

/-- ITS FALSE NEIGHBOUR: 'it returns false'. Refute it at one input. -/
def topLineWrong : ChangeSpec := { name := "topLine", fn := fun _ => fun
  | [d1, d2] => { results := [.lit (.bool false)], args := [d1, d2] }
  | _ => none }
def TopLineWrongFalsely : Prop := topLineRow.holds Try.pinned (OpenSpec.ofChange topLineWrong)

/-- 'hedgetop.TopGhost': WHATEVER THE INPUT: true; the input reads as it did. -/
def topGhostSpec : ChangeSpec := { name := "topGhost", fn := fun _ => fun
  | [d1, d2] => { results := [.lit (.bool true)], args := [d1, d2] }
  | _ => none }
def topGhostRow : OpenClaim := { program := "ytfmaehhloffabaa", sum := "d28b6433cf2dc70e0421dd04b25b31b14bc02c14b1659476ce4b50a6bc9c1ce1", func := "hedgerow/hedgetop.TopGhost", spec := "topGhost", unfollowed := true, recurses := true, plainKeys := false, apart := false }
def TopGhostSaid : Prop := topGhostRow.holds Try.pinned (OpenSpec.ofChange topGhostSpec)

/-- ITS FALSE NEIGHBOUR: 'it returns false'. Refute it at one input. -/
def topGhostWrong : ChangeSpec := { name := "topGhost", fn := fun _ => fun
  | [d1, d2] => { results := [.lit (.bool false)], args := [d1, d2] }
  | _ => none }
def TopGhostWrongFalsely : Prop := topGhostRow.holds Try.pinned (OpenSpec.ofChange topGhostWrong)

/-- 'hedgetop.TopCheap': WHATEVER THE INPUT: true; the input reads as it did. -/
def topCheapSpec : ChangeSpec := { name := "topCheap", fn := fun _ => fun
  | [d1, d2] => { results := [.lit (.bool true)], args := [d1, d2] }
  | _ => none }
def topCheapRow : OpenClaim := { program := "ytfmaehhloffabaa", sum := "d28b6433cf2dc70e0421dd04b25b31b14bc02c14b1659476ce4b50a6bc9c1ce1", func := "hedgerow/hedgetop.TopCheap", spec := "topCheap", unfollowed := true, recurses := true, plainKeys := false, apart := false }
def TopCheapSaid : Prop := topCheapRow.holds Try.pinned (OpenSpec.ofChange topCheapSpec)

/-- ITS FALSE NEIGHBOUR: 'it returns false'. Refute it at one input. -/
def topCheapWrong : ChangeSpec := { name := "topCheap", fn := fun _ => fun
  | [d1, d2] => { results := [.lit (.bool false)], args := [d1, d2] }
  | _ => none }
def TopCheapWrongFalsely : Prop := topCheapRow.holds Try.pinned (OpenSpec.ofChange topCheapWrong)

/-- 'hedgetop.TopShut': WHATEVER THE INPUT: true; the input reads as it did. -/
def topShutSpec : ChangeSpec := { name := "topShut", fn := fun _ => fun
  | [d] => { results := [.lit (.bool true)], args := [d] }
  | _ => none }
def topShutRow : OpenClaim := { program := "ytfmaehhloffabaa", sum := "d28b6433cf2dc70e0421dd04b25b31b14bc02c14b1659476ce4b50a6bc9c1ce1", func := "hedgerow/hedgetop.TopShut", spec := "topShut", unfollowed := true, recurses := true, plainKeys := false, apart := false }
def TopShutSaid : Prop := topShutRow.holds Try.pinned (OpenSpec.ofChange topShutSpec)

/-- ITS FALSE NEIGHBOUR: 'it returns false'. Refute it at one input. -/
def topShutWrong : ChangeSpec := { name := "topShut", fn := fun _ => fun
  | [d] => { results := [.lit (.bool false)], args := [d] }
  | _ => none }
def TopShutWrongFalsely : Prop := topShutRow.holds Try.pinned (OpenSpec.ofChange topShutWrong)

/- THE SECOND FORM. 'bulk': how many values and letters a reading holds, each counted each time it is reached (what is shared counts as often as it is met; a slice's spare places count too). A statement '..UptoSaid' is the law's where the arguments, and the package variables that the reading takes, are together of bulk at most 1048576: NARROWER than '..Said'. Prove '..Said' where nothing that the law and all that it calls make is longer than what came in: it says more and counts as full. Else prove '..UptoSaid'. A law counts once. -/
mutual
def uptoBulk {H : Type} : DataW H → Nat
  | .lit (.string bytes) => bytes.length + 1
  | .lit _ => 1
  | .nil => 1
  | .ptr d => uptoBulk d + 1
  | .slice elems spare => uptoBulkAll elems + uptoBulkAll spare + 1
  | .agg parts => uptoBulkAll parts + 1
  | .iface _ d => uptoBulk d + 1
  | .map entries => uptoBulkEntries entries + 1
  | .held _ => 1
def uptoBulkAll {H : Type} : List (DataW H) → Nat
  | [] => 0
  | d :: r => uptoBulk d + uptoBulkAll r
def uptoBulkEntries {H : Type} : List (Lit × DataW H) → Nat
  | [] => 0
  | x :: r => uptoBulkEntry x + uptoBulkEntries r
def uptoBulkEntry {H : Type} : Lit × DataW H → Nat
  | (.string bytes, d) => bytes.length + uptoBulk d + 1
  | (_, d) => uptoBulk d + 1
 end
def uptoSmall : (H : Type) → List (DataW H) → Bool := fun _ ds => decide (uptoBulkAll ds ≤ 1048576)
def OpenSpec.upto (s : _root_.Go.ChangeSpec) : _root_.Go.OpenSpec := { _root_.Go.OpenSpec.ofChange s with cond := some uptoSmall }

/-- 'hedgetop.TopLine', WHERE WHAT IT READS IS OF BULK AT MOST 1048576: true; the input reads as it did. -/
def topLineUptoRow : OpenClaim := { program := "ytfmaehhloffabaa", sum := "d28b6433cf2dc70e0421dd04b25b31b14bc02c14b1659476ce4b50a6bc9c1ce1", func := "hedgerow/hedgetop.TopLine", spec := "topLine", unfollowed := true, recurses := true, plainKeys := false, apart := false, narrowed := true }
def TopLineUptoSaid : Prop := topLineUptoRow.holds Try.pinned (OpenSpec.upto topLineSpec)

/-- 'hedgetop.TopGhost', WHERE WHAT IT READS IS OF BULK AT MOST 1048576: true; the input reads as it did. -/
def topGhostUptoRow : OpenClaim := { program := "ytfmaehhloffabaa", sum := "d28b6433cf2dc70e0421dd04b25b31b14bc02c14b1659476ce4b50a6bc9c1ce1", func := "hedgerow/hedgetop.TopGhost", spec := "topGhost", unfollowed := true, recurses := true, plainKeys := false, apart := false, narrowed := true }
def TopGhostUptoSaid : Prop := topGhostUptoRow.holds Try.pinned (OpenSpec.upto topGhostSpec)

/-- 'hedgetop.TopCheap', WHERE WHAT IT READS IS OF BULK AT MOST 1048576: true; the input reads as it did. -/
def topCheapUptoRow : OpenClaim := { program := "ytfmaehhloffabaa", sum := "d28b6433cf2dc70e0421dd04b25b31b14bc02c14b1659476ce4b50a6bc9c1ce1", func := "hedgerow/hedgetop.TopCheap", spec := "topCheap", unfollowed := true, recurses := true, plainKeys := false, apart := false, narrowed := true }
def TopCheapUptoSaid : Prop := topCheapUptoRow.holds Try.pinned (OpenSpec.upto topCheapSpec)

/-- 'hedgetop.TopShut', WHERE WHAT IT READS IS OF BULK AT MOST 1048576: true; the input reads as it did. -/
def topShutUptoRow : OpenClaim := { program := "ytfmaehhloffabaa", sum := "d28b6433cf2dc70e0421dd04b25b31b14bc02c14b1659476ce4b50a6bc9c1ce1", func := "hedgerow/hedgetop.TopShut", spec := "topShut", unfollowed := true, recurses := true, plainKeys := false, apart := false, narrowed := true }
def TopShutUptoSaid : Prop := topShutUptoRow.holds Try.pinned (OpenSpec.upto topShutSpec)

end Rows
end Go.Proofs.Ytfmaehhloffabaa
