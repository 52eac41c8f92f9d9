/-
  hedgerow/hedgetop.TopCheap: whatever the input: the call returns true, and its arguments read afterwards as they read before.
  Proved for every input; no condition.
-/
import Derived.ProofKit
import Derived.Test.YtfmaehhloffabaaChecked
import Derived.Test.YtfmaehhloffabaaRows
import Derived.Test.YtfmaehhloffabaayfTopCheap
import Derived.Test.YtfmaehhloffabaayhSh
namespace Go.Proofs.Ytfmaehhloffabaa
open Go.ChangeShapes Go.WideShapes Go.ChangeAt Go.RowKit
set_option maxRecDepth 100000 in
theorem topCheap_pure (vss : List (List V)) (h : AllSh vss [[.int .i64], [.int .i64]]) : FnF Try.prog 5 (parsV Try.prog Try.f5.params.toList vss) (.bool true) := by
  match vss, h with
  | [x, y], ⟨hx, hy, _⟩ =>
    obtain ⟨k, rfl, _⟩ := par_int hx
    obtain ⟨a, rfl, _⟩ := par_int hy
    exact law_TopCheap k a
set_option maxRecDepth 100000 in
theorem topCheap_lifted (os : Os) (started : os.Started) (H : Type) (enc : TypeId × Value → H) :
    ReturnsInHanded {} Try.checked os 5 .any (Rows.topCheapSpec.pre6 enc Try.prog Try.f5 Rows.topCheapRow.domain false) (Rows.topCheapSpec.post enc Try.prog Try.f5 false true false false) := by
  refine returnsInHanded_of_change (C := Try.checked) noKnob started (by kernel_rfl) Try.func5
    (ChangeSpec.witness6 (enc := enc) (C := Try.checked) false ⟨#[], #[.int .i64 0, .int .i64 0], []⟩ 8 (by kernel_rfl) (by kernel_rfl) (by kernel_rfl) (by kernel_rfl)) ?_
  intro W base args ds gs before hval hW _ _
  refine contract_of (P := Try.prog) (n := 9) (tb := 4) (sss := [[.int .i64], [.int .i64]]) kids full (by kernel_rfl) (by kernel_rfl) rfl Try.underlying4 rfl ?_ hval hW (fun vss h _ => topCheap_pure vss h)
  intro ds hl
  match ds, hl with
  | [d0, d1], _ => rfl
theorem topCheap_holds : Rows.TopCheapSaid :=
  OpenClaim.holds_of_wide 5 Try.f5 rfl rfl rfl rfl rfl rfl rfl ⟨rfl, rfl, rfl, rfl, rfl⟩ rfl rfl rfl rfl rfl (by kernel_rfl) Try.func5 (by kernel_rfl)
    (of_decide_eq_true (by kernel_rfl)) (by unfold Func.isWrapper; first | (rw [if_pos (by decide +kernel)]; kernel_rfl) | (rw [if_neg (by decide +kernel)]; exact ⟨rfl, rfl⟩))
    (fun os started H enc _ => topCheap_lifted os started H enc)
end Go.Proofs.Ytfmaehhloffabaa
