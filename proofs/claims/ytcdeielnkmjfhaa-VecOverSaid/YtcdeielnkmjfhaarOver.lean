/-
  hedgerow/hedgelaw5.VecOver: for every input the call returns true, and its arguments read afterwards as before.
  Proved for every input; no condition.
-/
import Derived.Test.YtcdeielnkmjfhaafLaw5
import Derived.Test.YtcdeielnkmjfhaahSh
import Derived.Test.YtcdeielnkmjfhaaRows
import Derived.Test.YtcdeielnkmjfhaaChecked
import Derived.ProofKit
namespace Go.Proofs.Ytcdeielnkmjfhaa
open Go.ChangeShapes Go.WideShapes Go.ChangeAt Go.RowKit

theorem vecOver_pure (vss : List (List V)) (h : AllSh vss [[.int .u64, .int .i64, .int .u64, .int .i64], [.int .u64, .int .i64, .int .u64, .int .i64], [.int .i64], [.int .i64]]) : FnF Try.prog 4 (parsV Try.prog Try.f4.params.toList vss) (.bool true) := by
  match vss, h with
  | [x, y, z, u], ⟨hx, hy, hz, hu, _⟩ =>
    obtain ⟨a, rfl, _⟩ := vec_of_sh hx
    obtain ⟨b, rfl, _⟩ := vec_of_sh hy
    obtain ⟨p, rfl, _⟩ := par_int hz
    obtain ⟨q, rfl, _⟩ := par_int hu
    exact law_VecOver a b p q

set_option maxRecDepth 100000 in
theorem vecOver_lifted (os : Os) (started : os.Started) (H : Type) (enc : TypeId × Value → H) :
    ReturnsInHanded {} Try.checked os 4 .any (Rows.vecOverSpec.pre6 enc Try.prog Try.f4 Rows.vecOverRow.domain false) (Rows.vecOverSpec.post enc Try.prog Try.f4 false true false false) := by
  refine returnsInHanded_of_change (C := Try.checked) noKnob started (by kernel_rfl) Try.func4
    (ChangeSpec.witness6 (enc := enc) (C := Try.checked) false ⟨#[], #[.agg #[.int .u64 0, .int .i64 0, .int .u64 0, .int .i64 0], .agg #[.int .u64 0, .int .i64 0, .int .u64 0, .int .i64 0], .int .i64 0, .int .i64 0], []⟩ 8 (by kernel_rfl) (by kernel_rfl) (by kernel_rfl) (by kernel_rfl)) ?_
  intro W base args ds gs before hval hW _ _
  refine contract_of (P := Try.prog) (n := 9) (tb := 4) (sss := [[.int .u64, .int .i64, .int .u64, .int .i64], [.int .u64, .int .i64, .int .u64, .int .i64], [.int .i64], [.int .i64]]) kids full (by kernel_rfl) (by kernel_rfl) rfl Try.underlying4 rfl ?_ hval hW vecOver_pure
  intro ds hl
  match ds, hl with
  | [d0, d1, d2, d3], _ => rfl

theorem vecOver_holds : Rows.VecOverSaid :=
  OpenClaim.holds_of_wide 4 Try.f4 rfl rfl rfl rfl rfl rfl rfl ⟨rfl, rfl, rfl, rfl, rfl⟩ rfl rfl rfl rfl rfl (by kernel_rfl) Try.func4 (by kernel_rfl)
    (of_decide_eq_true (by kernel_rfl)) (by unfold Func.isWrapper; first | (rw [if_pos (by decide +kernel)]; kernel_rfl) | (rw [if_neg (by decide +kernel)]; exact ⟨rfl, rfl⟩))
    (fun os started H enc _ => vecOver_lifted os started H enc)
end Go.Proofs.Ytcdeielnkmjfhaa
