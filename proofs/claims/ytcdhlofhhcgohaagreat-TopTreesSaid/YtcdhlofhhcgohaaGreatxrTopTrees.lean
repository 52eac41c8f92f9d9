/-
  hedgerow/hedgetop.TopTrees: whatever the input: the call returns true, and its arguments read afterwards as they read before.
  Proved for every input; no condition.
-/
import Derived.ProofKit
import Derived.Test.YtcdhlofhhcgohaaGreatChecked
import Derived.Test.YtcdhlofhhcgohaaGreatRows
import Derived.Test.YtcdhlofhhcgohaaGreatxfTopTrees
import Derived.Test.YtcdhlofhhcgohaaGreatxhTlk
namespace Go.Proofs.YtcdhlofhhcgohaaGreat
open Go.ChangeShapes Go.WideShapes Go.ChangeAt Go.RowKit
set_option maxRecDepth 100000 in
theorem topTrees_pure (vss : List (List V)) (h : AllSh vss [[.int .i64], [.int .i64], [.int .i64]]) : FnF Tryz.prog 10 (parsV Tryz.prog Tryz.f10.params.toList vss) (.bool true) := by
 match vss, h with
 | [x, y, z], ⟨hx, hy, hz, _⟩ =>
  obtain ⟨k, rfl, _⟩ := par_int hx
  obtain ⟨a, rfl, _⟩ := par_int hy
  obtain ⟨b, rfl, _⟩ := par_int hz
  exact law_TopTrees k a b
set_option maxRecDepth 100000 in
theorem topTrees_lifted (os : Os) (started : os.Started) (H : Type) (enc : TypeId × Value → H) :
  ReturnsInHanded {} Tryz.checked os 10 .any (Rows.topTreesSpec.pre6 enc Tryz.prog Tryz.f10 Rows.topTreesRow.domain false) (Rows.topTreesSpec.post enc Tryz.prog Tryz.f10 false true false false) := by
 refine returnsInHanded_of_change (C := Tryz.checked) noKnob started (by kernel_rfl) Tryz.func10
  (ChangeSpec.witness6 (enc := enc) (C := Tryz.checked) false ⟨#[], #[.int .i64 0, .int .i64 0, .int .i64 0], []⟩ 8 (by kernel_rfl) (by kernel_rfl) (by kernel_rfl) (by kernel_rfl)) ?_
 intro W base args ds gs before hval hW _ _
 refine contract_of (P := Tryz.prog) (n := 9) (tb := 4) (sss := [[.int .i64], [.int .i64], [.int .i64]]) kids full (by kernel_rfl) (by kernel_rfl) rfl Tryz.underlying4 rfl ?_ hval hW (fun vss h _ => topTrees_pure vss h)
 intro ds hl
 match ds, hl with
 | [d0, d1, d2], _ => rfl
theorem topTrees_holds : Rows.TopTreesSaid :=
 OpenClaim.holds_of_wide 10 Tryz.f10 rfl rfl rfl rfl rfl rfl rfl ⟨rfl, rfl, rfl, rfl, rfl⟩ rfl rfl rfl rfl rfl (by kernel_rfl) Tryz.func10 (by kernel_rfl)
  (of_decide_eq_true (by kernel_rfl)) (by unfold Func.isWrapper; first | (rw [if_pos (by decide +kernel)]; kernel_rfl) | (rw [if_neg (by decide +kernel)]; exact ⟨rfl, rfl⟩))
  (fun os started H enc _ => topTrees_lifted os started H enc)
end Go.Proofs.YtcdhlofhhcgohaaGreat
