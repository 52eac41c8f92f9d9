/-
  hedgerow/hedgetop.TopRing: whatever the input: the call returns true, and its arguments read afterwards as they read before.
  Proved for every input; no condition.
-/
import Derived.ProofKit
import Derived.Test.YtcdhlofhhcgohaaGreatChecked
import Derived.Test.YtcdhlofhhcgohaaGreatRows
import Derived.Test.YtcdhlofhhcgohaaGreatxfTopRing
import Derived.Test.YtcdhlofhhcgohaaGreatxhTlk
namespace Go.Proofs.YtcdhlofhhcgohaaGreat
open Go.ChangeShapes Go.WideShapes Go.ChangeAt Go.RowKit
set_option maxRecDepth 100000 in
theorem topRing_pure (vss : List (List V)) (h : AllSh vss [[.int .i64], [.int .i64], [.int .i64]]) : FnF Tryz.prog 9 (parsV Tryz.prog Tryz.f9.params.toList vss) (.bool true) := by
 match vss, h with
 | [x, y, z], ⟨hx, hy, hz, _⟩ =>
  obtain ⟨k, rfl, _⟩ := par_int hx
  obtain ⟨a, rfl, _⟩ := par_int hy
  obtain ⟨b, rfl, _⟩ := par_int hz
  exact law_TopRing k a b
set_option maxRecDepth 100000 in
theorem topRing_lifted (os : Os) (started : os.Started) (H : Type) (enc : TypeId × Value → H) :
  ReturnsInHanded {} Tryz.checked os 9 .any (Rows.topRingSpec.pre6 enc Tryz.prog Tryz.f9 Rows.topRingRow.domain false) (Rows.topRingSpec.post enc Tryz.prog Tryz.f9 false true false false) := by
 refine returnsInHanded_of_change (C := Tryz.checked) noKnob started (by kernel_rfl) Tryz.func9
  (ChangeSpec.witness6 (enc := enc) (C := Tryz.checked) false ⟨#[], #[.int .i64 0, .int .i64 0, .int .i64 0], []⟩ 8 (by kernel_rfl) (by kernel_rfl) (by kernel_rfl) (by kernel_rfl)) ?_
 intro W base args ds gs before hval hW _ _
 refine contract_of (P := Tryz.prog) (n := 9) (tb := 4) (sss := [[.int .i64], [.int .i64], [.int .i64]]) kids full (by kernel_rfl) (by kernel_rfl) rfl Tryz.underlying4 rfl ?_ hval hW (fun vss h _ => topRing_pure vss h)
 intro ds hl
 match ds, hl with
 | [d0, d1, d2], _ => rfl
theorem topRing_holds : Rows.TopRingSaid :=
 OpenClaim.holds_of_wide 9 Tryz.f9 rfl rfl rfl rfl rfl rfl rfl ⟨rfl, rfl, rfl, rfl, rfl⟩ rfl rfl rfl rfl rfl (by kernel_rfl) Tryz.func9 (by kernel_rfl)
  (of_decide_eq_true (by kernel_rfl)) (by unfold Func.isWrapper; first | (rw [if_pos (by decide +kernel)]; kernel_rfl) | (rw [if_neg (by decide +kernel)]; exact ⟨rfl, rfl⟩))
  (fun os started H enc _ => topRing_lifted os started H enc)
end Go.Proofs.YtcdhlofhhcgohaaGreat
