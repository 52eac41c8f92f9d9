/-
  hedgerow/hedgetop.TopHello: whatever the input: the call returns true, and its arguments read afterwards as they read before.
  Proved for every input; no condition.
-/
import Derived.ProofKit
import Derived.Test.YtcdhlofhhcgohaaGreatChecked
import Derived.Test.YtcdhlofhhcgohaaGreatRows
import Derived.Test.YtcdhlofhhcgohaaGreatxfTopHello
import Derived.Test.YtcdhlofhhcgohaaGreatxhTlk
namespace Go.Proofs.YtcdhlofhhcgohaaGreat
open Go.ChangeShapes Go.WideShapes Go.ChangeAt Go.RowKit
set_option maxRecDepth 100000 in
theorem topHello_pure (vss : List (List V)) (h : AllSh vss [[.slice [.int .u64, .slice [.int .i64], .str, .int .i64, .slice [.int .i64, .int .i64]], .slice [.int .i64, .int .i64, .int .i64, .int .i64, .int .i64, .bool]], [.int .i64], [.slice [.int .i64, .int .i64, .int .i64, .int .i64]], [.int .i64]]) : FnF Tryz.prog 8 (parsV Tryz.prog Tryz.f8.params.toList vss) (.bool true) := by
 match vss, h with
 | [x, y, z, w], ⟨hx, hy, hz, hw, _⟩ =>
  obtain ⟨n, rfl, ht, _⟩ := par_net hx
  obtain ⟨t, rfl, _⟩ := par_int hy
  obtain ⟨l, rfl⟩ := par_dos hz
  obtain ⟨b, rfl, _⟩ := par_int hw
  exact law_TopHello n ht t l b
set_option maxRecDepth 100000 in
theorem topHello_lifted (os : Os) (started : os.Started) (H : Type) (enc : TypeId × Value → H) :
  ReturnsInHanded {} Tryz.checked os 8 .any (Rows.topHelloSpec.pre6 enc Tryz.prog Tryz.f8 Rows.topHelloRow.domain false) (Rows.topHelloSpec.post enc Tryz.prog Tryz.f8 false true false false) := by
 refine returnsInHanded_of_change (C := Tryz.checked) noKnob started (by kernel_rfl) Tryz.func8
  (ChangeSpec.witness6 (enc := enc) (C := Tryz.checked) false ⟨#[], #[.agg #[.slice none 0 0, .slice none 0 0], .int .i64 0, .slice none 0 0, .int .i64 0], []⟩ 8 (by kernel_rfl) (by kernel_rfl) (by kernel_rfl) (by kernel_rfl)) ?_
 intro W base args ds gs before hval hW _ _
 refine contract_of (P := Tryz.prog) (n := 9) (tb := 4) (sss := [[.slice [.int .u64, .slice [.int .i64], .str, .int .i64, .slice [.int .i64, .int .i64]], .slice [.int .i64, .int .i64, .int .i64, .int .i64, .int .i64, .bool]], [.int .i64], [.slice [.int .i64, .int .i64, .int .i64, .int .i64]], [.int .i64]]) kids full (by kernel_rfl) (by kernel_rfl) rfl Tryz.underlying4 rfl ?_ hval hW (fun vss h _ => topHello_pure vss h)
 intro ds hl
 match ds, hl with
 | [d0, d1, d2, d3], _ => rfl
theorem topHello_holds : Rows.TopHelloSaid :=
 OpenClaim.holds_of_wide 8 Tryz.f8 rfl rfl rfl rfl rfl rfl rfl ⟨rfl, rfl, rfl, rfl, rfl⟩ rfl rfl rfl rfl rfl (by kernel_rfl) Tryz.func8 (by kernel_rfl)
  (of_decide_eq_true (by kernel_rfl)) (by unfold Func.isWrapper; first | (rw [if_pos (by decide +kernel)]; kernel_rfl) | (rw [if_neg (by decide +kernel)]; exact ⟨rfl, rfl⟩))
  (fun os started H enc _ => topHello_lifted os started H enc)
end Go.Proofs.YtcdhlofhhcgohaaGreat
