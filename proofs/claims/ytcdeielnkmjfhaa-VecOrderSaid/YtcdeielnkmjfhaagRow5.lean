/-
  hedgelaw5.VecOrder: for every input the call returns true, and its arguments read afterwards as they read before.
  No condition.
-/
import Derived.Test.YtcdeielnkmjfhaafLaw5
import Derived.Test.YtcdeielnkmjfhaadRow
import Derived.Test.YtcdeielnkmjfhaaRows
import Derived.Test.YtcdeielnkmjfhaaChecked
import Derived.ProofKit
namespace Go.Proofs.Ytcdeielnkmjfhaa
open Go.ChangeShapes Go.WideShapes Go.ChangeAt Go.RowKit

theorem kids : Kids Try.prog (· < Try.prog.types.size) := kids_rows (by kernel_rfl) (by kernel_rfl)
theorem full : ∀ t e, t < Try.prog.types.size → Try.prog.underlying t = some (.slice e) → 0 < Try.prog.cellsOf e := slices_full_of Try.prog (by kernel_rfl)
theorem noKnob : ownKnob Try.prog.godebug = none := by kernel_rfl

/-- The cells of a vector, out of their shapes. -/
theorem vec_of_sh {vs : List V} (h : ListSh vs [.int .u64, .int .i64, .int .u64, .int .i64]) : ∃ v : Vec, vs = v.cells := by
  obtain ⟨hl, h⟩ := h
  match vs, hl with
  | [a, b, c, d], _ =>
    have h0 := h 0 _ _ rfl rfl
    have h1 := h 1 _ _ rfl rfl
    have h2 := h 2 _ _ rfl rfl
    have h3 := h 3 _ _ rfl rfl
    cases h0; cases h1; cases h2; cases h3
    exact ⟨⟨_, _, _, _⟩, rfl⟩

set_option maxRecDepth 100000 in
theorem vecOrder_lifted (os : Os) (started : os.Started) (H : Type) (enc : TypeId × Value → H) :
    ReturnsInHanded {} Try.checked os 3 .any (Rows.vecOrderSpec.pre6 enc Try.prog Try.f3 Rows.vecOrderRow.domain false) (Rows.vecOrderSpec.post enc Try.prog Try.f3 false true false false) := by
  refine returnsInHanded_of_change (C := Try.checked) noKnob started (by kernel_rfl) Try.func3
    (ChangeSpec.witness6 (enc := enc) (C := Try.checked) false ⟨#[], #[.agg #[.int .u64 0, .int .i64 0, .int .u64 0, .int .i64 0], .agg #[.int .u64 0, .int .i64 0, .int .u64 0, .int .i64 0], .agg #[.int .u64 0, .int .i64 0, .int .u64 0, .int .i64 0]], []⟩ 8 (by kernel_rfl) (by kernel_rfl) (by kernel_rfl) (by kernel_rfl)) ?_
  intro W base args ds gs before hval hW _ _
  refine contract_of (P := Try.prog) (n := 9) (tb := 4) (sss := [[.int .u64, .int .i64, .int .u64, .int .i64], [.int .u64, .int .i64, .int .u64, .int .i64], [.int .u64, .int .i64, .int .u64, .int .i64]]) kids full (by kernel_rfl) (by kernel_rfl) rfl Try.underlying4 rfl ?_ hval hW ?_
  · intro ds hl
    match ds, hl with
    | [_, _, _], _ => rfl
  · intro vss h
    match vss, h with
    | [x, y, z], ⟨hx, hy, hz, _⟩ =>
      obtain ⟨a, rfl⟩ := vec_of_sh hx
      obtain ⟨b, rfl⟩ := vec_of_sh hy
      obtain ⟨c, rfl⟩ := vec_of_sh hz
      exact law_VecOrder a b c

theorem vecOrder_holds : Rows.VecOrderSaid :=
  OpenClaim.holds_of_wide 3 Try.f3 rfl rfl rfl rfl rfl rfl rfl ⟨rfl, rfl, rfl, rfl, rfl⟩ rfl rfl rfl rfl rfl (by kernel_rfl) Try.func3 (by kernel_rfl)
    (of_decide_eq_true (by kernel_rfl)) (by unfold Func.isWrapper; first | (rw [if_pos (by decide +kernel)]; kernel_rfl) | (rw [if_neg (by decide +kernel)]; exact ⟨rfl, rfl⟩))
    (fun os started H enc _ => vecOrder_lifted os started H enc)
end Go.Proofs.Ytcdeielnkmjfhaa
