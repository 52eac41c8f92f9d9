/- The shapes of vectors and offers. -/
import Derived.Test.YtkppkgahdoglpaaveChoose
import Derived.Test.YtkppkgahdoglpaavhSh
namespace Go.Proofs.Ytkppkgahdoglpaa
open Go.RowKit
def Vec.ok (v : Vec) : Prop := U64 v.root ∧ I64 v.cost ∧ U64 v.bridge ∧ I64 v.port
theorem vec_of_sh {vs : List V} (h : ListSh vs [.int .u64, .int .i64, .int .u64, .int .i64]) : ∃ v : Vec, vs = v.cells ∧ v.ok := by
  obtain ⟨hl, h⟩ := h
  match vs, hl with
  | [a, b, c, d], _ =>
    obtain ⟨x0, rfl, h0⟩ := sh_int (h 0 _ _ rfl rfl)
    obtain ⟨x1, rfl, h1⟩ := sh_int (h 1 _ _ rfl rfl)
    obtain ⟨x2, rfl, h2⟩ := sh_int (h 2 _ _ rfl rfl)
    obtain ⟨x3, rfl, h3⟩ := sh_int (h 3 _ _ rfl rfl)
    exact ⟨⟨x0, x1, x2, x3⟩, rfl, wf_u64 h0, wf_i64 h1, wf_u64 h2, wf_i64 h3⟩
end Go.Proofs.Ytkppkgahdoglpaa
