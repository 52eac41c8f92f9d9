/- The shape of a region, for all lengths. -/
import Derived.Test.YtppficphaidoaaahSh
import Derived.Test.YtppficphaidoaaacRgW
namespace Go.Proofs.Ytppficphaidoaaa
open Go.RowKit
theorem way_of_shR {vs : List V} (h : ListSh vs [.int .i64, .int .i64]) : ∃ w : Way, vs = wayV w ∧ True := by
  obtain ⟨hl, h⟩ := h
  match vs, hl with
  | [a, b], _ =>
    obtain ⟨x0, rfl, _⟩ := sh_int (h 0 _ _ rfl rfl)
    obtain ⟨x1, rfl, _⟩ := sh_int (h 1 _ _ rfl rfl)
    exact ⟨⟨x0, x1⟩, rfl, trivial⟩
theorem region_of_shR {vs : List V} (h : ListSh vs [.str, .int .i64, .slice [.int .i64, .int .i64]]) : ∃ r : Region, vs = r.cells ∧ r.ways.length ≤ 9223372036854775807 := by
  obtain ⟨hl, h⟩ := h
  match vs, hl with
  | [a, b, c], _ =>
    have h0 := h 0 _ _ rfl rfl
    cases h0 with
    | str x0 _ =>
      obtain ⟨x1, rfl, _⟩ := sh_int (h 1 _ _ rfl rfl)
      obtain ⟨x2, rfl, _, k⟩ := sh_slice (f := wayV) (ok := fun _ => True) (fun _ => way_of_shR) (h 2 _ _ rfl rfl)
      exact ⟨⟨x0, x1, x2⟩, rfl, by simp only [maxLen] at k; exact k⟩
end Go.Proofs.Ytppficphaidoaaa
