/- The shapes of regions. -/
import Derived.Test.YtppficphaidoaaahSh
import Derived.Test.YtppficphaidoaaacRgM
namespace Go.Proofs.Ytppficphaidoaaa
open Go.RowKit
theorem sh_str {a : V} (h : HasSh a .str) : ∃ s, a = .str s := by cases h with | str s hs => exact ⟨s, rfl⟩
theorem way_of_sh {vs : List V} (h : ListSh vs [.int .i64, .int .i64]) : ∃ w : Way, vs = wayV w ∧ True := by
  obtain ⟨hl, h⟩ := h
  match vs, hl with
  | [a, b], _ =>
    obtain ⟨x0, rfl, _⟩ := sh_int (h 0 _ _ rfl rfl)
    obtain ⟨x1, rfl, _⟩ := sh_int (h 1 _ _ rfl rfl)
    exact ⟨⟨x0, x1⟩, rfl, trivial⟩
theorem region_of_sh {vs : List V} (h : ListSh vs [.str, .int .i64, .slice [.int .i64, .int .i64]]) (hb : bulkL vs ≤ 1048576) : ∃ r : Region, vs = r.cells ∧ r.ways.length ≤ 1048576 := by
  obtain ⟨hl, h⟩ := h
  match vs, hl with
  | [a, b, c], _ =>
    obtain ⟨x0, rfl⟩ := sh_str (h 0 _ _ rfl rfl)
    obtain ⟨x1, rfl, _⟩ := sh_int (h 1 _ _ rfl rfl)
    obtain ⟨x2, rfl, _, _⟩ := sh_slice (f := wayV) (ok := fun _ => True) (fun _ => way_of_sh) (h 2 _ _ rfl rfl)
    have k1 := bulk_len (x2.map wayV) (by simp [wayV])
    simp only [bulkL, V.bulk] at hb
    rw [List.length_map] at k1
    exact ⟨⟨x0, x1, x2⟩, rfl, by simp only; omega⟩
end Go.Proofs.Ytppficphaidoaaa
