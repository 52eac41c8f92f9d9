/- The shapes of hellos. -/
import Derived.Test.YtjniepfecgcmaaahByB
import Derived.Test.YtjniepfecgcmaaadHeb
namespace Go.Proofs.Ytjniepfecgcmaaa
open Go.RowKit
theorem tale_of_sh {vs : List V} (h : ListSh vs [.int .i64, .int .u64, .int .i64, .int .u64, .int .i64, .int .i64]) : ∃ t : Tale, vs = t.cells ∧ t.ok := by
  obtain ⟨hl, h⟩ := h
  match vs, hl with
  | [a, b, c, d, e, g], _ =>
    obtain ⟨x0, rfl, h0⟩ := sh_int (h 0 _ _ rfl rfl)
    obtain ⟨x1, rfl, h1⟩ := sh_int (h 1 _ _ rfl rfl)
    obtain ⟨x2, rfl, h2⟩ := sh_int (h 2 _ _ rfl rfl)
    obtain ⟨x3, rfl, h3⟩ := sh_int (h 3 _ _ rfl rfl)
    obtain ⟨x4, rfl, h4⟩ := sh_int (h 4 _ _ rfl rfl)
    obtain ⟨x5, rfl, h5⟩ := sh_int (h 5 _ _ rfl rfl)
    have k1 := wf_u64 h1
    have k3 := wf_u64 h3
    exact ⟨⟨x0, x1, x2, x3, x4, x5⟩, rfl, ⟨k1.1, k1.2, k3.1, k3.2⟩⟩
theorem hello_of_sh {vs : List V} (h : ListSh vs [.slice [.int .u8], .slice [.int .i64, .int .u64, .int .i64, .int .u64, .int .i64, .int .i64]]) (hb : bulkL vs ≤ 1048576) :
    ∃ g : Hello, vs = g.cells ∧ g.ok ∧ g.tales.length ≤ 1048576 := by
  obtain ⟨hl, h⟩ := h
  match vs, hl with
  | [a, b], _ =>
    obtain ⟨x0, rfl, h0⟩ := sh_bytes (h 0 _ _ rfl rfl)
    obtain ⟨x1, rfl, h1, h1'⟩ := sh_slice (f := Tale.cells) (ok := Tale.ok) (fun _ => tale_of_sh) (h 1 _ _ rfl rfl)
    have k0 := bulk_bytes x0
    have k1 := bulk_len (x1.map Tale.cells) (by simp [Tale.cells])
    have k2 : bulkL [V.slice (x0.map byteV), V.slice (x1.map Tale.cells)] = (V.slice (x0.map byteV)).bulk + (bulkLL (x1.map Tale.cells) + 1) := by
      generalize V.slice (x0.map byteV) = z
      simp only [bulkL, V.bulk]
      try omega
    rw [k2] at hb
    rw [List.length_map] at k1
    exact ⟨⟨x0, x1⟩, rfl, ⟨h1, by simp only; omega, by simp only; omega⟩, by simp only; omega⟩
end Go.Proofs.Ytjniepfecgcmaaa
