/- The shapes of bytes and frames. -/
import Derived.Test.YtjniepfecgcmaaahSh
import Derived.Test.YtjniepfecgcmaaadFrm
namespace Go.Proofs.Ytjniepfecgcmaaa
open Go.RowKit

theorem byte_of_sh {vs : List V} (h : ListSh vs [.int .u8]) : ∃ x : UInt8, vs = byteV x ∧ True := by
  obtain ⟨n, rfl, hw⟩ := par_int h
  have h2 : 0 ≤ n ∧ n ≤ 255 := by simpa [Lit.wf, IntKind.min, IntKind.max, IntKind.signed, IntKind.bits] using hw
  refine ⟨UInt8.ofNat n.toNat, ?_, trivial⟩
  unfold byteV
  congr 2
  simp
  omega
theorem sh_bytes {a : V} (h : HasSh a (.slice [.int .u8])) : ∃ l : List UInt8, a = .slice (l.map byteV) ∧ l.length ≤ maxLen := by
  obtain ⟨l, h1, _, h3⟩ := sh_slice (fun _ => byte_of_sh) h
  exact ⟨l, h1, h3⟩
theorem par_bytes {vs : List V} (h : ListSh vs [.slice [.int .u8]]) : ∃ l : List UInt8, vs = [.slice (l.map byteV)] ∧ l.length ≤ maxLen := by
  obtain ⟨l, h1, _, h3⟩ := par_slice (fun _ => byte_of_sh) h
  exact ⟨l, h1, h3⟩
theorem bulk_bytes (l : List UInt8) : l.length ≤ (V.slice (l.map byteV)).bulk := by
  have := bulk_len (l.map byteV) (by simp [byteV])
  simp only [List.length_map] at this
  simp only [V.bulk]
  omega
theorem sh_bool {a : V} (h : HasSh a .bool) : ∃ b, a = .bool b := by cases h with | bool b => exact ⟨b, rfl⟩
theorem frame_of_sh {vs : List V} (h : ListSh vs [.int .u64, .int .u64, .bool, .int .i64, .bool, .int .i64, .int .i64, .slice [.int .u8]]) :
    ∃ f : Frame, vs = f.cells ∧ (f.data.length ≤ 1099511627776 → f.ok) := by
  obtain ⟨hl, h⟩ := h
  match vs, hl with
  | [a, b, c, d, e, g, i, j], _ =>
    obtain ⟨x0, rfl, h0⟩ := sh_int (h 0 _ _ rfl rfl)
    obtain ⟨x1, rfl, h1⟩ := sh_int (h 1 _ _ rfl rfl)
    obtain ⟨x2, rfl⟩ := sh_bool (h 2 _ _ rfl rfl)
    obtain ⟨x3, rfl, h3⟩ := sh_int (h 3 _ _ rfl rfl)
    obtain ⟨x4, rfl⟩ := sh_bool (h 4 _ _ rfl rfl)
    obtain ⟨x5, rfl, h5⟩ := sh_int (h 5 _ _ rfl rfl)
    obtain ⟨x6, rfl, h6⟩ := sh_int (h 6 _ _ rfl rfl)
    obtain ⟨x7, rfl, h7⟩ := sh_bytes (h 7 _ _ rfl rfl)
    have k0 := wf_u64 h0
    have k1 := wf_u64 h1
    have k3 := wf_i64 h3
    have k5 := wf_i64 h5
    have k6 := wf_i64 h6
    exact ⟨⟨x0, x1, x2, x3, x4, x5, x6, x7⟩, rfl, fun hq => ⟨k0.1, k0.2, k1.1, k1.2, k3.1, k3.2, k5.1, k5.2, k6.1, k6.2, hq⟩⟩
theorem bulk_frame (f : Frame) : f.data.length ≤ bulkL f.cells := by
  have := bulk_bytes f.data
  unfold Frame.cells
  generalize (V.slice (f.data.map byteV)) = z at this
  simp only [bulkL, V.bulk]
  omega
end Go.Proofs.Ytjniepfecgcmaaa
