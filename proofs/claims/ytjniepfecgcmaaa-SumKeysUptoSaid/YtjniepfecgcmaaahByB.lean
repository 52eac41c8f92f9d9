/- The shapes of bytes. -/
import Derived.Test.YtjniepfecgcmaaahSh
import Derived.Test.YtjniepfecgcmaaabNil
namespace Go.Proofs.Ytjniepfecgcmaaa
open Go.RowKit

theorem byte_of_sh {vs : List V} (h : ListSh vs [.int .u8]) : ∃ x : UInt8, vs = byteV x ∧ True := by
  obtain ⟨n, rfl, hw⟩ := par_int h
  have h2 : 0 ≤ n ∧ n ≤ 255 := by simpa [Lit.wf, IntKind.min, IntKind.max, IntKind.signed, IntKind.bits] using hw
  refine ⟨UInt8.ofNat n.toNat, ?_, trivial⟩
  unfold byteV
  congr 2
  simp
  omega
theorem sh_bytes {a : V} (h : HasSh a (.slice [.int .u8])) : ∃ l : List UInt8, a = .slice (l.map byteV) ∧ l.length ≤ maxLen := by
  obtain ⟨l, h1, _, h3⟩ := sh_slice (fun _ => byte_of_sh) h
  exact ⟨l, h1, h3⟩
theorem par_bytes {vs : List V} (h : ListSh vs [.slice [.int .u8]]) : ∃ l : List UInt8, vs = [.slice (l.map byteV)] ∧ l.length ≤ maxLen := by
  obtain ⟨l, h1, _, h3⟩ := par_slice (fun _ => byte_of_sh) h
  exact ⟨l, h1, h3⟩
theorem bulk_bytes (l : List UInt8) : l.length ≤ (V.slice (l.map byteV)).bulk := by
  have := bulk_len (l.map byteV) (by simp [byteV])
  simp only [List.length_map] at this
  simp only [V.bulk]
  omega
theorem sh_bool {a : V} (h : HasSh a .bool) : ∃ b, a = .bool b := by cases h with | bool b => exact ⟨b, rfl⟩
end Go.Proofs.Ytjniepfecgcmaaa
