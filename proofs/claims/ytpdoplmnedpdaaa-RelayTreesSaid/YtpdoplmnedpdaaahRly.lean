/- The shapes of books. -/
import Derived.Test.YtpdoplmnedpdaaahSh
import Derived.Test.YtpdoplmnedpdaaacBkM
import Derived.Test.YtpdoplmnedpdaaadBkr
import Derived.Test.YtpdoplmnedpdaaabNil
import Derived.Test.YtpdoplmnedpdaaacGtM
namespace Go.Proofs.Ytpdoplmnedpdaaa
open Go.RowKit
theorem ent_of_sh {vs : List V} (h : ListSh vs [.int .i64, .int .u64, .int .i64, .int .i64]) : ∃ e : Ent, vs = entV e ∧ U64 e.addr := by
  obtain ⟨hl, h⟩ := h
  match vs, hl with
  | [a, b, c, d], _ =>
    obtain ⟨x0, rfl, _⟩ := sh_int (h 0 _ _ rfl rfl)
    obtain ⟨x1, rfl, h1⟩ := sh_int (h 1 _ _ rfl rfl)
    obtain ⟨x2, rfl, _⟩ := sh_int (h 2 _ _ rfl rfl)
    obtain ⟨x3, rfl, _⟩ := sh_int (h 3 _ _ rfl rfl)
    exact ⟨⟨x0, x1, x2, x3⟩, rfl, wf_u64 h1⟩
theorem par_book {vs : List V} (h : ListSh vs [.slice [.int .i64, .int .u64, .int .i64, .int .i64]]) : ∃ l : List Ent, vs = [.slice (l.map entV)] ∧ (∀ e ∈ l, U64 e.addr) ∧ l.length ≤ maxLen :=
  par_slice (fun _ => ent_of_sh) h
end Go.Proofs.Ytpdoplmnedpdaaa

/- The shapes of lists of numbers. -/
namespace Go.Proofs.Ytpdoplmnedpdaaa
open Go.RowKit
theorem par_ints {vs : List V} (h : ListSh vs [.slice [.int .i64]]) : ∃ l : List Int, vs = [.slice (l.map intV1)] ∧ l.length ≤ maxLen := by
  obtain ⟨l, h1, _, h3⟩ := par_slice (f := intV1) (ok := fun _ => True) (fun e he => by
    obtain ⟨n, rfl, _⟩ := par_int he
    exact ⟨n, rfl, trivial⟩) h
  exact ⟨l, h1, h3⟩
end Go.Proofs.Ytpdoplmnedpdaaa

/- The shapes of bytes. -/
namespace Go.Proofs.Ytpdoplmnedpdaaa
open Go.RowKit

theorem byte_of_sh {vs : List V} (h : ListSh vs [.int .u8]) : ∃ x : UInt8, vs = byteV x ∧ True := by
  obtain ⟨n, rfl, hw⟩ := par_int h
  have h2 : 0 ≤ n ∧ n ≤ 255 := by simpa [Lit.wf, IntKind.min, IntKind.max, IntKind.signed, IntKind.bits] using hw
  refine ⟨UInt8.ofNat n.toNat, ?_, trivial⟩
  unfold byteV
  congr 2
  simp
  omega
theorem sh_bytes {a : V} (h : HasSh a (.slice [.int .u8])) : ∃ l : List UInt8, a = .slice (l.map byteV) ∧ l.length ≤ maxLen := by
  obtain ⟨l, h1, _, h3⟩ := sh_slice (fun _ => byte_of_sh) h
  exact ⟨l, h1, h3⟩
theorem par_bytes {vs : List V} (h : ListSh vs [.slice [.int .u8]]) : ∃ l : List UInt8, vs = [.slice (l.map byteV)] ∧ l.length ≤ maxLen := by
  obtain ⟨l, h1, _, h3⟩ := par_slice (fun _ => byte_of_sh) h
  exact ⟨l, h1, h3⟩
theorem bulk_bytes (l : List UInt8) : l.length ≤ (V.slice (l.map byteV)).bulk := by
  have := bulk_len (l.map byteV) (by simp [byteV])
  simp only [List.length_map] at this
  simp only [V.bulk]
  omega
theorem sh_bool {a : V} (h : HasSh a .bool) : ∃ b, a = .bool b := by cases h with | bool b => exact ⟨b, rfl⟩
end Go.Proofs.Ytpdoplmnedpdaaa

/- The shapes of regions, gates and frames. -/
namespace Go.Proofs.Ytpdoplmnedpdaaa
open Go.RowKit
theorem sh_str9 {a : V} (h : HasSh a .str) : ∃ s, a = .str s := by cases h with | str s hs => exact ⟨s, rfl⟩
theorem way_of_sh9 {vs : List V} (h : ListSh vs [.int .i64, .int .i64]) : ∃ w : Way, vs = wayV w ∧ True := by
  obtain ⟨hl, h⟩ := h
  match vs, hl with
  | [a, b], _ =>
    obtain ⟨x0, rfl, _⟩ := sh_int (h 0 _ _ rfl rfl)
    obtain ⟨x1, rfl, _⟩ := sh_int (h 1 _ _ rfl rfl)
    exact ⟨⟨x0, x1⟩, rfl, trivial⟩
theorem region_of_sh9 {vs : List V} (h : ListSh vs [.str, .int .i64, .slice [.int .i64, .int .i64]]) : ∃ r : Region, vs = r.cells ∧ r.ways.length ≤ 9223372036854775807 := by
  obtain ⟨hl, h⟩ := h
  match vs, hl with
  | [a, b, c], _ =>
    obtain ⟨x0, rfl⟩ := sh_str9 (h 0 _ _ rfl rfl)
    obtain ⟨x1, rfl, _⟩ := sh_int (h 1 _ _ rfl rfl)
    obtain ⟨x2, rfl, _, k⟩ := sh_slice (f := wayV) (ok := fun _ => True) (fun _ => way_of_sh9) (h 2 _ _ rfl rfl)
    exact ⟨⟨x0, x1, x2⟩, rfl, by simp only [maxLen] at k; exact k⟩
theorem sh_ints {a : V} (h : HasSh a (.slice [.int .i64])) : ∃ l : List Int, a = .slice (l.map intV1) := by
  obtain ⟨l, h1, _, _⟩ := sh_slice (f := intV1) (ok := fun _ => True) (fun e he => by
    obtain ⟨n, rfl, _⟩ := par_int he
    exact ⟨n, rfl, trivial⟩) h
  exact ⟨l, h1⟩
theorem sh_bools {a : V} (h : HasSh a (.slice [.bool])) : ∃ l : List Bool, a = .slice (l.map boolV1) := by
  obtain ⟨l, h1, _, _⟩ := sh_slice (f := boolV1) (ok := fun _ => True) (fun e he => by
    obtain ⟨n, rfl⟩ := par_bool he
    exact ⟨n, rfl, trivial⟩) h
  exact ⟨l, h1⟩
theorem gate_of_sh {vs : List V} (h : ListSh vs [.int .i64, .slice [.int .i64], .int .i64, .slice [.bool]]) : ∃ g : Gate, vs = gateV g ∧ True := by
  obtain ⟨hl, h⟩ := h
  match vs, hl with
  | [a, b, c, d], _ =>
    obtain ⟨x0, rfl, _⟩ := sh_int (h 0 _ _ rfl rfl)
    obtain ⟨x1, rfl⟩ := sh_ints (h 1 _ _ rfl rfl)
    obtain ⟨x2, rfl, _⟩ := sh_int (h 2 _ _ rfl rfl)
    obtain ⟨x3, rfl⟩ := sh_bools (h 3 _ _ rfl rfl)
    exact ⟨⟨x0, x1, x2, x3⟩, rfl, trivial⟩
theorem par_gates {vs : List V} (h : ListSh vs [.slice [.int .i64, .slice [.int .i64], .int .i64, .slice [.bool]]]) : ∃ l : List Gate, vs = [.slice (l.map gateV)] := by
  obtain ⟨l, h1, _, _⟩ := par_slice (fun _ => gate_of_sh) h
  exact ⟨l, h1⟩
theorem frame_of_sh9 {vs : List V} (h : ListSh vs [.int .u64, .int .u64, .bool, .int .i64, .bool, .int .i64, .int .i64, .slice [.int .u8]]) : ∃ f : Frame, vs = f.cells ∧ f.ok := by
  obtain ⟨hl, h⟩ := h
  match vs, hl with
  | [a, b, c, d, e, g, i, j], _ =>
    obtain ⟨x0, rfl, h0⟩ := sh_int (h 0 _ _ rfl rfl)
    obtain ⟨x1, rfl, h1⟩ := sh_int (h 1 _ _ rfl rfl)
    obtain ⟨x2, rfl⟩ := sh_bool (h 2 _ _ rfl rfl)
    obtain ⟨x3, rfl, h3⟩ := sh_int (h 3 _ _ rfl rfl)
    obtain ⟨x4, rfl⟩ := sh_bool (h 4 _ _ rfl rfl)
    obtain ⟨x5, rfl, h5⟩ := sh_int (h 5 _ _ rfl rfl)
    obtain ⟨x6, rfl, h6⟩ := sh_int (h 6 _ _ rfl rfl)
    obtain ⟨x7, rfl, h7⟩ := sh_bytes (h 7 _ _ rfl rfl)
    have k0 := wf_u64 h0
    have k1 := wf_u64 h1
    have k3 := wf_i64 h3
    have k5 := wf_i64 h5
    have k6 := wf_i64 h6
    exact ⟨⟨x0, x1, x2, x3, x4, x5, x6, x7⟩, rfl, ⟨k0.1, k0.2, k1.1, k1.2, k3.1, k3.2, k5.1, k5.2, k6.1, k6.2, by simp only [maxLen] at h7; exact h7⟩⟩
end Go.Proofs.Ytpdoplmnedpdaaa
