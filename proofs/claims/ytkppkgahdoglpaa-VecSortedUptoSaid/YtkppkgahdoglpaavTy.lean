/- The type facts of this translation, by program (wip/dm/types.py). -/
import Derived.KernelRfl
import Derived.Test.YtkppkgahdoglpaaProg
import Derived.Test.YtkppkgahdoglpaavbEq
import Derived.Test.YtkppkgahdoglpaavbMake
namespace Go.Proofs.Ytkppkgahdoglpaa
open Go.RowKit
theorem ti3 : (Try.prog.info? 3).map (fun i => (i.size, i.bytes, i.zero)) = some (1, 8, some (zval false [.int .i64 0])) := by kernel_rfl
instance tyI3 : TyI Try.prog 3 false 1 8 [.int .i64 0] where
  desc := ⟨_, Try.underlying3, rfl⟩
  info := by
    obtain ⟨i, h1, h2⟩ := Option.map_eq_some_iff.1 ti3
    simp only [Prod.mk.injEq] at h2
    exact ⟨i, h1, h2.1, h2.2.1, h2.2.2⟩
  zc := rfl
  zl := rfl
  z1 := fun h => by first | rfl | cases h
instance : IntI Try.prog 3 .i64 := ⟨Try.underlying3⟩
theorem ti34 : (Try.prog.info? 34).map (fun i => (i.size, i.bytes, i.zero)) = some (1, 8, some (zval false [.int .u64 0])) := by kernel_rfl
instance tyI34 : TyI Try.prog 34 false 1 8 [.int .u64 0] where
  desc := ⟨_, Try.underlying34, rfl⟩
  info := by
    obtain ⟨i, h1, h2⟩ := Option.map_eq_some_iff.1 ti34
    simp only [Prod.mk.injEq] at h2
    exact ⟨i, h1, h2.1, h2.2.1, h2.2.2⟩
  zc := rfl
  zl := rfl
  z1 := fun h => by first | rfl | cases h
instance : SlcI Try.prog 35 3 := ⟨Try.underlying35⟩
theorem ti48 : (Try.prog.info? 48).map (fun i => (i.size, i.bytes, i.zero)) = some (4, 32, some (zval true [.int .u64 0, .int .i64 0, .int .u64 0, .int .i64 0])) := by kernel_rfl
instance tyI48 : TyI Try.prog 48 true 4 32 [.int .u64 0, .int .i64 0, .int .u64 0, .int .i64 0] where
  desc := ⟨_, Try.underlying48, rfl⟩
  info := by
    obtain ⟨i, h1, h2⟩ := Option.map_eq_some_iff.1 ti48
    simp only [Prod.mk.injEq] at h2
    exact ⟨i, h1, h2.1, h2.2.1, h2.2.2⟩
  zc := rfl
  zl := rfl
  z1 := fun h => by first | rfl | cases h
instance : FldI Try.prog 48 0 0 34 := ⟨⟨_, _, Try.underlying48, rfl, rfl, rfl⟩⟩
instance : FldI Try.prog 48 1 1 3 := ⟨⟨_, _, Try.underlying48, rfl, rfl, rfl⟩⟩
instance : FldI Try.prog 48 2 2 34 := ⟨⟨_, _, Try.underlying48, rfl, rfl, rfl⟩⟩
instance : FldI Try.prog 48 3 3 3 := ⟨⟨_, _, Try.underlying48, rfl, rfl, rfl⟩⟩
instance : StructI Try.prog 48 [(0, 1), (1, 1), (2, 1), (3, 1)] := ⟨⟨_, Try.underlying48, by kernel_rfl⟩⟩
instance : SlcI Try.prog 64 48 := ⟨Try.underlying64⟩
instance : SlcI Try.prog 86 93 := ⟨Try.underlying86⟩
theorem ti93 : (Try.prog.info? 93).map (fun i => (i.size, i.bytes, i.zero)) = some (7, 56, some (zval true [.int .i64 0, .int .i64 0, .int .i64 0, .int .u64 0, .int .i64 0, .int .u64 0, .int .i64 0])) := by kernel_rfl
instance tyI93 : TyI Try.prog 93 true 7 56 [.int .i64 0, .int .i64 0, .int .i64 0, .int .u64 0, .int .i64 0, .int .u64 0, .int .i64 0] where
  desc := ⟨_, Try.underlying93, rfl⟩
  info := by
    obtain ⟨i, h1, h2⟩ := Option.map_eq_some_iff.1 ti93
    simp only [Prod.mk.injEq] at h2
    exact ⟨i, h1, h2.1, h2.2.1, h2.2.2⟩
  zc := rfl
  zl := rfl
  z1 := fun h => by first | rfl | cases h
instance : FldI Try.prog 93 0 0 3 := ⟨⟨_, _, Try.underlying93, rfl, rfl, rfl⟩⟩
instance : FldI Try.prog 93 1 1 3 := ⟨⟨_, _, Try.underlying93, rfl, rfl, rfl⟩⟩
instance : FldI Try.prog 93 2 2 3 := ⟨⟨_, _, Try.underlying93, rfl, rfl, rfl⟩⟩
instance : FldI Try.prog 93 3 3 48 := ⟨⟨_, _, Try.underlying93, rfl, rfl, rfl⟩⟩
instance : StructI Try.prog 93 [(0, 1), (1, 1), (2, 1), (3, 4)] := ⟨⟨_, Try.underlying93, by kernel_rfl⟩⟩
instance : IntI Try.prog 98 .u64 := ⟨Try.underlying98⟩
instance : EqI Try.prog 48 [1, 1, 1, 1] := ⟨by kernel_rfl, ⟨_, Try.underlying48⟩, by kernel_rfl⟩
end Go.Proofs.Ytkppkgahdoglpaa
