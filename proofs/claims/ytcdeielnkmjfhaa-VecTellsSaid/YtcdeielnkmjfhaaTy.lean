/- The type facts of this translation, by program (wip/dm/types.py). -/
import Derived.Test.YtcdeielnkmjfhaabMake
import Derived.Test.YtcdeielnkmjfhaabEq
import Derived.Test.YtcdeielnkmjfhaaProg
import Derived.KernelRfl
namespace Go.Proofs.Ytcdeielnkmjfhaa
open Go.RowKit

theorem ti2 : (Try.prog.info? 2).map (fun i => (i.size, i.bytes, i.zero)) = some (1, 8, some (zval false [.int .i64 0])) := by kernel_rfl
instance tyI2 : TyI Try.prog 2 false 1 8 [.int .i64 0] where
  desc := ⟨_, Try.underlying2, rfl⟩
  info := by
    obtain ⟨i, h1, h2⟩ := Option.map_eq_some_iff.1 ti2
    simp only [Prod.mk.injEq] at h2
    exact ⟨i, h1, h2.1, h2.2.1, h2.2.2⟩
  zc := rfl
  zl := rfl
  z1 := fun h => by first | rfl | cases h
instance : IntI Try.prog 2 .i64 := ⟨Try.underlying2⟩
theorem ti3 : (Try.prog.info? 3).map (fun i => (i.size, i.bytes, i.zero)) = some (1, 8, some (zval false [.int .i64 0])) := by kernel_rfl
instance tyI3 : TyI Try.prog 3 false 1 8 [.int .i64 0] where
  desc := ⟨_, Try.underlying3, rfl⟩
  info := by
    obtain ⟨i, h1, h2⟩ := Option.map_eq_some_iff.1 ti3
    simp only [Prod.mk.injEq] at h2
    exact ⟨i, h1, h2.1, h2.2.1, h2.2.2⟩
  zc := rfl
  zl := rfl
  z1 := fun h => by first | rfl | cases h
instance : IntI Try.prog 3 .i64 := ⟨Try.underlying3⟩
theorem ti4 : (Try.prog.info? 4).map (fun i => (i.size, i.bytes, i.zero)) = some (1, 1, some (zval false [.bool false])) := by kernel_rfl
instance tyI4 : TyI Try.prog 4 false 1 1 [.bool false] where
  desc := ⟨_, Try.underlying4, rfl⟩
  info := by
    obtain ⟨i, h1, h2⟩ := Option.map_eq_some_iff.1 ti4
    simp only [Prod.mk.injEq] at h2
    exact ⟨i, h1, h2.1, h2.2.1, h2.2.2⟩
  zc := rfl
  zl := rfl
  z1 := fun h => by first | rfl | cases h
instance : BoolI Try.prog 4 := ⟨Try.underlying4⟩
theorem ti5 : (Try.prog.info? 5).map (fun i => (i.size, i.bytes, i.zero)) = some (1, 1, some (zval false [.int .u8 0])) := by kernel_rfl
instance tyI5 : TyI Try.prog 5 false 1 1 [.int .u8 0] where
  desc := ⟨_, Try.underlying5, rfl⟩
  info := by
    obtain ⟨i, h1, h2⟩ := Option.map_eq_some_iff.1 ti5
    simp only [Prod.mk.injEq] at h2
    exact ⟨i, h1, h2.1, h2.2.1, h2.2.2⟩
  zc := rfl
  zl := rfl
  z1 := fun h => by first | rfl | cases h
instance : IntI Try.prog 5 .u8 := ⟨Try.underlying5⟩
theorem ti9 : (Try.prog.info? 9).map (fun i => (i.size, i.bytes, i.zero)) = some (1, 16, some (zval false [.str []])) := by kernel_rfl
instance tyI9 : TyI Try.prog 9 false 1 16 [.str []] where
  desc := ⟨_, Try.underlying9, rfl⟩
  info := by
    obtain ⟨i, h1, h2⟩ := Option.map_eq_some_iff.1 ti9
    simp only [Prod.mk.injEq] at h2
    exact ⟨i, h1, h2.1, h2.2.1, h2.2.2⟩
  zc := rfl
  zl := rfl
  z1 := fun h => by first | rfl | cases h
instance : StrI Try.prog 9 := ⟨Try.underlying9⟩
theorem ti12 : (Try.prog.info? 12).map (fun i => (i.size, i.bytes, i.zero)) = some (1, 8, some (zval false [.int .u64 0])) := by kernel_rfl
instance tyI12 : TyI Try.prog 12 false 1 8 [.int .u64 0] where
  desc := ⟨_, Try.underlying12, rfl⟩
  info := by
    obtain ⟨i, h1, h2⟩ := Option.map_eq_some_iff.1 ti12
    simp only [Prod.mk.injEq] at h2
    exact ⟨i, h1, h2.1, h2.2.1, h2.2.2⟩
  zc := rfl
  zl := rfl
  z1 := fun h => by first | rfl | cases h
instance : IntI Try.prog 12 .u64 := ⟨Try.underlying12⟩
theorem ti13 : (Try.prog.info? 13).map (fun i => (i.size, i.bytes, i.zero)) = some (2, 24, some (zval true [.str [], .int .u64 0])) := by kernel_rfl
instance tyI13 : TyI Try.prog 13 true 2 24 [.str [], .int .u64 0] where
  desc := ⟨_, Try.underlying13, rfl⟩
  info := by
    obtain ⟨i, h1, h2⟩ := Option.map_eq_some_iff.1 ti13
    simp only [Prod.mk.injEq] at h2
    exact ⟨i, h1, h2.1, h2.2.1, h2.2.2⟩
  zc := rfl
  zl := rfl
  z1 := fun h => by first | rfl | cases h
instance : FldI Try.prog 13 0 0 9 := ⟨⟨_, _, Try.underlying13, rfl, rfl, rfl⟩⟩
instance : FldI Try.prog 13 1 1 12 := ⟨⟨_, _, Try.underlying13, rfl, rfl, rfl⟩⟩
instance : StructI Try.prog 13 [(0, 1), (1, 1)] := ⟨⟨_, Try.underlying13, by kernel_rfl⟩⟩
theorem ti21 : (Try.prog.info? 21).map (fun i => (i.size, i.bytes, i.zero)) = some (1, 4, some (zval false [.int .i32 0])) := by kernel_rfl
instance tyI21 : TyI Try.prog 21 false 1 4 [.int .i32 0] where
  desc := ⟨_, Try.underlying21, rfl⟩
  info := by
    obtain ⟨i, h1, h2⟩ := Option.map_eq_some_iff.1 ti21
    simp only [Prod.mk.injEq] at h2
    exact ⟨i, h1, h2.1, h2.2.1, h2.2.2⟩
  zc := rfl
  zl := rfl
  z1 := fun h => by first | rfl | cases h
instance : IntI Try.prog 21 .i32 := ⟨Try.underlying21⟩
theorem ti22 : (Try.prog.info? 22).map (fun i => (i.size, i.bytes, i.zero)) = some (1, 8, some (zval false [.int .u64 0])) := by kernel_rfl
instance tyI22 : TyI Try.prog 22 false 1 8 [.int .u64 0] where
  desc := ⟨_, Try.underlying22, rfl⟩
  info := by
    obtain ⟨i, h1, h2⟩ := Option.map_eq_some_iff.1 ti22
    simp only [Prod.mk.injEq] at h2
    exact ⟨i, h1, h2.1, h2.2.1, h2.2.2⟩
  zc := rfl
  zl := rfl
  z1 := fun h => by first | rfl | cases h
instance : IntI Try.prog 22 .u64 := ⟨Try.underlying22⟩
theorem ti23 : (Try.prog.info? 23).map (fun i => (i.size, i.bytes, i.zero)) = some (4, 32, some (zval true [.int .u64 0, .int .i64 0, .int .u64 0, .int .i64 0])) := by kernel_rfl
instance tyI23 : TyI Try.prog 23 true 4 32 [.int .u64 0, .int .i64 0, .int .u64 0, .int .i64 0] where
  desc := ⟨_, Try.underlying23, rfl⟩
  info := by
    obtain ⟨i, h1, h2⟩ := Option.map_eq_some_iff.1 ti23
    simp only [Prod.mk.injEq] at h2
    exact ⟨i, h1, h2.1, h2.2.1, h2.2.2⟩
  zc := rfl
  zl := rfl
  z1 := fun h => by first | rfl | cases h
instance : FldI Try.prog 23 0 0 22 := ⟨⟨_, _, Try.underlying23, rfl, rfl, rfl⟩⟩
instance : FldI Try.prog 23 1 1 3 := ⟨⟨_, _, Try.underlying23, rfl, rfl, rfl⟩⟩
instance : FldI Try.prog 23 2 2 22 := ⟨⟨_, _, Try.underlying23, rfl, rfl, rfl⟩⟩
instance : FldI Try.prog 23 3 3 3 := ⟨⟨_, _, Try.underlying23, rfl, rfl, rfl⟩⟩
instance : StructI Try.prog 23 [(0, 1), (1, 1), (2, 1), (3, 1)] := ⟨⟨_, Try.underlying23, by kernel_rfl⟩⟩
theorem ti24 : (Try.prog.info? 24).map (fun i => (i.size, i.bytes, i.zero)) = some (4, 32, some (zval true [.int .u64 0, .int .i64 0, .int .u64 0, .int .i64 0])) := by kernel_rfl
instance tyI24 : TyI Try.prog 24 true 4 32 [.int .u64 0, .int .i64 0, .int .u64 0, .int .i64 0] where
  desc := ⟨_, Try.underlying24, rfl⟩
  info := by
    obtain ⟨i, h1, h2⟩ := Option.map_eq_some_iff.1 ti24
    simp only [Prod.mk.injEq] at h2
    exact ⟨i, h1, h2.1, h2.2.1, h2.2.2⟩
  zc := rfl
  zl := rfl
  z1 := fun h => by first | rfl | cases h
instance : FldI Try.prog 24 0 0 22 := ⟨⟨_, _, Try.underlying24, rfl, rfl, rfl⟩⟩
instance : FldI Try.prog 24 1 1 3 := ⟨⟨_, _, Try.underlying24, rfl, rfl, rfl⟩⟩
instance : FldI Try.prog 24 2 2 22 := ⟨⟨_, _, Try.underlying24, rfl, rfl, rfl⟩⟩
instance : FldI Try.prog 24 3 3 3 := ⟨⟨_, _, Try.underlying24, rfl, rfl, rfl⟩⟩
instance : StructI Try.prog 24 [(0, 1), (1, 1), (2, 1), (3, 1)] := ⟨⟨_, Try.underlying24, by kernel_rfl⟩⟩
theorem ti31 : (Try.prog.info? 31).map (fun i => (i.size, i.bytes, i.zero)) = some (1, 24, some (zval false [.slice []])) := by kernel_rfl
instance tyI31 : TyI Try.prog 31 false 1 24 [.slice []] where
  desc := ⟨_, Try.underlying31, rfl⟩
  info := by
    obtain ⟨i, h1, h2⟩ := Option.map_eq_some_iff.1 ti31
    simp only [Prod.mk.injEq] at h2
    exact ⟨i, h1, h2.1, h2.2.1, h2.2.2⟩
  zc := rfl
  zl := rfl
  z1 := fun h => by first | rfl | cases h
instance : SlcI Try.prog 31 35 := ⟨Try.underlying31⟩
theorem ti34 : (Try.prog.info? 34).map (fun i => (i.size, i.bytes, i.zero)) = some (7, 56, some (zval true [.int .i64 0, .int .i64 0, .int .i64 0, .int .u64 0, .int .i64 0, .int .u64 0, .int .i64 0])) := by kernel_rfl
instance tyI34 : TyI Try.prog 34 true 7 56 [.int .i64 0, .int .i64 0, .int .i64 0, .int .u64 0, .int .i64 0, .int .u64 0, .int .i64 0] where
  desc := ⟨_, Try.underlying34, rfl⟩
  info := by
    obtain ⟨i, h1, h2⟩ := Option.map_eq_some_iff.1 ti34
    simp only [Prod.mk.injEq] at h2
    exact ⟨i, h1, h2.1, h2.2.1, h2.2.2⟩
  zc := rfl
  zl := rfl
  z1 := fun h => by first | rfl | cases h
instance : FldI Try.prog 34 0 0 3 := ⟨⟨_, _, Try.underlying34, rfl, rfl, rfl⟩⟩
instance : FldI Try.prog 34 1 1 3 := ⟨⟨_, _, Try.underlying34, rfl, rfl, rfl⟩⟩
instance : FldI Try.prog 34 2 2 3 := ⟨⟨_, _, Try.underlying34, rfl, rfl, rfl⟩⟩
instance : FldI Try.prog 34 3 3 24 := ⟨⟨_, _, Try.underlying34, rfl, rfl, rfl⟩⟩
instance : StructI Try.prog 34 [(0, 1), (1, 1), (2, 1), (3, 4)] := ⟨⟨_, Try.underlying34, by kernel_rfl⟩⟩
theorem ti35 : (Try.prog.info? 35).map (fun i => (i.size, i.bytes, i.zero)) = some (7, 56, some (zval true [.int .i64 0, .int .i64 0, .int .i64 0, .int .u64 0, .int .i64 0, .int .u64 0, .int .i64 0])) := by kernel_rfl
instance tyI35 : TyI Try.prog 35 true 7 56 [.int .i64 0, .int .i64 0, .int .i64 0, .int .u64 0, .int .i64 0, .int .u64 0, .int .i64 0] where
  desc := ⟨_, Try.underlying35, rfl⟩
  info := by
    obtain ⟨i, h1, h2⟩ := Option.map_eq_some_iff.1 ti35
    simp only [Prod.mk.injEq] at h2
    exact ⟨i, h1, h2.1, h2.2.1, h2.2.2⟩
  zc := rfl
  zl := rfl
  z1 := fun h => by first | rfl | cases h
instance : FldI Try.prog 35 0 0 3 := ⟨⟨_, _, Try.underlying35, rfl, rfl, rfl⟩⟩
instance : FldI Try.prog 35 1 1 3 := ⟨⟨_, _, Try.underlying35, rfl, rfl, rfl⟩⟩
instance : FldI Try.prog 35 2 2 3 := ⟨⟨_, _, Try.underlying35, rfl, rfl, rfl⟩⟩
instance : FldI Try.prog 35 3 3 24 := ⟨⟨_, _, Try.underlying35, rfl, rfl, rfl⟩⟩
instance : StructI Try.prog 35 [(0, 1), (1, 1), (2, 1), (3, 4)] := ⟨⟨_, Try.underlying35, by kernel_rfl⟩⟩
theorem ti38 : (Try.prog.info? 38).map (fun i => (i.size, i.bytes, i.zero)) = some (1, 24, some (zval false [.slice []])) := by kernel_rfl
instance tyI38 : TyI Try.prog 38 false 1 24 [.slice []] where
  desc := ⟨_, Try.underlying38, rfl⟩
  info := by
    obtain ⟨i, h1, h2⟩ := Option.map_eq_some_iff.1 ti38
    simp only [Prod.mk.injEq] at h2
    exact ⟨i, h1, h2.1, h2.2.1, h2.2.2⟩
  zc := rfl
  zl := rfl
  z1 := fun h => by first | rfl | cases h
instance : SlcI Try.prog 38 24 := ⟨Try.underlying38⟩
theorem ti50 : (Try.prog.info? 50).map (fun i => (i.size, i.bytes, i.zero)) = some (1, 24, some (zval false [.slice []])) := by kernel_rfl
instance tyI50 : TyI Try.prog 50 false 1 24 [.slice []] where
  desc := ⟨_, Try.underlying50, rfl⟩
  info := by
    obtain ⟨i, h1, h2⟩ := Option.map_eq_some_iff.1 ti50
    simp only [Prod.mk.injEq] at h2
    exact ⟨i, h1, h2.1, h2.2.1, h2.2.2⟩
  zc := rfl
  zl := rfl
  z1 := fun h => by first | rfl | cases h
instance : SlcI Try.prog 50 3 := ⟨Try.underlying50⟩
theorem ti56 : (Try.prog.info? 56).map (fun i => (i.size, i.bytes, i.zero)) = some (1, 8, some (zval false [.int .u64 0])) := by kernel_rfl
instance tyI56 : TyI Try.prog 56 false 1 8 [.int .u64 0] where
  desc := ⟨_, Try.underlying56, rfl⟩
  info := by
    obtain ⟨i, h1, h2⟩ := Option.map_eq_some_iff.1 ti56
    simp only [Prod.mk.injEq] at h2
    exact ⟨i, h1, h2.1, h2.2.1, h2.2.2⟩
  zc := rfl
  zl := rfl
  z1 := fun h => by first | rfl | cases h
instance : IntI Try.prog 56 .u64 := ⟨Try.underlying56⟩
theorem ti60 : (Try.prog.info? 60).map (fun i => (i.size, i.bytes, i.zero)) = some (0, 0, some (zval true [])) := by kernel_rfl
instance tyI60 : TyI Try.prog 60 true 0 0 [] where
  desc := ⟨_, Try.underlying60, rfl⟩
  info := by
    obtain ⟨i, h1, h2⟩ := Option.map_eq_some_iff.1 ti60
    simp only [Prod.mk.injEq] at h2
    exact ⟨i, h1, h2.1, h2.2.1, h2.2.2⟩
  zc := rfl
  zl := rfl
  z1 := fun h => by first | rfl | cases h
instance : ArrI Try.prog 60 0 16 := ⟨Try.underlying60⟩
theorem ti61 : (Try.prog.info? 61).map (fun i => (i.size, i.bytes, i.zero)) = some (0, 0, some (zval true [])) := by kernel_rfl
instance tyI61 : TyI Try.prog 61 true 0 0 [] where
  desc := ⟨_, Try.underlying61, rfl⟩
  info := by
    obtain ⟨i, h1, h2⟩ := Option.map_eq_some_iff.1 ti61
    simp only [Prod.mk.injEq] at h2
    exact ⟨i, h1, h2.1, h2.2.1, h2.2.2⟩
  zc := rfl
  zl := rfl
  z1 := fun h => by first | rfl | cases h
instance : FldI Try.prog 61 0 0 60 := ⟨⟨_, _, Try.underlying61, rfl, rfl, rfl⟩⟩
instance : StructI Try.prog 61 [(0, 0)] := ⟨⟨_, Try.underlying61, by kernel_rfl⟩⟩
theorem ti64 : (Try.prog.info? 64).map (fun i => (i.size, i.bytes, i.zero)) = some (1, 4, some (zval false [.int .u32 0])) := by kernel_rfl
instance tyI64 : TyI Try.prog 64 false 1 4 [.int .u32 0] where
  desc := ⟨_, Try.underlying64, rfl⟩
  info := by
    obtain ⟨i, h1, h2⟩ := Option.map_eq_some_iff.1 ti64
    simp only [Prod.mk.injEq] at h2
    exact ⟨i, h1, h2.1, h2.2.1, h2.2.2⟩
  zc := rfl
  zl := rfl
  z1 := fun h => by first | rfl | cases h
instance : IntI Try.prog 64 .u32 := ⟨Try.underlying64⟩
instance : EqI Try.prog 24 [1, 1, 1, 1] := ⟨by kernel_rfl, ⟨_, Try.underlying24⟩, by kernel_rfl⟩
instance : EqI Try.prog 35 [1, 1, 1, 1, 1, 1, 1] := ⟨by kernel_rfl, ⟨_, Try.underlying35⟩, by kernel_rfl⟩
instance : MapI Try.prog 40 24 3 := ⟨Try.underlying40⟩
end Go.Proofs.Ytcdeielnkmjfhaa
