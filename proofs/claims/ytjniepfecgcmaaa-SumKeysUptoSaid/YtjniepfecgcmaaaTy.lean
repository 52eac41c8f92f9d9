/- The type facts of this translation, by program (wip/dm/types.py). -/
import Derived.Test.YtjniepfecgcmaaabMake
import Derived.Test.YtjniepfecgcmaaabEq
import Derived.Test.YtjniepfecgcmaaaProg
import Derived.KernelRfl
namespace Go.Proofs.Ytjniepfecgcmaaa
open Go.RowKit

theorem ti2 : (Try.prog.info? 2).map (fun i => (i.size, i.bytes, i.zero)) = some (1, 8, some (zval false [.int .i64 0])) := by kernel_rfl
instance tyI2 : TyI Try.prog 2 false 1 8 [.int .i64 0] where
  desc := ⟨_, Try.underlying2, rfl⟩
  info := by
    obtain ⟨i, h1, h2⟩ := Option.map_eq_some_iff.1 ti2
    simp only [Prod.mk.injEq] at h2
    exact ⟨i, h1, h2.1, h2.2.1, h2.2.2⟩
  zc := rfl
  zl := rfl
  z1 := fun h => by first | rfl | cases h
instance : IntI Try.prog 2 .i64 := ⟨Try.underlying2⟩
theorem ti3 : (Try.prog.info? 3).map (fun i => (i.size, i.bytes, i.zero)) = some (1, 8, some (zval false [.int .i64 0])) := by kernel_rfl
instance tyI3 : TyI Try.prog 3 false 1 8 [.int .i64 0] where
  desc := ⟨_, Try.underlying3, rfl⟩
  info := by
    obtain ⟨i, h1, h2⟩ := Option.map_eq_some_iff.1 ti3
    simp only [Prod.mk.injEq] at h2
    exact ⟨i, h1, h2.1, h2.2.1, h2.2.2⟩
  zc := rfl
  zl := rfl
  z1 := fun h => by first | rfl | cases h
instance : IntI Try.prog 3 .i64 := ⟨Try.underlying3⟩
theorem ti4 : (Try.prog.info? 4).map (fun i => (i.size, i.bytes, i.zero)) = some (1, 1, some (zval false [.bool false])) := by kernel_rfl
instance tyI4 : TyI Try.prog 4 false 1 1 [.bool false] where
  desc := ⟨_, Try.underlying4, rfl⟩
  info := by
    obtain ⟨i, h1, h2⟩ := Option.map_eq_some_iff.1 ti4
    simp only [Prod.mk.injEq] at h2
    exact ⟨i, h1, h2.1, h2.2.1, h2.2.2⟩
  zc := rfl
  zl := rfl
  z1 := fun h => by first | rfl | cases h
instance : BoolI Try.prog 4 := ⟨Try.underlying4⟩
theorem ti5 : (Try.prog.info? 5).map (fun i => (i.size, i.bytes, i.zero)) = some (1, 1, some (zval false [.int .u8 0])) := by kernel_rfl
instance tyI5 : TyI Try.prog 5 false 1 1 [.int .u8 0] where
  desc := ⟨_, Try.underlying5, rfl⟩
  info := by
    obtain ⟨i, h1, h2⟩ := Option.map_eq_some_iff.1 ti5
    simp only [Prod.mk.injEq] at h2
    exact ⟨i, h1, h2.1, h2.2.1, h2.2.2⟩
  zc := rfl
  zl := rfl
  z1 := fun h => by first | rfl | cases h
instance : IntI Try.prog 5 .u8 := ⟨Try.underlying5⟩
theorem ti9 : (Try.prog.info? 9).map (fun i => (i.size, i.bytes, i.zero)) = some (1, 16, some (zval false [.str []])) := by kernel_rfl
instance tyI9 : TyI Try.prog 9 false 1 16 [.str []] where
  desc := ⟨_, Try.underlying9, rfl⟩
  info := by
    obtain ⟨i, h1, h2⟩ := Option.map_eq_some_iff.1 ti9
    simp only [Prod.mk.injEq] at h2
    exact ⟨i, h1, h2.1, h2.2.1, h2.2.2⟩
  zc := rfl
  zl := rfl
  z1 := fun h => by first | rfl | cases h
instance : StrI Try.prog 9 := ⟨Try.underlying9⟩
theorem ti12 : (Try.prog.info? 12).map (fun i => (i.size, i.bytes, i.zero)) = some (1, 8, some (zval false [.int .u64 0])) := by kernel_rfl
instance tyI12 : TyI Try.prog 12 false 1 8 [.int .u64 0] where
  desc := ⟨_, Try.underlying12, rfl⟩
  info := by
    obtain ⟨i, h1, h2⟩ := Option.map_eq_some_iff.1 ti12
    simp only [Prod.mk.injEq] at h2
    exact ⟨i, h1, h2.1, h2.2.1, h2.2.2⟩
  zc := rfl
  zl := rfl
  z1 := fun h => by first | rfl | cases h
instance : IntI Try.prog 12 .u64 := ⟨Try.underlying12⟩
theorem ti13 : (Try.prog.info? 13).map (fun i => (i.size, i.bytes, i.zero)) = some (2, 24, some (zval true [.str [], .int .u64 0])) := by kernel_rfl
instance tyI13 : TyI Try.prog 13 true 2 24 [.str [], .int .u64 0] where
  desc := ⟨_, Try.underlying13, rfl⟩
  info := by
    obtain ⟨i, h1, h2⟩ := Option.map_eq_some_iff.1 ti13
    simp only [Prod.mk.injEq] at h2
    exact ⟨i, h1, h2.1, h2.2.1, h2.2.2⟩
  zc := rfl
  zl := rfl
  z1 := fun h => by first | rfl | cases h
instance : FldI Try.prog 13 0 0 9 := ⟨⟨_, _, Try.underlying13, rfl, rfl, rfl⟩⟩
instance : FldI Try.prog 13 1 1 12 := ⟨⟨_, _, Try.underlying13, rfl, rfl, rfl⟩⟩
instance : StructI Try.prog 13 [(0, 1), (1, 1)] := ⟨⟨_, Try.underlying13, by kernel_rfl⟩⟩
theorem ti21 : (Try.prog.info? 21).map (fun i => (i.size, i.bytes, i.zero)) = some (1, 4, some (zval false [.int .i32 0])) := by kernel_rfl
instance tyI21 : TyI Try.prog 21 false 1 4 [.int .i32 0] where
  desc := ⟨_, Try.underlying21, rfl⟩
  info := by
    obtain ⟨i, h1, h2⟩ := Option.map_eq_some_iff.1 ti21
    simp only [Prod.mk.injEq] at h2
    exact ⟨i, h1, h2.1, h2.2.1, h2.2.2⟩
  zc := rfl
  zl := rfl
  z1 := fun h => by first | rfl | cases h
instance : IntI Try.prog 21 .i32 := ⟨Try.underlying21⟩
theorem ti22 : (Try.prog.info? 22).map (fun i => (i.size, i.bytes, i.zero)) = some (1, 24, some (zval false [.slice []])) := by kernel_rfl
instance tyI22 : TyI Try.prog 22 false 1 24 [.slice []] where
  desc := ⟨_, Try.underlying22, rfl⟩
  info := by
    obtain ⟨i, h1, h2⟩ := Option.map_eq_some_iff.1 ti22
    simp only [Prod.mk.injEq] at h2
    exact ⟨i, h1, h2.1, h2.2.1, h2.2.2⟩
  zc := rfl
  zl := rfl
  z1 := fun h => by first | rfl | cases h
instance : SlcI Try.prog 22 5 := ⟨Try.underlying22⟩
theorem ti23 : (Try.prog.info? 23).map (fun i => (i.size, i.bytes, i.zero)) = some (1, 24, some (zval false [.slice []])) := by kernel_rfl
instance tyI23 : TyI Try.prog 23 false 1 24 [.slice []] where
  desc := ⟨_, Try.underlying23, rfl⟩
  info := by
    obtain ⟨i, h1, h2⟩ := Option.map_eq_some_iff.1 ti23
    simp only [Prod.mk.injEq] at h2
    exact ⟨i, h1, h2.1, h2.2.1, h2.2.2⟩
  zc := rfl
  zl := rfl
  z1 := fun h => by first | rfl | cases h
instance : SlcI Try.prog 23 39 := ⟨Try.underlying23⟩
theorem ti24 : (Try.prog.info? 24).map (fun i => (i.size, i.bytes, i.zero)) = some (2, 48, some (zval true [.slice [], .slice []])) := by kernel_rfl
instance tyI24 : TyI Try.prog 24 true 2 48 [.slice [], .slice []] where
  desc := ⟨_, Try.underlying24, rfl⟩
  info := by
    obtain ⟨i, h1, h2⟩ := Option.map_eq_some_iff.1 ti24
    simp only [Prod.mk.injEq] at h2
    exact ⟨i, h1, h2.1, h2.2.1, h2.2.2⟩
  zc := rfl
  zl := rfl
  z1 := fun h => by first | rfl | cases h
instance : FldI Try.prog 24 0 0 22 := ⟨⟨_, _, Try.underlying24, rfl, rfl, rfl⟩⟩
instance : FldI Try.prog 24 1 1 23 := ⟨⟨_, _, Try.underlying24, rfl, rfl, rfl⟩⟩
instance : StructI Try.prog 24 [(0, 1), (1, 1)] := ⟨⟨_, Try.underlying24, by kernel_rfl⟩⟩
theorem ti25 : (Try.prog.info? 25).map (fun i => (i.size, i.bytes, i.zero)) = some (2, 48, some (zval true [.slice [], .slice []])) := by kernel_rfl
instance tyI25 : TyI Try.prog 25 true 2 48 [.slice [], .slice []] where
  desc := ⟨_, Try.underlying25, rfl⟩
  info := by
    obtain ⟨i, h1, h2⟩ := Option.map_eq_some_iff.1 ti25
    simp only [Prod.mk.injEq] at h2
    exact ⟨i, h1, h2.1, h2.2.1, h2.2.2⟩
  zc := rfl
  zl := rfl
  z1 := fun h => by first | rfl | cases h
instance : FldI Try.prog 25 0 0 22 := ⟨⟨_, _, Try.underlying25, rfl, rfl, rfl⟩⟩
instance : FldI Try.prog 25 1 1 23 := ⟨⟨_, _, Try.underlying25, rfl, rfl, rfl⟩⟩
instance : StructI Try.prog 25 [(0, 1), (1, 1)] := ⟨⟨_, Try.underlying25, by kernel_rfl⟩⟩
theorem ti26 : (Try.prog.info? 26).map (fun i => (i.size, i.bytes, i.zero)) = some (1, 8, some (zval false [.int .i64 0])) := by kernel_rfl
instance tyI26 : TyI Try.prog 26 false 1 8 [.int .i64 0] where
  desc := ⟨_, Try.underlying26, rfl⟩
  info := by
    obtain ⟨i, h1, h2⟩ := Option.map_eq_some_iff.1 ti26
    simp only [Prod.mk.injEq] at h2
    exact ⟨i, h1, h2.1, h2.2.1, h2.2.2⟩
  zc := rfl
  zl := rfl
  z1 := fun h => by first | rfl | cases h
instance : IntI Try.prog 26 .i64 := ⟨Try.underlying26⟩
theorem ti35 : (Try.prog.info? 35).map (fun i => (i.size, i.bytes, i.zero)) = some (1, 8, some (zval false [.int .u64 0])) := by kernel_rfl
instance tyI35 : TyI Try.prog 35 false 1 8 [.int .u64 0] where
  desc := ⟨_, Try.underlying35, rfl⟩
  info := by
    obtain ⟨i, h1, h2⟩ := Option.map_eq_some_iff.1 ti35
    simp only [Prod.mk.injEq] at h2
    exact ⟨i, h1, h2.1, h2.2.1, h2.2.2⟩
  zc := rfl
  zl := rfl
  z1 := fun h => by first | rfl | cases h
instance : IntI Try.prog 35 .u64 := ⟨Try.underlying35⟩
theorem ti36 : (Try.prog.info? 36).map (fun i => (i.size, i.bytes, i.zero)) = some (4, 32, some (zval true [.int .u64 0, .int .i64 0, .int .u64 0, .int .i64 0])) := by kernel_rfl
instance tyI36 : TyI Try.prog 36 true 4 32 [.int .u64 0, .int .i64 0, .int .u64 0, .int .i64 0] where
  desc := ⟨_, Try.underlying36, rfl⟩
  info := by
    obtain ⟨i, h1, h2⟩ := Option.map_eq_some_iff.1 ti36
    simp only [Prod.mk.injEq] at h2
    exact ⟨i, h1, h2.1, h2.2.1, h2.2.2⟩
  zc := rfl
  zl := rfl
  z1 := fun h => by first | rfl | cases h
instance : FldI Try.prog 36 0 0 35 := ⟨⟨_, _, Try.underlying36, rfl, rfl, rfl⟩⟩
instance : FldI Try.prog 36 1 1 3 := ⟨⟨_, _, Try.underlying36, rfl, rfl, rfl⟩⟩
instance : FldI Try.prog 36 2 2 35 := ⟨⟨_, _, Try.underlying36, rfl, rfl, rfl⟩⟩
instance : FldI Try.prog 36 3 3 3 := ⟨⟨_, _, Try.underlying36, rfl, rfl, rfl⟩⟩
instance : StructI Try.prog 36 [(0, 1), (1, 1), (2, 1), (3, 1)] := ⟨⟨_, Try.underlying36, by kernel_rfl⟩⟩
theorem ti37 : (Try.prog.info? 37).map (fun i => (i.size, i.bytes, i.zero)) = some (4, 32, some (zval true [.int .u64 0, .int .i64 0, .int .u64 0, .int .i64 0])) := by kernel_rfl
instance tyI37 : TyI Try.prog 37 true 4 32 [.int .u64 0, .int .i64 0, .int .u64 0, .int .i64 0] where
  desc := ⟨_, Try.underlying37, rfl⟩
  info := by
    obtain ⟨i, h1, h2⟩ := Option.map_eq_some_iff.1 ti37
    simp only [Prod.mk.injEq] at h2
    exact ⟨i, h1, h2.1, h2.2.1, h2.2.2⟩
  zc := rfl
  zl := rfl
  z1 := fun h => by first | rfl | cases h
instance : FldI Try.prog 37 0 0 35 := ⟨⟨_, _, Try.underlying37, rfl, rfl, rfl⟩⟩
instance : FldI Try.prog 37 1 1 3 := ⟨⟨_, _, Try.underlying37, rfl, rfl, rfl⟩⟩
instance : FldI Try.prog 37 2 2 35 := ⟨⟨_, _, Try.underlying37, rfl, rfl, rfl⟩⟩
instance : FldI Try.prog 37 3 3 3 := ⟨⟨_, _, Try.underlying37, rfl, rfl, rfl⟩⟩
instance : StructI Try.prog 37 [(0, 1), (1, 1), (2, 1), (3, 1)] := ⟨⟨_, Try.underlying37, by kernel_rfl⟩⟩
theorem ti38 : (Try.prog.info? 38).map (fun i => (i.size, i.bytes, i.zero)) = some (6, 48, some (zval true [.int .i64 0, .int .u64 0, .int .i64 0, .int .u64 0, .int .i64 0, .int .i64 0])) := by kernel_rfl
instance tyI38 : TyI Try.prog 38 true 6 48 [.int .i64 0, .int .u64 0, .int .i64 0, .int .u64 0, .int .i64 0, .int .i64 0] where
  desc := ⟨_, Try.underlying38, rfl⟩
  info := by
    obtain ⟨i, h1, h2⟩ := Option.map_eq_some_iff.1 ti38
    simp only [Prod.mk.injEq] at h2
    exact ⟨i, h1, h2.1, h2.2.1, h2.2.2⟩
  zc := rfl
  zl := rfl
  z1 := fun h => by first | rfl | cases h
instance : FldI Try.prog 38 0 0 3 := ⟨⟨_, _, Try.underlying38, rfl, rfl, rfl⟩⟩
instance : FldI Try.prog 38 1 1 37 := ⟨⟨_, _, Try.underlying38, rfl, rfl, rfl⟩⟩
instance : FldI Try.prog 38 2 5 3 := ⟨⟨_, _, Try.underlying38, rfl, rfl, rfl⟩⟩
instance : StructI Try.prog 38 [(0, 1), (1, 4), (5, 1)] := ⟨⟨_, Try.underlying38, by kernel_rfl⟩⟩
theorem ti39 : (Try.prog.info? 39).map (fun i => (i.size, i.bytes, i.zero)) = some (6, 48, some (zval true [.int .i64 0, .int .u64 0, .int .i64 0, .int .u64 0, .int .i64 0, .int .i64 0])) := by kernel_rfl
instance tyI39 : TyI Try.prog 39 true 6 48 [.int .i64 0, .int .u64 0, .int .i64 0, .int .u64 0, .int .i64 0, .int .i64 0] where
  desc := ⟨_, Try.underlying39, rfl⟩
  info := by
    obtain ⟨i, h1, h2⟩ := Option.map_eq_some_iff.1 ti39
    simp only [Prod.mk.injEq] at h2
    exact ⟨i, h1, h2.1, h2.2.1, h2.2.2⟩
  zc := rfl
  zl := rfl
  z1 := fun h => by first | rfl | cases h
instance : FldI Try.prog 39 0 0 3 := ⟨⟨_, _, Try.underlying39, rfl, rfl, rfl⟩⟩
instance : FldI Try.prog 39 1 1 37 := ⟨⟨_, _, Try.underlying39, rfl, rfl, rfl⟩⟩
instance : FldI Try.prog 39 2 5 3 := ⟨⟨_, _, Try.underlying39, rfl, rfl, rfl⟩⟩
instance : StructI Try.prog 39 [(0, 1), (1, 4), (5, 1)] := ⟨⟨_, Try.underlying39, by kernel_rfl⟩⟩
theorem ti41 : (Try.prog.info? 41).map (fun i => (i.size, i.bytes, i.zero)) = some (8, 80, some (zval true [.int .u64 0, .int .u64 0, .bool false, .int .i64 0, .bool false, .int .i64 0, .int .i64 0, .slice []])) := by kernel_rfl
instance tyI41 : TyI Try.prog 41 true 8 80 [.int .u64 0, .int .u64 0, .bool false, .int .i64 0, .bool false, .int .i64 0, .int .i64 0, .slice []] where
  desc := ⟨_, Try.underlying41, rfl⟩
  info := by
    obtain ⟨i, h1, h2⟩ := Option.map_eq_some_iff.1 ti41
    simp only [Prod.mk.injEq] at h2
    exact ⟨i, h1, h2.1, h2.2.1, h2.2.2⟩
  zc := rfl
  zl := rfl
  z1 := fun h => by first | rfl | cases h
instance : FldI Try.prog 41 0 0 35 := ⟨⟨_, _, Try.underlying41, rfl, rfl, rfl⟩⟩
instance : FldI Try.prog 41 1 1 35 := ⟨⟨_, _, Try.underlying41, rfl, rfl, rfl⟩⟩
instance : FldI Try.prog 41 2 2 4 := ⟨⟨_, _, Try.underlying41, rfl, rfl, rfl⟩⟩
instance : FldI Try.prog 41 3 3 3 := ⟨⟨_, _, Try.underlying41, rfl, rfl, rfl⟩⟩
instance : FldI Try.prog 41 4 4 4 := ⟨⟨_, _, Try.underlying41, rfl, rfl, rfl⟩⟩
instance : FldI Try.prog 41 5 5 3 := ⟨⟨_, _, Try.underlying41, rfl, rfl, rfl⟩⟩
instance : FldI Try.prog 41 6 6 3 := ⟨⟨_, _, Try.underlying41, rfl, rfl, rfl⟩⟩
instance : FldI Try.prog 41 7 7 22 := ⟨⟨_, _, Try.underlying41, rfl, rfl, rfl⟩⟩
instance : StructI Try.prog 41 [(0, 1), (1, 1), (2, 1), (3, 1), (4, 1), (5, 1), (6, 1), (7, 1)] := ⟨⟨_, Try.underlying41, by kernel_rfl⟩⟩
theorem ti42 : (Try.prog.info? 42).map (fun i => (i.size, i.bytes, i.zero)) = some (8, 80, some (zval true [.int .u64 0, .int .u64 0, .bool false, .int .i64 0, .bool false, .int .i64 0, .int .i64 0, .slice []])) := by kernel_rfl
instance tyI42 : TyI Try.prog 42 true 8 80 [.int .u64 0, .int .u64 0, .bool false, .int .i64 0, .bool false, .int .i64 0, .int .i64 0, .slice []] where
  desc := ⟨_, Try.underlying42, rfl⟩
  info := by
    obtain ⟨i, h1, h2⟩ := Option.map_eq_some_iff.1 ti42
    simp only [Prod.mk.injEq] at h2
    exact ⟨i, h1, h2.1, h2.2.1, h2.2.2⟩
  zc := rfl
  zl := rfl
  z1 := fun h => by first | rfl | cases h
instance : FldI Try.prog 42 0 0 35 := ⟨⟨_, _, Try.underlying42, rfl, rfl, rfl⟩⟩
instance : FldI Try.prog 42 1 1 35 := ⟨⟨_, _, Try.underlying42, rfl, rfl, rfl⟩⟩
instance : FldI Try.prog 42 2 2 4 := ⟨⟨_, _, Try.underlying42, rfl, rfl, rfl⟩⟩
instance : FldI Try.prog 42 3 3 3 := ⟨⟨_, _, Try.underlying42, rfl, rfl, rfl⟩⟩
instance : FldI Try.prog 42 4 4 4 := ⟨⟨_, _, Try.underlying42, rfl, rfl, rfl⟩⟩
instance : FldI Try.prog 42 5 5 3 := ⟨⟨_, _, Try.underlying42, rfl, rfl, rfl⟩⟩
instance : FldI Try.prog 42 6 6 3 := ⟨⟨_, _, Try.underlying42, rfl, rfl, rfl⟩⟩
instance : FldI Try.prog 42 7 7 22 := ⟨⟨_, _, Try.underlying42, rfl, rfl, rfl⟩⟩
instance : StructI Try.prog 42 [(0, 1), (1, 1), (2, 1), (3, 1), (4, 1), (5, 1), (6, 1), (7, 1)] := ⟨⟨_, Try.underlying42, by kernel_rfl⟩⟩
theorem ti54 : (Try.prog.info? 54).map (fun i => (i.size, i.bytes, i.zero)) = some (2, 32, some (zval true [.str [], .str []])) := by kernel_rfl
instance tyI54 : TyI Try.prog 54 true 2 32 [.str [], .str []] where
  desc := ⟨_, Try.underlying54, rfl⟩
  info := by
    obtain ⟨i, h1, h2⟩ := Option.map_eq_some_iff.1 ti54
    simp only [Prod.mk.injEq] at h2
    exact ⟨i, h1, h2.1, h2.2.1, h2.2.2⟩
  zc := rfl
  zl := rfl
  z1 := fun h => by first | rfl | cases h
instance : ArrI Try.prog 54 2 9 := ⟨Try.underlying54⟩
theorem ti55 : (Try.prog.info? 55).map (fun i => (i.size, i.bytes, i.zero)) = some (1, 24, some (zval false [.slice []])) := by kernel_rfl
instance tyI55 : TyI Try.prog 55 false 1 24 [.slice []] where
  desc := ⟨_, Try.underlying55, rfl⟩
  info := by
    obtain ⟨i, h1, h2⟩ := Option.map_eq_some_iff.1 ti55
    simp only [Prod.mk.injEq] at h2
    exact ⟨i, h1, h2.1, h2.2.1, h2.2.2⟩
  zc := rfl
  zl := rfl
  z1 := fun h => by first | rfl | cases h
instance : SlcI Try.prog 55 54 := ⟨Try.underlying55⟩
theorem ti58 : (Try.prog.info? 58).map (fun i => (i.size, i.bytes, i.zero)) = some (1, 24, some (zval false [.slice []])) := by kernel_rfl
instance tyI58 : TyI Try.prog 58 false 1 24 [.slice []] where
  desc := ⟨_, Try.underlying58, rfl⟩
  info := by
    obtain ⟨i, h1, h2⟩ := Option.map_eq_some_iff.1 ti58
    simp only [Prod.mk.injEq] at h2
    exact ⟨i, h1, h2.1, h2.2.1, h2.2.2⟩
  zc := rfl
  zl := rfl
  z1 := fun h => by first | rfl | cases h
instance : SlcI Try.prog 58 26 := ⟨Try.underlying58⟩
theorem ti59 : (Try.prog.info? 59).map (fun i => (i.size, i.bytes, i.zero)) = some (1, 24, some (zval false [.slice []])) := by kernel_rfl
instance tyI59 : TyI Try.prog 59 false 1 24 [.slice []] where
  desc := ⟨_, Try.underlying59, rfl⟩
  info := by
    obtain ⟨i, h1, h2⟩ := Option.map_eq_some_iff.1 ti59
    simp only [Prod.mk.injEq] at h2
    exact ⟨i, h1, h2.1, h2.2.1, h2.2.2⟩
  zc := rfl
  zl := rfl
  z1 := fun h => by first | rfl | cases h
instance : SlcI Try.prog 59 3 := ⟨Try.underlying59⟩
theorem ti61 : (Try.prog.info? 61).map (fun i => (i.size, i.bytes, i.zero)) = some (2, 16, some (zval true [.int .i64 0, .int .i64 0])) := by kernel_rfl
instance tyI61 : TyI Try.prog 61 true 2 16 [.int .i64 0, .int .i64 0] where
  desc := ⟨_, Try.underlying61, rfl⟩
  info := by
    obtain ⟨i, h1, h2⟩ := Option.map_eq_some_iff.1 ti61
    simp only [Prod.mk.injEq] at h2
    exact ⟨i, h1, h2.1, h2.2.1, h2.2.2⟩
  zc := rfl
  zl := rfl
  z1 := fun h => by first | rfl | cases h
instance : ArrI Try.prog 61 2 3 := ⟨Try.underlying61⟩
theorem ti62 : (Try.prog.info? 62).map (fun i => (i.size, i.bytes, i.zero)) = some (1, 24, some (zval false [.slice []])) := by kernel_rfl
instance tyI62 : TyI Try.prog 62 false 1 24 [.slice []] where
  desc := ⟨_, Try.underlying62, rfl⟩
  info := by
    obtain ⟨i, h1, h2⟩ := Option.map_eq_some_iff.1 ti62
    simp only [Prod.mk.injEq] at h2
    exact ⟨i, h1, h2.1, h2.2.1, h2.2.2⟩
  zc := rfl
  zl := rfl
  z1 := fun h => by first | rfl | cases h
instance : SlcI Try.prog 62 61 := ⟨Try.underlying62⟩
theorem ti65 : (Try.prog.info? 65).map (fun i => (i.size, i.bytes, i.zero)) = some (1, 24, some (zval false [.slice []])) := by kernel_rfl
instance tyI65 : TyI Try.prog 65 false 1 24 [.slice []] where
  desc := ⟨_, Try.underlying65, rfl⟩
  info := by
    obtain ⟨i, h1, h2⟩ := Option.map_eq_some_iff.1 ti65
    simp only [Prod.mk.injEq] at h2
    exact ⟨i, h1, h2.1, h2.2.1, h2.2.2⟩
  zc := rfl
  zl := rfl
  z1 := fun h => by first | rfl | cases h
instance : SlcI Try.prog 65 22 := ⟨Try.underlying65⟩
theorem ti68 : (Try.prog.info? 68).map (fun i => (i.size, i.bytes, i.zero)) = some (1, 8, some (zval false [.int .u64 0])) := by kernel_rfl
instance tyI68 : TyI Try.prog 68 false 1 8 [.int .u64 0] where
  desc := ⟨_, Try.underlying68, rfl⟩
  info := by
    obtain ⟨i, h1, h2⟩ := Option.map_eq_some_iff.1 ti68
    simp only [Prod.mk.injEq] at h2
    exact ⟨i, h1, h2.1, h2.2.1, h2.2.2⟩
  zc := rfl
  zl := rfl
  z1 := fun h => by first | rfl | cases h
instance : IntI Try.prog 68 .u64 := ⟨Try.underlying68⟩
theorem ti69 : (Try.prog.info? 69).map (fun i => (i.size, i.bytes, i.zero)) = some (3, 24, some (zval true [.int .u64 0, .int .u64 0, .int .u64 0])) := by kernel_rfl
instance tyI69 : TyI Try.prog 69 true 3 24 [.int .u64 0, .int .u64 0, .int .u64 0] where
  desc := ⟨_, Try.underlying69, rfl⟩
  info := by
    obtain ⟨i, h1, h2⟩ := Option.map_eq_some_iff.1 ti69
    simp only [Prod.mk.injEq] at h2
    exact ⟨i, h1, h2.1, h2.2.1, h2.2.2⟩
  zc := rfl
  zl := rfl
  z1 := fun h => by first | rfl | cases h
instance : ArrI Try.prog 69 3 35 := ⟨Try.underlying69⟩
theorem ti72 : (Try.prog.info? 72).map (fun i => (i.size, i.bytes, i.zero)) = some (1, 4, some (zval false [.int .u32 0])) := by kernel_rfl
instance tyI72 : TyI Try.prog 72 false 1 4 [.int .u32 0] where
  desc := ⟨_, Try.underlying72, rfl⟩
  info := by
    obtain ⟨i, h1, h2⟩ := Option.map_eq_some_iff.1 ti72
    simp only [Prod.mk.injEq] at h2
    exact ⟨i, h1, h2.1, h2.2.1, h2.2.2⟩
  zc := rfl
  zl := rfl
  z1 := fun h => by first | rfl | cases h
instance : IntI Try.prog 72 .u32 := ⟨Try.underlying72⟩
theorem ti73 : (Try.prog.info? 73).map (fun i => (i.size, i.bytes, i.zero)) = some (4, 16, some (zval true [.int .u32 0, .int .u32 0, .int .u32 0, .int .u32 0])) := by kernel_rfl
instance tyI73 : TyI Try.prog 73 true 4 16 [.int .u32 0, .int .u32 0, .int .u32 0, .int .u32 0] where
  desc := ⟨_, Try.underlying73, rfl⟩
  info := by
    obtain ⟨i, h1, h2⟩ := Option.map_eq_some_iff.1 ti73
    simp only [Prod.mk.injEq] at h2
    exact ⟨i, h1, h2.1, h2.2.1, h2.2.2⟩
  zc := rfl
  zl := rfl
  z1 := fun h => by first | rfl | cases h
instance : ArrI Try.prog 73 4 72 := ⟨Try.underlying73⟩
theorem ti75 : (Try.prog.info? 75).map (fun i => (i.size, i.bytes, i.zero)) = some (1, 24, some (zval false [.slice []])) := by kernel_rfl
instance tyI75 : TyI Try.prog 75 false 1 24 [.slice []] where
  desc := ⟨_, Try.underlying75, rfl⟩
  info := by
    obtain ⟨i, h1, h2⟩ := Option.map_eq_some_iff.1 ti75
    simp only [Prod.mk.injEq] at h2
    exact ⟨i, h1, h2.1, h2.2.1, h2.2.2⟩
  zc := rfl
  zl := rfl
  z1 := fun h => by first | rfl | cases h
instance : SlcI Try.prog 75 72 := ⟨Try.underlying75⟩
theorem ti81 : (Try.prog.info? 81).map (fun i => (i.size, i.bytes, i.zero)) = some (16, 64, some (zval true [.int .u32 0, .int .u32 0, .int .u32 0, .int .u32 0, .int .u32 0, .int .u32 0, .int .u32 0, .int .u32 0, .int .u32 0, .int .u32 0, .int .u32 0, .int .u32 0, .int .u32 0, .int .u32 0, .int .u32 0, .int .u32 0])) := by kernel_rfl
instance tyI81 : TyI Try.prog 81 true 16 64 [.int .u32 0, .int .u32 0, .int .u32 0, .int .u32 0, .int .u32 0, .int .u32 0, .int .u32 0, .int .u32 0, .int .u32 0, .int .u32 0, .int .u32 0, .int .u32 0, .int .u32 0, .int .u32 0, .int .u32 0, .int .u32 0] where
  desc := ⟨_, Try.underlying81, rfl⟩
  info := by
    obtain ⟨i, h1, h2⟩ := Option.map_eq_some_iff.1 ti81
    simp only [Prod.mk.injEq] at h2
    exact ⟨i, h1, h2.1, h2.2.1, h2.2.2⟩
  zc := rfl
  zl := rfl
  z1 := fun h => by first | rfl | cases h
instance : ArrI Try.prog 81 16 72 := ⟨Try.underlying81⟩
theorem ti82 : (Try.prog.info? 82).map (fun i => (i.size, i.bytes, i.zero)) = some (64, 256, some (zval true [.int .u32 0, .int .u32 0, .int .u32 0, .int .u32 0, .int .u32 0, .int .u32 0, .int .u32 0, .int .u32 0, .int .u32 0, .int .u32 0, .int .u32 0, .int .u32 0, .int .u32 0, .int .u32 0, .int .u32 0, .int .u32 0, .int .u32 0, .int .u32 0, .int .u32 0, .int .u32 0, .int .u32 0, .int .u32 0, .int .u32 0, .int .u32 0, .int .u32 0, .int .u32 0, .int .u32 0, .int .u32 0, .int .u32 0, .int .u32 0, .int .u32 0, .int .u32 0, .int .u32 0, .int .u32 0, .int .u32 0, .int .u32 0, .int .u32 0, .int .u32 0, .int .u32 0, .int .u32 0, .int .u32 0, .int .u32 0, .int .u32 0, .int .u32 0, .int .u32 0, .int .u32 0, .int .u32 0, .int .u32 0, .int .u32 0, .int .u32 0, .int .u32 0, .int .u32 0, .int .u32 0, .int .u32 0, .int .u32 0, .int .u32 0, .int .u32 0, .int .u32 0, .int .u32 0, .int .u32 0, .int .u32 0, .int .u32 0, .int .u32 0, .int .u32 0])) := by kernel_rfl
instance tyI82 : TyI Try.prog 82 true 64 256 [.int .u32 0, .int .u32 0, .int .u32 0, .int .u32 0, .int .u32 0, .int .u32 0, .int .u32 0, .int .u32 0, .int .u32 0, .int .u32 0, .int .u32 0, .int .u32 0, .int .u32 0, .int .u32 0, .int .u32 0, .int .u32 0, .int .u32 0, .int .u32 0, .int .u32 0, .int .u32 0, .int .u32 0, .int .u32 0, .int .u32 0, .int .u32 0, .int .u32 0, .int .u32 0, .int .u32 0, .int .u32 0, .int .u32 0, .int .u32 0, .int .u32 0, .int .u32 0, .int .u32 0, .int .u32 0, .int .u32 0, .int .u32 0, .int .u32 0, .int .u32 0, .int .u32 0, .int .u32 0, .int .u32 0, .int .u32 0, .int .u32 0, .int .u32 0, .int .u32 0, .int .u32 0, .int .u32 0, .int .u32 0, .int .u32 0, .int .u32 0, .int .u32 0, .int .u32 0, .int .u32 0, .int .u32 0, .int .u32 0, .int .u32 0, .int .u32 0, .int .u32 0, .int .u32 0, .int .u32 0, .int .u32 0, .int .u32 0, .int .u32 0, .int .u32 0] where
  desc := ⟨_, Try.underlying82, rfl⟩
  info := by
    obtain ⟨i, h1, h2⟩ := Option.map_eq_some_iff.1 ti82
    simp only [Prod.mk.injEq] at h2
    exact ⟨i, h1, h2.1, h2.2.1, h2.2.2⟩
  zc := rfl
  zl := rfl
  z1 := fun h => by first | rfl | cases h
instance : ArrI Try.prog 82 64 72 := ⟨Try.underlying82⟩
theorem ti84 : (Try.prog.info? 84).map (fun i => (i.size, i.bytes, i.zero)) = some (16, 128, some (zval true [.int .i64 0, .int .i64 0, .int .i64 0, .int .i64 0, .int .i64 0, .int .i64 0, .int .i64 0, .int .i64 0, .int .i64 0, .int .i64 0, .int .i64 0, .int .i64 0, .int .i64 0, .int .i64 0, .int .i64 0, .int .i64 0])) := by kernel_rfl
instance tyI84 : TyI Try.prog 84 true 16 128 [.int .i64 0, .int .i64 0, .int .i64 0, .int .i64 0, .int .i64 0, .int .i64 0, .int .i64 0, .int .i64 0, .int .i64 0, .int .i64 0, .int .i64 0, .int .i64 0, .int .i64 0, .int .i64 0, .int .i64 0, .int .i64 0] where
  desc := ⟨_, Try.underlying84, rfl⟩
  info := by
    obtain ⟨i, h1, h2⟩ := Option.map_eq_some_iff.1 ti84
    simp only [Prod.mk.injEq] at h2
    exact ⟨i, h1, h2.1, h2.2.1, h2.2.2⟩
  zc := rfl
  zl := rfl
  z1 := fun h => by first | rfl | cases h
instance : ArrI Try.prog 84 16 3 := ⟨Try.underlying84⟩
theorem ti89 : (Try.prog.info? 89).map (fun i => (i.size, i.bytes, i.zero)) = some (0, 0, some (zval true [])) := by kernel_rfl
instance tyI89 : TyI Try.prog 89 true 0 0 [] where
  desc := ⟨_, Try.underlying89, rfl⟩
  info := by
    obtain ⟨i, h1, h2⟩ := Option.map_eq_some_iff.1 ti89
    simp only [Prod.mk.injEq] at h2
    exact ⟨i, h1, h2.1, h2.2.1, h2.2.2⟩
  zc := rfl
  zl := rfl
  z1 := fun h => by first | rfl | cases h
instance : ArrI Try.prog 89 0 16 := ⟨Try.underlying89⟩
theorem ti90 : (Try.prog.info? 90).map (fun i => (i.size, i.bytes, i.zero)) = some (0, 0, some (zval true [])) := by kernel_rfl
instance tyI90 : TyI Try.prog 90 true 0 0 [] where
  desc := ⟨_, Try.underlying90, rfl⟩
  info := by
    obtain ⟨i, h1, h2⟩ := Option.map_eq_some_iff.1 ti90
    simp only [Prod.mk.injEq] at h2
    exact ⟨i, h1, h2.1, h2.2.1, h2.2.2⟩
  zc := rfl
  zl := rfl
  z1 := fun h => by first | rfl | cases h
instance : FldI Try.prog 90 0 0 89 := ⟨⟨_, _, Try.underlying90, rfl, rfl, rfl⟩⟩
instance : StructI Try.prog 90 [(0, 0)] := ⟨⟨_, Try.underlying90, by kernel_rfl⟩⟩
instance : EqI Try.prog 37 [1, 1, 1, 1] := ⟨by kernel_rfl, ⟨_, Try.underlying37⟩, by kernel_rfl⟩
instance : EqI Try.prog 39 [1, 1, 1, 1, 1, 1] := ⟨by kernel_rfl, ⟨_, Try.underlying39⟩, by kernel_rfl⟩
end Go.Proofs.Ytjniepfecgcmaaa
