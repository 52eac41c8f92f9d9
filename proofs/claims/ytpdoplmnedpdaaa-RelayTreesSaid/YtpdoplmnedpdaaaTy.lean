/- The type facts of this translation, by program (wip/dm/types.py). -/
import Derived.Test.YtpdoplmnedpdaaabMake
import Derived.Test.YtpdoplmnedpdaaabEq
import Derived.Test.YtpdoplmnedpdaaaProg
import Derived.KernelRfl
namespace Go.Proofs.Ytpdoplmnedpdaaa
open Go.RowKit

theorem ti2 : (Try.prog.info? 2).map (fun i => (i.size, i.bytes, i.zero)) = some (1, 8, some (zval false [.int .i64 0])) := by kernel_rfl
instance tyI2 : TyI Try.prog 2 false 1 8 [.int .i64 0] where
  desc := ⟨_, Try.underlying2, rfl⟩
  info := by
    obtain ⟨i, h1, h2⟩ := Option.map_eq_some_iff.1 ti2
    simp only [Prod.mk.injEq] at h2
    exact ⟨i, h1, h2.1, h2.2.1, h2.2.2⟩
  zc := rfl
  zl := rfl
  z1 := fun h => by first | rfl | cases h
instance : IntI Try.prog 2 .i64 := ⟨Try.underlying2⟩
theorem ti3 : (Try.prog.info? 3).map (fun i => (i.size, i.bytes, i.zero)) = some (1, 8, some (zval false [.int .i64 0])) := by kernel_rfl
instance tyI3 : TyI Try.prog 3 false 1 8 [.int .i64 0] where
  desc := ⟨_, Try.underlying3, rfl⟩
  info := by
    obtain ⟨i, h1, h2⟩ := Option.map_eq_some_iff.1 ti3
    simp only [Prod.mk.injEq] at h2
    exact ⟨i, h1, h2.1, h2.2.1, h2.2.2⟩
  zc := rfl
  zl := rfl
  z1 := fun h => by first | rfl | cases h
instance : IntI Try.prog 3 .i64 := ⟨Try.underlying3⟩
theorem ti4 : (Try.prog.info? 4).map (fun i => (i.size, i.bytes, i.zero)) = some (1, 1, some (zval false [.bool false])) := by kernel_rfl
instance tyI4 : TyI Try.prog 4 false 1 1 [.bool false] where
  desc := ⟨_, Try.underlying4, rfl⟩
  info := by
    obtain ⟨i, h1, h2⟩ := Option.map_eq_some_iff.1 ti4
    simp only [Prod.mk.injEq] at h2
    exact ⟨i, h1, h2.1, h2.2.1, h2.2.2⟩
  zc := rfl
  zl := rfl
  z1 := fun h => by first | rfl | cases h
instance : BoolI Try.prog 4 := ⟨Try.underlying4⟩
theorem ti5 : (Try.prog.info? 5).map (fun i => (i.size, i.bytes, i.zero)) = some (1, 1, some (zval false [.int .u8 0])) := by kernel_rfl
instance tyI5 : TyI Try.prog 5 false 1 1 [.int .u8 0] where
  desc := ⟨_, Try.underlying5, rfl⟩
  info := by
    obtain ⟨i, h1, h2⟩ := Option.map_eq_some_iff.1 ti5
    simp only [Prod.mk.injEq] at h2
    exact ⟨i, h1, h2.1, h2.2.1, h2.2.2⟩
  zc := rfl
  zl := rfl
  z1 := fun h => by first | rfl | cases h
instance : IntI Try.prog 5 .u8 := ⟨Try.underlying5⟩
theorem ti9 : (Try.prog.info? 9).map (fun i => (i.size, i.bytes, i.zero)) = some (1, 16, some (zval false [.str []])) := by kernel_rfl
instance tyI9 : TyI Try.prog 9 false 1 16 [.str []] where
  desc := ⟨_, Try.underlying9, rfl⟩
  info := by
    obtain ⟨i, h1, h2⟩ := Option.map_eq_some_iff.1 ti9
    simp only [Prod.mk.injEq] at h2
    exact ⟨i, h1, h2.1, h2.2.1, h2.2.2⟩
  zc := rfl
  zl := rfl
  z1 := fun h => by first | rfl | cases h
instance : StrI Try.prog 9 := ⟨Try.underlying9⟩
theorem ti12 : (Try.prog.info? 12).map (fun i => (i.size, i.bytes, i.zero)) = some (1, 8, some (zval false [.int .u64 0])) := by kernel_rfl
instance tyI12 : TyI Try.prog 12 false 1 8 [.int .u64 0] where
  desc := ⟨_, Try.underlying12, rfl⟩
  info := by
    obtain ⟨i, h1, h2⟩ := Option.map_eq_some_iff.1 ti12
    simp only [Prod.mk.injEq] at h2
    exact ⟨i, h1, h2.1, h2.2.1, h2.2.2⟩
  zc := rfl
  zl := rfl
  z1 := fun h => by first | rfl | cases h
instance : IntI Try.prog 12 .u64 := ⟨Try.underlying12⟩
theorem ti13 : (Try.prog.info? 13).map (fun i => (i.size, i.bytes, i.zero)) = some (2, 24, some (zval true [.str [], .int .u64 0])) := by kernel_rfl
instance tyI13 : TyI Try.prog 13 true 2 24 [.str [], .int .u64 0] where
  desc := ⟨_, Try.underlying13, rfl⟩
  info := by
    obtain ⟨i, h1, h2⟩ := Option.map_eq_some_iff.1 ti13
    simp only [Prod.mk.injEq] at h2
    exact ⟨i, h1, h2.1, h2.2.1, h2.2.2⟩
  zc := rfl
  zl := rfl
  z1 := fun h => by first | rfl | cases h
instance : FldI Try.prog 13 0 0 9 := ⟨⟨_, _, Try.underlying13, rfl, rfl, rfl⟩⟩
instance : FldI Try.prog 13 1 1 12 := ⟨⟨_, _, Try.underlying13, rfl, rfl, rfl⟩⟩
instance : StructI Try.prog 13 [(0, 1), (1, 1)] := ⟨⟨_, Try.underlying13, by kernel_rfl⟩⟩
theorem ti21 : (Try.prog.info? 21).map (fun i => (i.size, i.bytes, i.zero)) = some (1, 4, some (zval false [.int .i32 0])) := by kernel_rfl
instance tyI21 : TyI Try.prog 21 false 1 4 [.int .i32 0] where
  desc := ⟨_, Try.underlying21, rfl⟩
  info := by
    obtain ⟨i, h1, h2⟩ := Option.map_eq_some_iff.1 ti21
    simp only [Prod.mk.injEq] at h2
    exact ⟨i, h1, h2.1, h2.2.1, h2.2.2⟩
  zc := rfl
  zl := rfl
  z1 := fun h => by first | rfl | cases h
instance : IntI Try.prog 21 .i32 := ⟨Try.underlying21⟩
theorem ti22 : (Try.prog.info? 22).map (fun i => (i.size, i.bytes, i.zero)) = some (1, 24, some (zval false [.slice []])) := by kernel_rfl
instance tyI22 : TyI Try.prog 22 false 1 24 [.slice []] where
  desc := ⟨_, Try.underlying22, rfl⟩
  info := by
    obtain ⟨i, h1, h2⟩ := Option.map_eq_some_iff.1 ti22
    simp only [Prod.mk.injEq] at h2
    exact ⟨i, h1, h2.1, h2.2.1, h2.2.2⟩
  zc := rfl
  zl := rfl
  z1 := fun h => by first | rfl | cases h
instance : SlcI Try.prog 22 42 := ⟨Try.underlying22⟩
theorem ti23 : (Try.prog.info? 23).map (fun i => (i.size, i.bytes, i.zero)) = some (1, 8, some (zval false [.int .u64 0])) := by kernel_rfl
instance tyI23 : TyI Try.prog 23 false 1 8 [.int .u64 0] where
  desc := ⟨_, Try.underlying23, rfl⟩
  info := by
    obtain ⟨i, h1, h2⟩ := Option.map_eq_some_iff.1 ti23
    simp only [Prod.mk.injEq] at h2
    exact ⟨i, h1, h2.1, h2.2.1, h2.2.2⟩
  zc := rfl
  zl := rfl
  z1 := fun h => by first | rfl | cases h
instance : IntI Try.prog 23 .u64 := ⟨Try.underlying23⟩
theorem ti25 : (Try.prog.info? 25).map (fun i => (i.size, i.bytes, i.zero)) = some (1, 8, some (zval false [.int .i64 0])) := by kernel_rfl
instance tyI25 : TyI Try.prog 25 false 1 8 [.int .i64 0] where
  desc := ⟨_, Try.underlying25, rfl⟩
  info := by
    obtain ⟨i, h1, h2⟩ := Option.map_eq_some_iff.1 ti25
    simp only [Prod.mk.injEq] at h2
    exact ⟨i, h1, h2.1, h2.2.1, h2.2.2⟩
  zc := rfl
  zl := rfl
  z1 := fun h => by first | rfl | cases h
instance : IntI Try.prog 25 .i64 := ⟨Try.underlying25⟩
theorem ti26 : (Try.prog.info? 26).map (fun i => (i.size, i.bytes, i.zero)) = some (2, 16, some (zval true [.int .i64 0, .int .i64 0])) := by kernel_rfl
instance tyI26 : TyI Try.prog 26 true 2 16 [.int .i64 0, .int .i64 0] where
  desc := ⟨_, Try.underlying26, rfl⟩
  info := by
    obtain ⟨i, h1, h2⟩ := Option.map_eq_some_iff.1 ti26
    simp only [Prod.mk.injEq] at h2
    exact ⟨i, h1, h2.1, h2.2.1, h2.2.2⟩
  zc := rfl
  zl := rfl
  z1 := fun h => by first | rfl | cases h
instance : FldI Try.prog 26 0 0 25 := ⟨⟨_, _, Try.underlying26, rfl, rfl, rfl⟩⟩
instance : FldI Try.prog 26 1 1 3 := ⟨⟨_, _, Try.underlying26, rfl, rfl, rfl⟩⟩
instance : StructI Try.prog 26 [(0, 1), (1, 1)] := ⟨⟨_, Try.underlying26, by kernel_rfl⟩⟩
theorem ti27 : (Try.prog.info? 27).map (fun i => (i.size, i.bytes, i.zero)) = some (2, 16, some (zval true [.int .i64 0, .int .i64 0])) := by kernel_rfl
instance tyI27 : TyI Try.prog 27 true 2 16 [.int .i64 0, .int .i64 0] where
  desc := ⟨_, Try.underlying27, rfl⟩
  info := by
    obtain ⟨i, h1, h2⟩ := Option.map_eq_some_iff.1 ti27
    simp only [Prod.mk.injEq] at h2
    exact ⟨i, h1, h2.1, h2.2.1, h2.2.2⟩
  zc := rfl
  zl := rfl
  z1 := fun h => by first | rfl | cases h
instance : FldI Try.prog 27 0 0 25 := ⟨⟨_, _, Try.underlying27, rfl, rfl, rfl⟩⟩
instance : FldI Try.prog 27 1 1 3 := ⟨⟨_, _, Try.underlying27, rfl, rfl, rfl⟩⟩
instance : StructI Try.prog 27 [(0, 1), (1, 1)] := ⟨⟨_, Try.underlying27, by kernel_rfl⟩⟩
theorem ti32 : (Try.prog.info? 32).map (fun i => (i.size, i.bytes, i.zero)) = some (1, 8, some (zval false [.int .u64 0])) := by kernel_rfl
instance tyI32 : TyI Try.prog 32 false 1 8 [.int .u64 0] where
  desc := ⟨_, Try.underlying32, rfl⟩
  info := by
    obtain ⟨i, h1, h2⟩ := Option.map_eq_some_iff.1 ti32
    simp only [Prod.mk.injEq] at h2
    exact ⟨i, h1, h2.1, h2.2.1, h2.2.2⟩
  zc := rfl
  zl := rfl
  z1 := fun h => by first | rfl | cases h
instance : IntI Try.prog 32 .u64 := ⟨Try.underlying32⟩
theorem ti38 : (Try.prog.info? 38).map (fun i => (i.size, i.bytes, i.zero)) = some (1, 24, some (zval false [.slice []])) := by kernel_rfl
instance tyI38 : TyI Try.prog 38 false 1 24 [.slice []] where
  desc := ⟨_, Try.underlying38, rfl⟩
  info := by
    obtain ⟨i, h1, h2⟩ := Option.map_eq_some_iff.1 ti38
    simp only [Prod.mk.injEq] at h2
    exact ⟨i, h1, h2.1, h2.2.1, h2.2.2⟩
  zc := rfl
  zl := rfl
  z1 := fun h => by first | rfl | cases h
instance : SlcI Try.prog 38 3 := ⟨Try.underlying38⟩
theorem ti41 : (Try.prog.info? 41).map (fun i => (i.size, i.bytes, i.zero)) = some (4, 32, some (zval true [.int .i64 0, .int .u64 0, .int .i64 0, .int .i64 0])) := by kernel_rfl
instance tyI41 : TyI Try.prog 41 true 4 32 [.int .i64 0, .int .u64 0, .int .i64 0, .int .i64 0] where
  desc := ⟨_, Try.underlying41, rfl⟩
  info := by
    obtain ⟨i, h1, h2⟩ := Option.map_eq_some_iff.1 ti41
    simp only [Prod.mk.injEq] at h2
    exact ⟨i, h1, h2.1, h2.2.1, h2.2.2⟩
  zc := rfl
  zl := rfl
  z1 := fun h => by first | rfl | cases h
instance : FldI Try.prog 41 0 0 3 := ⟨⟨_, _, Try.underlying41, rfl, rfl, rfl⟩⟩
instance : FldI Try.prog 41 1 1 23 := ⟨⟨_, _, Try.underlying41, rfl, rfl, rfl⟩⟩
instance : FldI Try.prog 41 2 2 3 := ⟨⟨_, _, Try.underlying41, rfl, rfl, rfl⟩⟩
instance : FldI Try.prog 41 3 3 3 := ⟨⟨_, _, Try.underlying41, rfl, rfl, rfl⟩⟩
instance : StructI Try.prog 41 [(0, 1), (1, 1), (2, 1), (3, 1)] := ⟨⟨_, Try.underlying41, by kernel_rfl⟩⟩
theorem ti42 : (Try.prog.info? 42).map (fun i => (i.size, i.bytes, i.zero)) = some (4, 32, some (zval true [.int .i64 0, .int .u64 0, .int .i64 0, .int .i64 0])) := by kernel_rfl
instance tyI42 : TyI Try.prog 42 true 4 32 [.int .i64 0, .int .u64 0, .int .i64 0, .int .i64 0] where
  desc := ⟨_, Try.underlying42, rfl⟩
  info := by
    obtain ⟨i, h1, h2⟩ := Option.map_eq_some_iff.1 ti42
    simp only [Prod.mk.injEq] at h2
    exact ⟨i, h1, h2.1, h2.2.1, h2.2.2⟩
  zc := rfl
  zl := rfl
  z1 := fun h => by first | rfl | cases h
instance : FldI Try.prog 42 0 0 3 := ⟨⟨_, _, Try.underlying42, rfl, rfl, rfl⟩⟩
instance : FldI Try.prog 42 1 1 23 := ⟨⟨_, _, Try.underlying42, rfl, rfl, rfl⟩⟩
instance : FldI Try.prog 42 2 2 3 := ⟨⟨_, _, Try.underlying42, rfl, rfl, rfl⟩⟩
instance : FldI Try.prog 42 3 3 3 := ⟨⟨_, _, Try.underlying42, rfl, rfl, rfl⟩⟩
instance : StructI Try.prog 42 [(0, 1), (1, 1), (2, 1), (3, 1)] := ⟨⟨_, Try.underlying42, by kernel_rfl⟩⟩
theorem ti44 : (Try.prog.info? 44).map (fun i => (i.size, i.bytes, i.zero)) = some (1, 24, some (zval false [.slice []])) := by kernel_rfl
instance tyI44 : TyI Try.prog 44 false 1 24 [.slice []] where
  desc := ⟨_, Try.underlying44, rfl⟩
  info := by
    obtain ⟨i, h1, h2⟩ := Option.map_eq_some_iff.1 ti44
    simp only [Prod.mk.injEq] at h2
    exact ⟨i, h1, h2.1, h2.2.1, h2.2.2⟩
  zc := rfl
  zl := rfl
  z1 := fun h => by first | rfl | cases h
instance : SlcI Try.prog 44 72 := ⟨Try.underlying44⟩
theorem ti45 : (Try.prog.info? 45).map (fun i => (i.size, i.bytes, i.zero)) = some (3, 48, some (zval true [.str [], .int .i64 0, .slice []])) := by kernel_rfl
instance tyI45 : TyI Try.prog 45 true 3 48 [.str [], .int .i64 0, .slice []] where
  desc := ⟨_, Try.underlying45, rfl⟩
  info := by
    obtain ⟨i, h1, h2⟩ := Option.map_eq_some_iff.1 ti45
    simp only [Prod.mk.injEq] at h2
    exact ⟨i, h1, h2.1, h2.2.1, h2.2.2⟩
  zc := rfl
  zl := rfl
  z1 := fun h => by first | rfl | cases h
instance : FldI Try.prog 45 0 0 9 := ⟨⟨_, _, Try.underlying45, rfl, rfl, rfl⟩⟩
instance : FldI Try.prog 45 1 1 3 := ⟨⟨_, _, Try.underlying45, rfl, rfl, rfl⟩⟩
instance : FldI Try.prog 45 2 2 44 := ⟨⟨_, _, Try.underlying45, rfl, rfl, rfl⟩⟩
instance : StructI Try.prog 45 [(0, 1), (1, 1), (2, 1)] := ⟨⟨_, Try.underlying45, by kernel_rfl⟩⟩
theorem ti46 : (Try.prog.info? 46).map (fun i => (i.size, i.bytes, i.zero)) = some (3, 48, some (zval true [.str [], .int .i64 0, .slice []])) := by kernel_rfl
instance tyI46 : TyI Try.prog 46 true 3 48 [.str [], .int .i64 0, .slice []] where
  desc := ⟨_, Try.underlying46, rfl⟩
  info := by
    obtain ⟨i, h1, h2⟩ := Option.map_eq_some_iff.1 ti46
    simp only [Prod.mk.injEq] at h2
    exact ⟨i, h1, h2.1, h2.2.1, h2.2.2⟩
  zc := rfl
  zl := rfl
  z1 := fun h => by first | rfl | cases h
instance : FldI Try.prog 46 0 0 9 := ⟨⟨_, _, Try.underlying46, rfl, rfl, rfl⟩⟩
instance : FldI Try.prog 46 1 1 3 := ⟨⟨_, _, Try.underlying46, rfl, rfl, rfl⟩⟩
instance : FldI Try.prog 46 2 2 44 := ⟨⟨_, _, Try.underlying46, rfl, rfl, rfl⟩⟩
instance : StructI Try.prog 46 [(0, 1), (1, 1), (2, 1)] := ⟨⟨_, Try.underlying46, by kernel_rfl⟩⟩
theorem ti47 : (Try.prog.info? 47).map (fun i => (i.size, i.bytes, i.zero)) = some (1, 24, some (zval false [.slice []])) := by kernel_rfl
instance tyI47 : TyI Try.prog 47 false 1 24 [.slice []] where
  desc := ⟨_, Try.underlying47, rfl⟩
  info := by
    obtain ⟨i, h1, h2⟩ := Option.map_eq_some_iff.1 ti47
    simp only [Prod.mk.injEq] at h2
    exact ⟨i, h1, h2.1, h2.2.1, h2.2.2⟩
  zc := rfl
  zl := rfl
  z1 := fun h => by first | rfl | cases h
instance : SlcI Try.prog 47 61 := ⟨Try.underlying47⟩
theorem ti48 : (Try.prog.info? 48).map (fun i => (i.size, i.bytes, i.zero)) = some (1, 24, some (zval false [.slice []])) := by kernel_rfl
instance tyI48 : TyI Try.prog 48 false 1 24 [.slice []] where
  desc := ⟨_, Try.underlying48, rfl⟩
  info := by
    obtain ⟨i, h1, h2⟩ := Option.map_eq_some_iff.1 ti48
    simp only [Prod.mk.injEq] at h2
    exact ⟨i, h1, h2.1, h2.2.1, h2.2.2⟩
  zc := rfl
  zl := rfl
  z1 := fun h => by first | rfl | cases h
instance : SlcI Try.prog 48 5 := ⟨Try.underlying48⟩
theorem ti49 : (Try.prog.info? 49).map (fun i => (i.size, i.bytes, i.zero)) = some (8, 80, some (zval true [.int .u64 0, .int .u64 0, .bool false, .int .i64 0, .bool false, .int .i64 0, .int .i64 0, .slice []])) := by kernel_rfl
instance tyI49 : TyI Try.prog 49 true 8 80 [.int .u64 0, .int .u64 0, .bool false, .int .i64 0, .bool false, .int .i64 0, .int .i64 0, .slice []] where
  desc := ⟨_, Try.underlying49, rfl⟩
  info := by
    obtain ⟨i, h1, h2⟩ := Option.map_eq_some_iff.1 ti49
    simp only [Prod.mk.injEq] at h2
    exact ⟨i, h1, h2.1, h2.2.1, h2.2.2⟩
  zc := rfl
  zl := rfl
  z1 := fun h => by first | rfl | cases h
instance : FldI Try.prog 49 0 0 23 := ⟨⟨_, _, Try.underlying49, rfl, rfl, rfl⟩⟩
instance : FldI Try.prog 49 1 1 23 := ⟨⟨_, _, Try.underlying49, rfl, rfl, rfl⟩⟩
instance : FldI Try.prog 49 2 2 4 := ⟨⟨_, _, Try.underlying49, rfl, rfl, rfl⟩⟩
instance : FldI Try.prog 49 3 3 3 := ⟨⟨_, _, Try.underlying49, rfl, rfl, rfl⟩⟩
instance : FldI Try.prog 49 4 4 4 := ⟨⟨_, _, Try.underlying49, rfl, rfl, rfl⟩⟩
instance : FldI Try.prog 49 5 5 3 := ⟨⟨_, _, Try.underlying49, rfl, rfl, rfl⟩⟩
instance : FldI Try.prog 49 6 6 3 := ⟨⟨_, _, Try.underlying49, rfl, rfl, rfl⟩⟩
instance : FldI Try.prog 49 7 7 48 := ⟨⟨_, _, Try.underlying49, rfl, rfl, rfl⟩⟩
instance : StructI Try.prog 49 [(0, 1), (1, 1), (2, 1), (3, 1), (4, 1), (5, 1), (6, 1), (7, 1)] := ⟨⟨_, Try.underlying49, by kernel_rfl⟩⟩
theorem ti50 : (Try.prog.info? 50).map (fun i => (i.size, i.bytes, i.zero)) = some (8, 80, some (zval true [.int .u64 0, .int .u64 0, .bool false, .int .i64 0, .bool false, .int .i64 0, .int .i64 0, .slice []])) := by kernel_rfl
instance tyI50 : TyI Try.prog 50 true 8 80 [.int .u64 0, .int .u64 0, .bool false, .int .i64 0, .bool false, .int .i64 0, .int .i64 0, .slice []] where
  desc := ⟨_, Try.underlying50, rfl⟩
  info := by
    obtain ⟨i, h1, h2⟩ := Option.map_eq_some_iff.1 ti50
    simp only [Prod.mk.injEq] at h2
    exact ⟨i, h1, h2.1, h2.2.1, h2.2.2⟩
  zc := rfl
  zl := rfl
  z1 := fun h => by first | rfl | cases h
instance : FldI Try.prog 50 0 0 23 := ⟨⟨_, _, Try.underlying50, rfl, rfl, rfl⟩⟩
instance : FldI Try.prog 50 1 1 23 := ⟨⟨_, _, Try.underlying50, rfl, rfl, rfl⟩⟩
instance : FldI Try.prog 50 2 2 4 := ⟨⟨_, _, Try.underlying50, rfl, rfl, rfl⟩⟩
instance : FldI Try.prog 50 3 3 3 := ⟨⟨_, _, Try.underlying50, rfl, rfl, rfl⟩⟩
instance : FldI Try.prog 50 4 4 4 := ⟨⟨_, _, Try.underlying50, rfl, rfl, rfl⟩⟩
instance : FldI Try.prog 50 5 5 3 := ⟨⟨_, _, Try.underlying50, rfl, rfl, rfl⟩⟩
instance : FldI Try.prog 50 6 6 3 := ⟨⟨_, _, Try.underlying50, rfl, rfl, rfl⟩⟩
instance : FldI Try.prog 50 7 7 48 := ⟨⟨_, _, Try.underlying50, rfl, rfl, rfl⟩⟩
instance : StructI Try.prog 50 [(0, 1), (1, 1), (2, 1), (3, 1), (4, 1), (5, 1), (6, 1), (7, 1)] := ⟨⟨_, Try.underlying50, by kernel_rfl⟩⟩
theorem ti52 : (Try.prog.info? 52).map (fun i => (i.size, i.bytes, i.zero)) = some (1, 24, some (zval false [.slice []])) := by kernel_rfl
instance tyI52 : TyI Try.prog 52 false 1 24 [.slice []] where
  desc := ⟨_, Try.underlying52, rfl⟩
  info := by
    obtain ⟨i, h1, h2⟩ := Option.map_eq_some_iff.1 ti52
    simp only [Prod.mk.injEq] at h2
    exact ⟨i, h1, h2.1, h2.2.1, h2.2.2⟩
  zc := rfl
  zl := rfl
  z1 := fun h => by first | rfl | cases h
instance : SlcI Try.prog 52 58 := ⟨Try.underlying52⟩
theorem ti57 : (Try.prog.info? 57).map (fun i => (i.size, i.bytes, i.zero)) = some (9, 88, some (zval true [.int .i64 0, .int .u64 0, .int .u64 0, .bool false, .int .i64 0, .bool false, .int .i64 0, .int .i64 0, .slice []])) := by kernel_rfl
instance tyI57 : TyI Try.prog 57 true 9 88 [.int .i64 0, .int .u64 0, .int .u64 0, .bool false, .int .i64 0, .bool false, .int .i64 0, .int .i64 0, .slice []] where
  desc := ⟨_, Try.underlying57, rfl⟩
  info := by
    obtain ⟨i, h1, h2⟩ := Option.map_eq_some_iff.1 ti57
    simp only [Prod.mk.injEq] at h2
    exact ⟨i, h1, h2.1, h2.2.1, h2.2.2⟩
  zc := rfl
  zl := rfl
  z1 := fun h => by first | rfl | cases h
instance : FldI Try.prog 57 0 0 3 := ⟨⟨_, _, Try.underlying57, rfl, rfl, rfl⟩⟩
instance : FldI Try.prog 57 1 1 50 := ⟨⟨_, _, Try.underlying57, rfl, rfl, rfl⟩⟩
instance : StructI Try.prog 57 [(0, 1), (1, 8)] := ⟨⟨_, Try.underlying57, by kernel_rfl⟩⟩
theorem ti58 : (Try.prog.info? 58).map (fun i => (i.size, i.bytes, i.zero)) = some (9, 88, some (zval true [.int .i64 0, .int .u64 0, .int .u64 0, .bool false, .int .i64 0, .bool false, .int .i64 0, .int .i64 0, .slice []])) := by kernel_rfl
instance tyI58 : TyI Try.prog 58 true 9 88 [.int .i64 0, .int .u64 0, .int .u64 0, .bool false, .int .i64 0, .bool false, .int .i64 0, .int .i64 0, .slice []] where
  desc := ⟨_, Try.underlying58, rfl⟩
  info := by
    obtain ⟨i, h1, h2⟩ := Option.map_eq_some_iff.1 ti58
    simp only [Prod.mk.injEq] at h2
    exact ⟨i, h1, h2.1, h2.2.1, h2.2.2⟩
  zc := rfl
  zl := rfl
  z1 := fun h => by first | rfl | cases h
instance : FldI Try.prog 58 0 0 3 := ⟨⟨_, _, Try.underlying58, rfl, rfl, rfl⟩⟩
instance : FldI Try.prog 58 1 1 50 := ⟨⟨_, _, Try.underlying58, rfl, rfl, rfl⟩⟩
instance : StructI Try.prog 58 [(0, 1), (1, 8)] := ⟨⟨_, Try.underlying58, by kernel_rfl⟩⟩
theorem ti59 : (Try.prog.info? 59).map (fun i => (i.size, i.bytes, i.zero)) = some (1, 24, some (zval false [.slice []])) := by kernel_rfl
instance tyI59 : TyI Try.prog 59 false 1 24 [.slice []] where
  desc := ⟨_, Try.underlying59, rfl⟩
  info := by
    obtain ⟨i, h1, h2⟩ := Option.map_eq_some_iff.1 ti59
    simp only [Prod.mk.injEq] at h2
    exact ⟨i, h1, h2.1, h2.2.1, h2.2.2⟩
  zc := rfl
  zl := rfl
  z1 := fun h => by first | rfl | cases h
instance : SlcI Try.prog 59 4 := ⟨Try.underlying59⟩
theorem ti60 : (Try.prog.info? 60).map (fun i => (i.size, i.bytes, i.zero)) = some (4, 64, some (zval true [.int .i64 0, .slice [], .int .i64 0, .slice []])) := by kernel_rfl
instance tyI60 : TyI Try.prog 60 true 4 64 [.int .i64 0, .slice [], .int .i64 0, .slice []] where
  desc := ⟨_, Try.underlying60, rfl⟩
  info := by
    obtain ⟨i, h1, h2⟩ := Option.map_eq_some_iff.1 ti60
    simp only [Prod.mk.injEq] at h2
    exact ⟨i, h1, h2.1, h2.2.1, h2.2.2⟩
  zc := rfl
  zl := rfl
  z1 := fun h => by first | rfl | cases h
instance : FldI Try.prog 60 0 0 3 := ⟨⟨_, _, Try.underlying60, rfl, rfl, rfl⟩⟩
instance : FldI Try.prog 60 1 1 38 := ⟨⟨_, _, Try.underlying60, rfl, rfl, rfl⟩⟩
instance : FldI Try.prog 60 2 2 3 := ⟨⟨_, _, Try.underlying60, rfl, rfl, rfl⟩⟩
instance : FldI Try.prog 60 3 3 59 := ⟨⟨_, _, Try.underlying60, rfl, rfl, rfl⟩⟩
instance : StructI Try.prog 60 [(0, 1), (1, 1), (2, 1), (3, 1)] := ⟨⟨_, Try.underlying60, by kernel_rfl⟩⟩
theorem ti61 : (Try.prog.info? 61).map (fun i => (i.size, i.bytes, i.zero)) = some (4, 64, some (zval true [.int .i64 0, .slice [], .int .i64 0, .slice []])) := by kernel_rfl
instance tyI61 : TyI Try.prog 61 true 4 64 [.int .i64 0, .slice [], .int .i64 0, .slice []] where
  desc := ⟨_, Try.underlying61, rfl⟩
  info := by
    obtain ⟨i, h1, h2⟩ := Option.map_eq_some_iff.1 ti61
    simp only [Prod.mk.injEq] at h2
    exact ⟨i, h1, h2.1, h2.2.1, h2.2.2⟩
  zc := rfl
  zl := rfl
  z1 := fun h => by first | rfl | cases h
instance : FldI Try.prog 61 0 0 3 := ⟨⟨_, _, Try.underlying61, rfl, rfl, rfl⟩⟩
instance : FldI Try.prog 61 1 1 38 := ⟨⟨_, _, Try.underlying61, rfl, rfl, rfl⟩⟩
instance : FldI Try.prog 61 2 2 3 := ⟨⟨_, _, Try.underlying61, rfl, rfl, rfl⟩⟩
instance : FldI Try.prog 61 3 3 59 := ⟨⟨_, _, Try.underlying61, rfl, rfl, rfl⟩⟩
instance : StructI Try.prog 61 [(0, 1), (1, 1), (2, 1), (3, 1)] := ⟨⟨_, Try.underlying61, by kernel_rfl⟩⟩
theorem ti71 : (Try.prog.info? 71).map (fun i => (i.size, i.bytes, i.zero)) = some (2, 16, some (zval true [.int .i64 0, .int .i64 0])) := by kernel_rfl
instance tyI71 : TyI Try.prog 71 true 2 16 [.int .i64 0, .int .i64 0] where
  desc := ⟨_, Try.underlying71, rfl⟩
  info := by
    obtain ⟨i, h1, h2⟩ := Option.map_eq_some_iff.1 ti71
    simp only [Prod.mk.injEq] at h2
    exact ⟨i, h1, h2.1, h2.2.1, h2.2.2⟩
  zc := rfl
  zl := rfl
  z1 := fun h => by first | rfl | cases h
instance : FldI Try.prog 71 0 0 3 := ⟨⟨_, _, Try.underlying71, rfl, rfl, rfl⟩⟩
instance : FldI Try.prog 71 1 1 3 := ⟨⟨_, _, Try.underlying71, rfl, rfl, rfl⟩⟩
instance : StructI Try.prog 71 [(0, 1), (1, 1)] := ⟨⟨_, Try.underlying71, by kernel_rfl⟩⟩
theorem ti72 : (Try.prog.info? 72).map (fun i => (i.size, i.bytes, i.zero)) = some (2, 16, some (zval true [.int .i64 0, .int .i64 0])) := by kernel_rfl
instance tyI72 : TyI Try.prog 72 true 2 16 [.int .i64 0, .int .i64 0] where
  desc := ⟨_, Try.underlying72, rfl⟩
  info := by
    obtain ⟨i, h1, h2⟩ := Option.map_eq_some_iff.1 ti72
    simp only [Prod.mk.injEq] at h2
    exact ⟨i, h1, h2.1, h2.2.1, h2.2.2⟩
  zc := rfl
  zl := rfl
  z1 := fun h => by first | rfl | cases h
instance : FldI Try.prog 72 0 0 3 := ⟨⟨_, _, Try.underlying72, rfl, rfl, rfl⟩⟩
instance : FldI Try.prog 72 1 1 3 := ⟨⟨_, _, Try.underlying72, rfl, rfl, rfl⟩⟩
instance : StructI Try.prog 72 [(0, 1), (1, 1)] := ⟨⟨_, Try.underlying72, by kernel_rfl⟩⟩
theorem ti112 : (Try.prog.info? 112).map (fun i => (i.size, i.bytes, i.zero)) = some (1, 4, some (zval false [.int .u32 0])) := by kernel_rfl
instance tyI112 : TyI Try.prog 112 false 1 4 [.int .u32 0] where
  desc := ⟨_, Try.underlying112, rfl⟩
  info := by
    obtain ⟨i, h1, h2⟩ := Option.map_eq_some_iff.1 ti112
    simp only [Prod.mk.injEq] at h2
    exact ⟨i, h1, h2.1, h2.2.1, h2.2.2⟩
  zc := rfl
  zl := rfl
  z1 := fun h => by first | rfl | cases h
instance : IntI Try.prog 112 .u32 := ⟨Try.underlying112⟩
theorem ti113 : (Try.prog.info? 113).map (fun i => (i.size, i.bytes, i.zero)) = some (4, 16, some (zval true [.int .u32 0, .int .u32 0, .int .u32 0, .int .u32 0])) := by kernel_rfl
instance tyI113 : TyI Try.prog 113 true 4 16 [.int .u32 0, .int .u32 0, .int .u32 0, .int .u32 0] where
  desc := ⟨_, Try.underlying113, rfl⟩
  info := by
    obtain ⟨i, h1, h2⟩ := Option.map_eq_some_iff.1 ti113
    simp only [Prod.mk.injEq] at h2
    exact ⟨i, h1, h2.1, h2.2.1, h2.2.2⟩
  zc := rfl
  zl := rfl
  z1 := fun h => by first | rfl | cases h
instance : ArrI Try.prog 113 4 112 := ⟨Try.underlying113⟩
theorem ti115 : (Try.prog.info? 115).map (fun i => (i.size, i.bytes, i.zero)) = some (16, 64, some (zval true [.int .u32 0, .int .u32 0, .int .u32 0, .int .u32 0, .int .u32 0, .int .u32 0, .int .u32 0, .int .u32 0, .int .u32 0, .int .u32 0, .int .u32 0, .int .u32 0, .int .u32 0, .int .u32 0, .int .u32 0, .int .u32 0])) := by kernel_rfl
instance tyI115 : TyI Try.prog 115 true 16 64 [.int .u32 0, .int .u32 0, .int .u32 0, .int .u32 0, .int .u32 0, .int .u32 0, .int .u32 0, .int .u32 0, .int .u32 0, .int .u32 0, .int .u32 0, .int .u32 0, .int .u32 0, .int .u32 0, .int .u32 0, .int .u32 0] where
  desc := ⟨_, Try.underlying115, rfl⟩
  info := by
    obtain ⟨i, h1, h2⟩ := Option.map_eq_some_iff.1 ti115
    simp only [Prod.mk.injEq] at h2
    exact ⟨i, h1, h2.1, h2.2.1, h2.2.2⟩
  zc := rfl
  zl := rfl
  z1 := fun h => by first | rfl | cases h
instance : ArrI Try.prog 115 16 112 := ⟨Try.underlying115⟩
theorem ti116 : (Try.prog.info? 116).map (fun i => (i.size, i.bytes, i.zero)) = some (64, 256, some (zval true [.int .u32 0, .int .u32 0, .int .u32 0, .int .u32 0, .int .u32 0, .int .u32 0, .int .u32 0, .int .u32 0, .int .u32 0, .int .u32 0, .int .u32 0, .int .u32 0, .int .u32 0, .int .u32 0, .int .u32 0, .int .u32 0, .int .u32 0, .int .u32 0, .int .u32 0, .int .u32 0, .int .u32 0, .int .u32 0, .int .u32 0, .int .u32 0, .int .u32 0, .int .u32 0, .int .u32 0, .int .u32 0, .int .u32 0, .int .u32 0, .int .u32 0, .int .u32 0, .int .u32 0, .int .u32 0, .int .u32 0, .int .u32 0, .int .u32 0, .int .u32 0, .int .u32 0, .int .u32 0, .int .u32 0, .int .u32 0, .int .u32 0, .int .u32 0, .int .u32 0, .int .u32 0, .int .u32 0, .int .u32 0, .int .u32 0, .int .u32 0, .int .u32 0, .int .u32 0, .int .u32 0, .int .u32 0, .int .u32 0, .int .u32 0, .int .u32 0, .int .u32 0, .int .u32 0, .int .u32 0, .int .u32 0, .int .u32 0, .int .u32 0, .int .u32 0])) := by kernel_rfl
instance tyI116 : TyI Try.prog 116 true 64 256 [.int .u32 0, .int .u32 0, .int .u32 0, .int .u32 0, .int .u32 0, .int .u32 0, .int .u32 0, .int .u32 0, .int .u32 0, .int .u32 0, .int .u32 0, .int .u32 0, .int .u32 0, .int .u32 0, .int .u32 0, .int .u32 0, .int .u32 0, .int .u32 0, .int .u32 0, .int .u32 0, .int .u32 0, .int .u32 0, .int .u32 0, .int .u32 0, .int .u32 0, .int .u32 0, .int .u32 0, .int .u32 0, .int .u32 0, .int .u32 0, .int .u32 0, .int .u32 0, .int .u32 0, .int .u32 0, .int .u32 0, .int .u32 0, .int .u32 0, .int .u32 0, .int .u32 0, .int .u32 0, .int .u32 0, .int .u32 0, .int .u32 0, .int .u32 0, .int .u32 0, .int .u32 0, .int .u32 0, .int .u32 0, .int .u32 0, .int .u32 0, .int .u32 0, .int .u32 0, .int .u32 0, .int .u32 0, .int .u32 0, .int .u32 0, .int .u32 0, .int .u32 0, .int .u32 0, .int .u32 0, .int .u32 0, .int .u32 0, .int .u32 0, .int .u32 0] where
  desc := ⟨_, Try.underlying116, rfl⟩
  info := by
    obtain ⟨i, h1, h2⟩ := Option.map_eq_some_iff.1 ti116
    simp only [Prod.mk.injEq] at h2
    exact ⟨i, h1, h2.1, h2.2.1, h2.2.2⟩
  zc := rfl
  zl := rfl
  z1 := fun h => by first | rfl | cases h
instance : ArrI Try.prog 116 64 112 := ⟨Try.underlying116⟩
theorem ti118 : (Try.prog.info? 118).map (fun i => (i.size, i.bytes, i.zero)) = some (16, 128, some (zval true [.int .i64 0, .int .i64 0, .int .i64 0, .int .i64 0, .int .i64 0, .int .i64 0, .int .i64 0, .int .i64 0, .int .i64 0, .int .i64 0, .int .i64 0, .int .i64 0, .int .i64 0, .int .i64 0, .int .i64 0, .int .i64 0])) := by kernel_rfl
instance tyI118 : TyI Try.prog 118 true 16 128 [.int .i64 0, .int .i64 0, .int .i64 0, .int .i64 0, .int .i64 0, .int .i64 0, .int .i64 0, .int .i64 0, .int .i64 0, .int .i64 0, .int .i64 0, .int .i64 0, .int .i64 0, .int .i64 0, .int .i64 0, .int .i64 0] where
  desc := ⟨_, Try.underlying118, rfl⟩
  info := by
    obtain ⟨i, h1, h2⟩ := Option.map_eq_some_iff.1 ti118
    simp only [Prod.mk.injEq] at h2
    exact ⟨i, h1, h2.1, h2.2.1, h2.2.2⟩
  zc := rfl
  zl := rfl
  z1 := fun h => by first | rfl | cases h
instance : ArrI Try.prog 118 16 3 := ⟨Try.underlying118⟩
theorem ti124 : (Try.prog.info? 124).map (fun i => (i.size, i.bytes, i.zero)) = some (0, 0, some (zval true [])) := by kernel_rfl
instance tyI124 : TyI Try.prog 124 true 0 0 [] where
  desc := ⟨_, Try.underlying124, rfl⟩
  info := by
    obtain ⟨i, h1, h2⟩ := Option.map_eq_some_iff.1 ti124
    simp only [Prod.mk.injEq] at h2
    exact ⟨i, h1, h2.1, h2.2.1, h2.2.2⟩
  zc := rfl
  zl := rfl
  z1 := fun h => by first | rfl | cases h
instance : ArrI Try.prog 124 0 16 := ⟨Try.underlying124⟩
theorem ti125 : (Try.prog.info? 125).map (fun i => (i.size, i.bytes, i.zero)) = some (0, 0, some (zval true [])) := by kernel_rfl
instance tyI125 : TyI Try.prog 125 true 0 0 [] where
  desc := ⟨_, Try.underlying125, rfl⟩
  info := by
    obtain ⟨i, h1, h2⟩ := Option.map_eq_some_iff.1 ti125
    simp only [Prod.mk.injEq] at h2
    exact ⟨i, h1, h2.1, h2.2.1, h2.2.2⟩
  zc := rfl
  zl := rfl
  z1 := fun h => by first | rfl | cases h
instance : FldI Try.prog 125 0 0 124 := ⟨⟨_, _, Try.underlying125, rfl, rfl, rfl⟩⟩
instance : StructI Try.prog 125 [(0, 0)] := ⟨⟨_, Try.underlying125, by kernel_rfl⟩⟩
instance : EqI Try.prog 27 [1, 1] := ⟨by kernel_rfl, ⟨_, Try.underlying27⟩, by kernel_rfl⟩
instance : EqI Try.prog 42 [1, 1, 1, 1] := ⟨by kernel_rfl, ⟨_, Try.underlying42⟩, by kernel_rfl⟩
instance : EqI Try.prog 72 [1, 1] := ⟨by kernel_rfl, ⟨_, Try.underlying72⟩, by kernel_rfl⟩
instance : MapI Try.prog 70 3 3 := ⟨Try.underlying70⟩
end Go.Proofs.Ytpdoplmnedpdaaa
