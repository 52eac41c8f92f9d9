/- The type facts of this translation, by program (wip/dm/types.py). -/
import Derived.KernelRfl
import Derived.Test.YtfmaehhloffabaaProg
import Derived.Test.YtfmaehhloffabaaybMake
import Derived.Test.YtfmaehhloffabaaybPu
namespace Go.Proofs.Ytfmaehhloffabaa
open Go.RowKit
theorem ti3 : (Try.prog.info? 3).map (fun i => (i.size, i.bytes, i.zero)) = some (1, 8, some (zval false [.int .i64 0])) := by kernel_rfl
instance tyI3 : TyI Try.prog 3 false 1 8 [.int .i64 0] where
  desc := ⟨_, Try.underlying3, rfl⟩
  info := by
    obtain ⟨i, h1, h2⟩ := Option.map_eq_some_iff.1 ti3
    simp only [Prod.mk.injEq] at h2
    exact ⟨i, h1, h2.1, h2.2.1, h2.2.2⟩
  zc := rfl
  zl := rfl
  z1 := fun h => by first | rfl | cases h
instance : IntI Try.prog 3 .i64 := ⟨Try.underlying3⟩
theorem ti4 : (Try.prog.info? 4).map (fun i => (i.size, i.bytes, i.zero)) = some (1, 1, some (zval false [.bool false])) := by kernel_rfl
instance tyI4 : TyI Try.prog 4 false 1 1 [.bool false] where
  desc := ⟨_, Try.underlying4, rfl⟩
  info := by
    obtain ⟨i, h1, h2⟩ := Option.map_eq_some_iff.1 ti4
    simp only [Prod.mk.injEq] at h2
    exact ⟨i, h1, h2.1, h2.2.1, h2.2.2⟩
  zc := rfl
  zl := rfl
  z1 := fun h => by first | rfl | cases h
instance : BoolI Try.prog 4 := ⟨Try.underlying4⟩
theorem ti5 : (Try.prog.info? 5).map (fun i => (i.size, i.bytes, i.zero)) = some (1, 1, some (zval false [.int .u8 0])) := by kernel_rfl
instance tyI5 : TyI Try.prog 5 false 1 1 [.int .u8 0] where
  desc := ⟨_, Try.underlying5, rfl⟩
  info := by
    obtain ⟨i, h1, h2⟩ := Option.map_eq_some_iff.1 ti5
    simp only [Prod.mk.injEq] at h2
    exact ⟨i, h1, h2.1, h2.2.1, h2.2.2⟩
  zc := rfl
  zl := rfl
  z1 := fun h => by first | rfl | cases h
instance : IntI Try.prog 5 .u8 := ⟨Try.underlying5⟩
theorem ti9 : (Try.prog.info? 9).map (fun i => (i.size, i.bytes, i.zero)) = some (1, 16, some (zval false [.str []])) := by kernel_rfl
instance tyI9 : TyI Try.prog 9 false 1 16 [.str []] where
  desc := ⟨_, Try.underlying9, rfl⟩
  info := by
    obtain ⟨i, h1, h2⟩ := Option.map_eq_some_iff.1 ti9
    simp only [Prod.mk.injEq] at h2
    exact ⟨i, h1, h2.1, h2.2.1, h2.2.2⟩
  zc := rfl
  zl := rfl
  z1 := fun h => by first | rfl | cases h
instance : StrI Try.prog 9 := ⟨Try.underlying9⟩
theorem ti23 : (Try.prog.info? 23).map (fun i => (i.size, i.bytes, i.zero)) = some (1, 24, some (zval false [.slice []])) := by kernel_rfl
instance tyI23 : TyI Try.prog 23 false 1 24 [.slice []] where
  desc := ⟨_, Try.underlying23, rfl⟩
  info := by
    obtain ⟨i, h1, h2⟩ := Option.map_eq_some_iff.1 ti23
    simp only [Prod.mk.injEq] at h2
    exact ⟨i, h1, h2.1, h2.2.1, h2.2.2⟩
  zc := rfl
  zl := rfl
  z1 := fun h => by first | rfl | cases h
instance : SlcI Try.prog 23 52 := ⟨Try.underlying23⟩
theorem ti24 : (Try.prog.info? 24).map (fun i => (i.size, i.bytes, i.zero)) = some (1, 24, some (zval false [.slice []])) := by kernel_rfl
instance tyI24 : TyI Try.prog 24 false 1 24 [.slice []] where
  desc := ⟨_, Try.underlying24, rfl⟩
  info := by
    obtain ⟨i, h1, h2⟩ := Option.map_eq_some_iff.1 ti24
    simp only [Prod.mk.injEq] at h2
    exact ⟨i, h1, h2.1, h2.2.1, h2.2.2⟩
  zc := rfl
  zl := rfl
  z1 := fun h => by first | rfl | cases h
instance : SlcI Try.prog 24 55 := ⟨Try.underlying24⟩
theorem ti26 : (Try.prog.info? 26).map (fun i => (i.size, i.bytes, i.zero)) = some (2, 48, some (zval true [.slice [], .slice []])) := by kernel_rfl
instance tyI26 : TyI Try.prog 26 true 2 48 [.slice [], .slice []] where
  desc := ⟨_, Try.underlying26, rfl⟩
  info := by
    obtain ⟨i, h1, h2⟩ := Option.map_eq_some_iff.1 ti26
    simp only [Prod.mk.injEq] at h2
    exact ⟨i, h1, h2.1, h2.2.1, h2.2.2⟩
  zc := rfl
  zl := rfl
  z1 := fun h => by first | rfl | cases h
instance : FldI Try.prog 26 0 0 23 := ⟨⟨_, _, Try.underlying26, rfl, rfl, rfl⟩⟩
instance : FldI Try.prog 26 1 1 24 := ⟨⟨_, _, Try.underlying26, rfl, rfl, rfl⟩⟩
instance : StructI Try.prog 26 [(0, 1), (1, 1)] := ⟨⟨_, Try.underlying26, by kernel_rfl⟩⟩
theorem ti28 : (Try.prog.info? 28).map (fun i => (i.size, i.bytes, i.zero)) = some (1, 24, some (zval false [.slice []])) := by kernel_rfl
instance tyI28 : TyI Try.prog 28 false 1 24 [.slice []] where
  desc := ⟨_, Try.underlying28, rfl⟩
  info := by
    obtain ⟨i, h1, h2⟩ := Option.map_eq_some_iff.1 ti28
    simp only [Prod.mk.injEq] at h2
    exact ⟨i, h1, h2.1, h2.2.1, h2.2.2⟩
  zc := rfl
  zl := rfl
  z1 := fun h => by first | rfl | cases h
instance : SlcI Try.prog 28 40 := ⟨Try.underlying28⟩
theorem ti30 : (Try.prog.info? 30).map (fun i => (i.size, i.bytes, i.zero)) = some (1, 24, some (zval true [.slice []])) := by kernel_rfl
instance tyI30 : TyI Try.prog 30 true 1 24 [.slice []] where
  desc := ⟨_, Try.underlying30, rfl⟩
  info := by
    obtain ⟨i, h1, h2⟩ := Option.map_eq_some_iff.1 ti30
    simp only [Prod.mk.injEq] at h2
    exact ⟨i, h1, h2.1, h2.2.1, h2.2.2⟩
  zc := rfl
  zl := rfl
  z1 := fun h => by first | rfl | cases h
instance : FldI Try.prog 30 0 0 28 := ⟨⟨_, _, Try.underlying30, rfl, rfl, rfl⟩⟩
instance : StructI Try.prog 30 [(0, 1)] := ⟨⟨_, Try.underlying30, by kernel_rfl⟩⟩
theorem ti31 : (Try.prog.info? 31).map (fun i => (i.size, i.bytes, i.zero)) = some (1, 8, some (zval false [.int .i64 0])) := by kernel_rfl
instance tyI31 : TyI Try.prog 31 false 1 8 [.int .i64 0] where
  desc := ⟨_, Try.underlying31, rfl⟩
  info := by
    obtain ⟨i, h1, h2⟩ := Option.map_eq_some_iff.1 ti31
    simp only [Prod.mk.injEq] at h2
    exact ⟨i, h1, h2.1, h2.2.1, h2.2.2⟩
  zc := rfl
  zl := rfl
  z1 := fun h => by first | rfl | cases h
theorem ti33 : (Try.prog.info? 33).map (fun i => (i.size, i.bytes, i.zero)) = some (2, 16, some (zval true [.int .i64 0, .int .i64 0])) := by kernel_rfl
instance tyI33 : TyI Try.prog 33 true 2 16 [.int .i64 0, .int .i64 0] where
  desc := ⟨_, Try.underlying33, rfl⟩
  info := by
    obtain ⟨i, h1, h2⟩ := Option.map_eq_some_iff.1 ti33
    simp only [Prod.mk.injEq] at h2
    exact ⟨i, h1, h2.1, h2.2.1, h2.2.2⟩
  zc := rfl
  zl := rfl
  z1 := fun h => by first | rfl | cases h
instance : FldI Try.prog 33 0 0 31 := ⟨⟨_, _, Try.underlying33, rfl, rfl, rfl⟩⟩
instance : StructI Try.prog 33 [(0, 1), (1, 1)] := ⟨⟨_, Try.underlying33, by kernel_rfl⟩⟩
theorem ti37 : (Try.prog.info? 37).map (fun i => (i.size, i.bytes, i.zero)) = some (4, 32, some (zval true [.int .i64 0, .int .i64 0, .int .i64 0, .int .i64 0])) := by kernel_rfl
instance tyI37 : TyI Try.prog 37 true 4 32 [.int .i64 0, .int .i64 0, .int .i64 0, .int .i64 0] where
  desc := ⟨_, Try.underlying37, rfl⟩
  info := by
    obtain ⟨i, h1, h2⟩ := Option.map_eq_some_iff.1 ti37
    simp only [Prod.mk.injEq] at h2
    exact ⟨i, h1, h2.1, h2.2.1, h2.2.2⟩
  zc := rfl
  zl := rfl
  z1 := fun h => by first | rfl | cases h
instance : FldI Try.prog 37 0 0 3 := ⟨⟨_, _, Try.underlying37, rfl, rfl, rfl⟩⟩
instance : FldI Try.prog 37 1 1 3 := ⟨⟨_, _, Try.underlying37, rfl, rfl, rfl⟩⟩
instance : FldI Try.prog 37 2 2 3 := ⟨⟨_, _, Try.underlying37, rfl, rfl, rfl⟩⟩
instance : FldI Try.prog 37 3 3 3 := ⟨⟨_, _, Try.underlying37, rfl, rfl, rfl⟩⟩
instance : StructI Try.prog 37 [(0, 1), (1, 1), (2, 1), (3, 1)] := ⟨⟨_, Try.underlying37, by kernel_rfl⟩⟩
instance : SlcI Try.prog 39 37 := ⟨Try.underlying39⟩
theorem ti40 : (Try.prog.info? 40).map (fun i => (i.size, i.bytes, i.zero)) = some (1, 24, some (zval false [.slice []])) := by kernel_rfl
instance tyI40 : TyI Try.prog 40 false 1 24 [.slice []] where
  desc := ⟨_, Try.underlying40, rfl⟩
  info := by
    obtain ⟨i, h1, h2⟩ := Option.map_eq_some_iff.1 ti40
    simp only [Prod.mk.injEq] at h2
    exact ⟨i, h1, h2.1, h2.2.1, h2.2.2⟩
  zc := rfl
  zl := rfl
  z1 := fun h => by first | rfl | cases h
instance : SlcI Try.prog 40 46 := ⟨Try.underlying40⟩
theorem ti41 : (Try.prog.info? 41).map (fun i => (i.size, i.bytes, i.zero)) = some (1, 8, some (zval false [.int .u64 0])) := by kernel_rfl
instance tyI41 : TyI Try.prog 41 false 1 8 [.int .u64 0] where
  desc := ⟨_, Try.underlying41, rfl⟩
  info := by
    obtain ⟨i, h1, h2⟩ := Option.map_eq_some_iff.1 ti41
    simp only [Prod.mk.injEq] at h2
    exact ⟨i, h1, h2.1, h2.2.1, h2.2.2⟩
  zc := rfl
  zl := rfl
  z1 := fun h => by first | rfl | cases h
instance : IntI Try.prog 41 .u64 := ⟨Try.underlying41⟩
theorem ti43 : (Try.prog.info? 43).map (fun i => (i.size, i.bytes, i.zero)) = some (4, 32, some (zval true [.int .u64 0, .int .i64 0, .int .u64 0, .int .i64 0])) := by kernel_rfl
instance tyI43 : TyI Try.prog 43 true 4 32 [.int .u64 0, .int .i64 0, .int .u64 0, .int .i64 0] where
  desc := ⟨_, Try.underlying43, rfl⟩
  info := by
    obtain ⟨i, h1, h2⟩ := Option.map_eq_some_iff.1 ti43
    simp only [Prod.mk.injEq] at h2
    exact ⟨i, h1, h2.1, h2.2.1, h2.2.2⟩
  zc := rfl
  zl := rfl
  z1 := fun h => by first | rfl | cases h
instance : FldI Try.prog 43 0 0 41 := ⟨⟨_, _, Try.underlying43, rfl, rfl, rfl⟩⟩
instance : FldI Try.prog 43 1 1 3 := ⟨⟨_, _, Try.underlying43, rfl, rfl, rfl⟩⟩
instance : FldI Try.prog 43 2 2 41 := ⟨⟨_, _, Try.underlying43, rfl, rfl, rfl⟩⟩
instance : FldI Try.prog 43 3 3 3 := ⟨⟨_, _, Try.underlying43, rfl, rfl, rfl⟩⟩
instance : StructI Try.prog 43 [(0, 1), (1, 1), (2, 1), (3, 1)] := ⟨⟨_, Try.underlying43, by kernel_rfl⟩⟩
theorem ti44 : (Try.prog.info? 44).map (fun i => (i.size, i.bytes, i.zero)) = some (1, 24, some (zval false [.slice []])) := by kernel_rfl
instance tyI44 : TyI Try.prog 44 false 1 24 [.slice []] where
  desc := ⟨_, Try.underlying44, rfl⟩
  info := by
    obtain ⟨i, h1, h2⟩ := Option.map_eq_some_iff.1 ti44
    simp only [Prod.mk.injEq] at h2
    exact ⟨i, h1, h2.1, h2.2.1, h2.2.2⟩
  zc := rfl
  zl := rfl
  z1 := fun h => by first | rfl | cases h
instance : SlcI Try.prog 44 3 := ⟨Try.underlying44⟩
theorem ti46 : (Try.prog.info? 46).map (fun i => (i.size, i.bytes, i.zero)) = some (9, 120, some (zval true [.int .u64 0, .int .i64 0, .int .u64 0, .int .i64 0, .int .i64 0, .int .i64 0, .slice [], .slice [], .slice []])) := by kernel_rfl
instance tyI46 : TyI Try.prog 46 true 9 120 [.int .u64 0, .int .i64 0, .int .u64 0, .int .i64 0, .int .i64 0, .int .i64 0, .slice [], .slice [], .slice []] where
  desc := ⟨_, Try.underlying46, rfl⟩
  info := by
    obtain ⟨i, h1, h2⟩ := Option.map_eq_some_iff.1 ti46
    simp only [Prod.mk.injEq] at h2
    exact ⟨i, h1, h2.1, h2.2.1, h2.2.2⟩
  zc := rfl
  zl := rfl
  z1 := fun h => by first | rfl | cases h
instance : FldI Try.prog 46 0 0 43 := ⟨⟨_, _, Try.underlying46, rfl, rfl, rfl⟩⟩
instance : FldI Try.prog 46 1 4 3 := ⟨⟨_, _, Try.underlying46, rfl, rfl, rfl⟩⟩
instance : FldI Try.prog 46 2 5 3 := ⟨⟨_, _, Try.underlying46, rfl, rfl, rfl⟩⟩
instance : FldI Try.prog 46 3 6 44 := ⟨⟨_, _, Try.underlying46, rfl, rfl, rfl⟩⟩
instance : FldI Try.prog 46 4 7 44 := ⟨⟨_, _, Try.underlying46, rfl, rfl, rfl⟩⟩
instance : FldI Try.prog 46 5 8 44 := ⟨⟨_, _, Try.underlying46, rfl, rfl, rfl⟩⟩
instance : StructI Try.prog 46 [(0, 4), (4, 1), (5, 1), (6, 1), (7, 1), (8, 1)] := ⟨⟨_, Try.underlying46, by kernel_rfl⟩⟩
theorem ti48 : (Try.prog.info? 48).map (fun i => (i.size, i.bytes, i.zero)) = some (1, 24, some (zval false [.slice []])) := by kernel_rfl
instance tyI48 : TyI Try.prog 48 false 1 24 [.slice []] where
  desc := ⟨_, Try.underlying48, rfl⟩
  info := by
    obtain ⟨i, h1, h2⟩ := Option.map_eq_some_iff.1 ti48
    simp only [Prod.mk.injEq] at h2
    exact ⟨i, h1, h2.1, h2.2.1, h2.2.2⟩
  zc := rfl
  zl := rfl
  z1 := fun h => by first | rfl | cases h
instance : SlcI Try.prog 48 124 := ⟨Try.underlying48⟩
theorem ti50 : (Try.prog.info? 50).map (fun i => (i.size, i.bytes, i.zero)) = some (3, 48, some (zval true [.str [], .int .i64 0, .slice []])) := by kernel_rfl
instance tyI50 : TyI Try.prog 50 true 3 48 [.str [], .int .i64 0, .slice []] where
  desc := ⟨_, Try.underlying50, rfl⟩
  info := by
    obtain ⟨i, h1, h2⟩ := Option.map_eq_some_iff.1 ti50
    simp only [Prod.mk.injEq] at h2
    exact ⟨i, h1, h2.1, h2.2.1, h2.2.2⟩
  zc := rfl
  zl := rfl
  z1 := fun h => by first | rfl | cases h
instance : FldI Try.prog 50 0 0 9 := ⟨⟨_, _, Try.underlying50, rfl, rfl, rfl⟩⟩
instance : FldI Try.prog 50 1 1 3 := ⟨⟨_, _, Try.underlying50, rfl, rfl, rfl⟩⟩
instance : FldI Try.prog 50 2 2 48 := ⟨⟨_, _, Try.underlying50, rfl, rfl, rfl⟩⟩
instance : StructI Try.prog 50 [(0, 1), (1, 1), (2, 1)] := ⟨⟨_, Try.underlying50, by kernel_rfl⟩⟩
theorem ti52 : (Try.prog.info? 52).map (fun i => (i.size, i.bytes, i.zero)) = some (5, 80, some (zval true [.int .u64 0, .slice [], .str [], .int .i64 0, .slice []])) := by kernel_rfl
instance tyI52 : TyI Try.prog 52 true 5 80 [.int .u64 0, .slice [], .str [], .int .i64 0, .slice []] where
  desc := ⟨_, Try.underlying52, rfl⟩
  info := by
    obtain ⟨i, h1, h2⟩ := Option.map_eq_some_iff.1 ti52
    simp only [Prod.mk.injEq] at h2
    exact ⟨i, h1, h2.1, h2.2.1, h2.2.2⟩
  zc := rfl
  zl := rfl
  z1 := fun h => by first | rfl | cases h
instance : FldI Try.prog 52 0 0 41 := ⟨⟨_, _, Try.underlying52, rfl, rfl, rfl⟩⟩
instance : FldI Try.prog 52 1 1 44 := ⟨⟨_, _, Try.underlying52, rfl, rfl, rfl⟩⟩
instance : FldI Try.prog 52 2 2 50 := ⟨⟨_, _, Try.underlying52, rfl, rfl, rfl⟩⟩
instance : StructI Try.prog 52 [(0, 1), (1, 1), (2, 3)] := ⟨⟨_, Try.underlying52, by kernel_rfl⟩⟩
theorem ti55 : (Try.prog.info? 55).map (fun i => (i.size, i.bytes, i.zero)) = some (6, 48, some (zval true [.int .i64 0, .int .i64 0, .int .i64 0, .int .i64 0, .int .i64 0, .bool false])) := by kernel_rfl
instance tyI55 : TyI Try.prog 55 true 6 48 [.int .i64 0, .int .i64 0, .int .i64 0, .int .i64 0, .int .i64 0, .bool false] where
  desc := ⟨_, Try.underlying55, rfl⟩
  info := by
    obtain ⟨i, h1, h2⟩ := Option.map_eq_some_iff.1 ti55
    simp only [Prod.mk.injEq] at h2
    exact ⟨i, h1, h2.1, h2.2.1, h2.2.2⟩
  zc := rfl
  zl := rfl
  z1 := fun h => by first | rfl | cases h
instance : FldI Try.prog 55 0 0 3 := ⟨⟨_, _, Try.underlying55, rfl, rfl, rfl⟩⟩
instance : FldI Try.prog 55 1 1 3 := ⟨⟨_, _, Try.underlying55, rfl, rfl, rfl⟩⟩
instance : FldI Try.prog 55 2 2 3 := ⟨⟨_, _, Try.underlying55, rfl, rfl, rfl⟩⟩
instance : FldI Try.prog 55 3 3 3 := ⟨⟨_, _, Try.underlying55, rfl, rfl, rfl⟩⟩
instance : FldI Try.prog 55 4 4 3 := ⟨⟨_, _, Try.underlying55, rfl, rfl, rfl⟩⟩
instance : FldI Try.prog 55 5 5 4 := ⟨⟨_, _, Try.underlying55, rfl, rfl, rfl⟩⟩
instance : StructI Try.prog 55 [(0, 1), (1, 1), (2, 1), (3, 1), (4, 1), (5, 1)] := ⟨⟨_, Try.underlying55, by kernel_rfl⟩⟩
instance : SlcI Try.prog 57 61 := ⟨Try.underlying57⟩
theorem ti61 : (Try.prog.info? 61).map (fun i => (i.size, i.bytes, i.zero)) = some (7, 88, some (zval true [.int .u64 0, .int .i64 0, .int .u64 0, .int .i64 0, .int .i64 0, .slice [], .slice []])) := by kernel_rfl
instance tyI61 : TyI Try.prog 61 true 7 88 [.int .u64 0, .int .i64 0, .int .u64 0, .int .i64 0, .int .i64 0, .slice [], .slice []] where
  desc := ⟨_, Try.underlying61, rfl⟩
  info := by
    obtain ⟨i, h1, h2⟩ := Option.map_eq_some_iff.1 ti61
    simp only [Prod.mk.injEq] at h2
    exact ⟨i, h1, h2.1, h2.2.1, h2.2.2⟩
  zc := rfl
  zl := rfl
  z1 := fun h => by first | rfl | cases h
instance : FldI Try.prog 61 0 0 43 := ⟨⟨_, _, Try.underlying61, rfl, rfl, rfl⟩⟩
instance : FldI Try.prog 61 3 6 44 := ⟨⟨_, _, Try.underlying61, rfl, rfl, rfl⟩⟩
instance : StructI Try.prog 61 [(0, 4), (4, 1), (5, 1), (6, 1)] := ⟨⟨_, Try.underlying61, by kernel_rfl⟩⟩
instance : IntI Try.prog 66 .u64 := ⟨Try.underlying66⟩
instance : SlcI Try.prog 70 81 := ⟨Try.underlying70⟩
instance : SlcI Try.prog 73 103 := ⟨Try.underlying73⟩
instance : SlcI Try.prog 75 43 := ⟨Try.underlying75⟩
instance : SlcI Try.prog 79 110 := ⟨Try.underlying79⟩
theorem ti81 : (Try.prog.info? 81).map (fun i => (i.size, i.bytes, i.zero)) = some (1, 24, some (zval false [.slice []])) := by kernel_rfl
instance tyI81 : TyI Try.prog 81 false 1 24 [.slice []] where
  desc := ⟨_, Try.underlying81, rfl⟩
  info := by
    obtain ⟨i, h1, h2⟩ := Option.map_eq_some_iff.1 ti81
    simp only [Prod.mk.injEq] at h2
    exact ⟨i, h1, h2.1, h2.2.1, h2.2.2⟩
  zc := rfl
  zl := rfl
  z1 := fun h => by first | rfl | cases h
instance : SlcI Try.prog 81 105 := ⟨Try.underlying81⟩
theorem ti100 : (Try.prog.info? 100).map (fun i => (i.size, i.bytes, i.zero)) = some (2, 16, some (zval true [.int .i64 0, .int .i64 0])) := by kernel_rfl
instance tyI100 : TyI Try.prog 100 true 2 16 [.int .i64 0, .int .i64 0] where
  desc := ⟨_, Try.underlying100, rfl⟩
  info := by
    obtain ⟨i, h1, h2⟩ := Option.map_eq_some_iff.1 ti100
    simp only [Prod.mk.injEq] at h2
    exact ⟨i, h1, h2.1, h2.2.1, h2.2.2⟩
  zc := rfl
  zl := rfl
  z1 := fun h => by first | rfl | cases h
instance : StructI Try.prog 100 [(0, 1), (1, 1)] := ⟨⟨_, Try.underlying100, by kernel_rfl⟩⟩
instance : SlcI Try.prog 101 100 := ⟨Try.underlying101⟩
theorem ti103 : (Try.prog.info? 103).map (fun i => (i.size, i.bytes, i.zero)) = some (1, 24, some (zval false [.slice []])) := by kernel_rfl
instance tyI103 : TyI Try.prog 103 false 1 24 [.slice []] where
  desc := ⟨_, Try.underlying103, rfl⟩
  info := by
    obtain ⟨i, h1, h2⟩ := Option.map_eq_some_iff.1 ti103
    simp only [Prod.mk.injEq] at h2
    exact ⟨i, h1, h2.1, h2.2.1, h2.2.2⟩
  zc := rfl
  zl := rfl
  z1 := fun h => by first | rfl | cases h
instance : SlcI Try.prog 103 5 := ⟨Try.underlying103⟩
theorem ti105 : (Try.prog.info? 105).map (fun i => (i.size, i.bytes, i.zero)) = some (4, 32, some (zval true [.int .i64 0, .int .i64 0, .int .i64 0, .int .i64 0])) := by kernel_rfl
instance tyI105 : TyI Try.prog 105 true 4 32 [.int .i64 0, .int .i64 0, .int .i64 0, .int .i64 0] where
  desc := ⟨_, Try.underlying105, rfl⟩
  info := by
    obtain ⟨i, h1, h2⟩ := Option.map_eq_some_iff.1 ti105
    simp only [Prod.mk.injEq] at h2
    exact ⟨i, h1, h2.1, h2.2.1, h2.2.2⟩
  zc := rfl
  zl := rfl
  z1 := fun h => by first | rfl | cases h
instance : FldI Try.prog 105 0 0 3 := ⟨⟨_, _, Try.underlying105, rfl, rfl, rfl⟩⟩
instance : FldI Try.prog 105 1 1 3 := ⟨⟨_, _, Try.underlying105, rfl, rfl, rfl⟩⟩
instance : FldI Try.prog 105 2 2 3 := ⟨⟨_, _, Try.underlying105, rfl, rfl, rfl⟩⟩
instance : FldI Try.prog 105 3 3 3 := ⟨⟨_, _, Try.underlying105, rfl, rfl, rfl⟩⟩
instance : StructI Try.prog 105 [(0, 1), (1, 1), (2, 1), (3, 1)] := ⟨⟨_, Try.underlying105, by kernel_rfl⟩⟩
theorem ti110 : (Try.prog.info? 110).map (fun i => (i.size, i.bytes, i.zero)) = some (7, 56, some (zval true [.int .i64 0, .int .i64 0, .int .i64 0, .int .u64 0, .int .i64 0, .int .u64 0, .int .i64 0])) := by kernel_rfl
instance tyI110 : TyI Try.prog 110 true 7 56 [.int .i64 0, .int .i64 0, .int .i64 0, .int .u64 0, .int .i64 0, .int .u64 0, .int .i64 0] where
  desc := ⟨_, Try.underlying110, rfl⟩
  info := by
    obtain ⟨i, h1, h2⟩ := Option.map_eq_some_iff.1 ti110
    simp only [Prod.mk.injEq] at h2
    exact ⟨i, h1, h2.1, h2.2.1, h2.2.2⟩
  zc := rfl
  zl := rfl
  z1 := fun h => by first | rfl | cases h
instance : FldI Try.prog 110 0 0 3 := ⟨⟨_, _, Try.underlying110, rfl, rfl, rfl⟩⟩
instance : FldI Try.prog 110 1 1 3 := ⟨⟨_, _, Try.underlying110, rfl, rfl, rfl⟩⟩
instance : FldI Try.prog 110 2 2 3 := ⟨⟨_, _, Try.underlying110, rfl, rfl, rfl⟩⟩
instance : FldI Try.prog 110 3 3 43 := ⟨⟨_, _, Try.underlying110, rfl, rfl, rfl⟩⟩
instance : StructI Try.prog 110 [(0, 1), (1, 1), (2, 1), (3, 4)] := ⟨⟨_, Try.underlying110, by kernel_rfl⟩⟩
theorem ti124 : (Try.prog.info? 124).map (fun i => (i.size, i.bytes, i.zero)) = some (2, 16, some (zval true [.int .i64 0, .int .i64 0])) := by kernel_rfl
instance tyI124 : TyI Try.prog 124 true 2 16 [.int .i64 0, .int .i64 0] where
  desc := ⟨_, Try.underlying124, rfl⟩
  info := by
    obtain ⟨i, h1, h2⟩ := Option.map_eq_some_iff.1 ti124
    simp only [Prod.mk.injEq] at h2
    exact ⟨i, h1, h2.1, h2.2.1, h2.2.2⟩
  zc := rfl
  zl := rfl
  z1 := fun h => by first | rfl | cases h
instance : FldI Try.prog 124 0 0 3 := ⟨⟨_, _, Try.underlying124, rfl, rfl, rfl⟩⟩
instance : FldI Try.prog 124 1 1 3 := ⟨⟨_, _, Try.underlying124, rfl, rfl, rfl⟩⟩
theorem ti146 : (Try.prog.info? 146).map (fun i => (i.size, i.bytes, i.zero)) = some (1, 4, some (zval false [.int .u32 0])) := by kernel_rfl
instance tyI146 : TyI Try.prog 146 false 1 4 [.int .u32 0] where
  desc := ⟨_, Try.underlying146, rfl⟩
  info := by
    obtain ⟨i, h1, h2⟩ := Option.map_eq_some_iff.1 ti146
    simp only [Prod.mk.injEq] at h2
    exact ⟨i, h1, h2.1, h2.2.1, h2.2.2⟩
  zc := rfl
  zl := rfl
  z1 := fun h => by first | rfl | cases h
instance : IntI Try.prog 146 .u32 := ⟨Try.underlying146⟩
theorem ti169 : (Try.prog.info? 169).map (fun i => (i.size, i.bytes, i.zero)) = some (4, 16, some (zval true [.int .u32 0, .int .u32 0, .int .u32 0, .int .u32 0])) := by kernel_rfl
instance tyI169 : TyI Try.prog 169 true 4 16 [.int .u32 0, .int .u32 0, .int .u32 0, .int .u32 0] where
  desc := ⟨_, Try.underlying169, rfl⟩
  info := by
    obtain ⟨i, h1, h2⟩ := Option.map_eq_some_iff.1 ti169
    simp only [Prod.mk.injEq] at h2
    exact ⟨i, h1, h2.1, h2.2.1, h2.2.2⟩
  zc := rfl
  zl := rfl
  z1 := fun h => by first | rfl | cases h
instance : ArrI Try.prog 169 4 146 := ⟨Try.underlying169⟩
theorem ti172 : (Try.prog.info? 172).map (fun i => (i.size, i.bytes, i.zero)) = some (16, 64, some (zval true [.int .u32 0, .int .u32 0, .int .u32 0, .int .u32 0, .int .u32 0, .int .u32 0, .int .u32 0, .int .u32 0, .int .u32 0, .int .u32 0, .int .u32 0, .int .u32 0, .int .u32 0, .int .u32 0, .int .u32 0, .int .u32 0])) := by kernel_rfl
instance tyI172 : TyI Try.prog 172 true 16 64 [.int .u32 0, .int .u32 0, .int .u32 0, .int .u32 0, .int .u32 0, .int .u32 0, .int .u32 0, .int .u32 0, .int .u32 0, .int .u32 0, .int .u32 0, .int .u32 0, .int .u32 0, .int .u32 0, .int .u32 0, .int .u32 0] where
  desc := ⟨_, Try.underlying172, rfl⟩
  info := by
    obtain ⟨i, h1, h2⟩ := Option.map_eq_some_iff.1 ti172
    simp only [Prod.mk.injEq] at h2
    exact ⟨i, h1, h2.1, h2.2.1, h2.2.2⟩
  zc := rfl
  zl := rfl
  z1 := fun h => by first | rfl | cases h
instance : ArrI Try.prog 172 16 146 := ⟨Try.underlying172⟩
theorem ti173 : (Try.prog.info? 173).map (fun i => (i.size, i.bytes, i.zero)) = some (64, 256, some (zval true [.int .u32 0, .int .u32 0, .int .u32 0, .int .u32 0, .int .u32 0, .int .u32 0, .int .u32 0, .int .u32 0, .int .u32 0, .int .u32 0, .int .u32 0, .int .u32 0, .int .u32 0, .int .u32 0, .int .u32 0, .int .u32 0, .int .u32 0, .int .u32 0, .int .u32 0, .int .u32 0, .int .u32 0, .int .u32 0, .int .u32 0, .int .u32 0, .int .u32 0, .int .u32 0, .int .u32 0, .int .u32 0, .int .u32 0, .int .u32 0, .int .u32 0, .int .u32 0, .int .u32 0, .int .u32 0, .int .u32 0, .int .u32 0, .int .u32 0, .int .u32 0, .int .u32 0, .int .u32 0, .int .u32 0, .int .u32 0, .int .u32 0, .int .u32 0, .int .u32 0, .int .u32 0, .int .u32 0, .int .u32 0, .int .u32 0, .int .u32 0, .int .u32 0, .int .u32 0, .int .u32 0, .int .u32 0, .int .u32 0, .int .u32 0, .int .u32 0, .int .u32 0, .int .u32 0, .int .u32 0, .int .u32 0, .int .u32 0, .int .u32 0, .int .u32 0])) := by kernel_rfl
instance tyI173 : TyI Try.prog 173 true 64 256 [.int .u32 0, .int .u32 0, .int .u32 0, .int .u32 0, .int .u32 0, .int .u32 0, .int .u32 0, .int .u32 0, .int .u32 0, .int .u32 0, .int .u32 0, .int .u32 0, .int .u32 0, .int .u32 0, .int .u32 0, .int .u32 0, .int .u32 0, .int .u32 0, .int .u32 0, .int .u32 0, .int .u32 0, .int .u32 0, .int .u32 0, .int .u32 0, .int .u32 0, .int .u32 0, .int .u32 0, .int .u32 0, .int .u32 0, .int .u32 0, .int .u32 0, .int .u32 0, .int .u32 0, .int .u32 0, .int .u32 0, .int .u32 0, .int .u32 0, .int .u32 0, .int .u32 0, .int .u32 0, .int .u32 0, .int .u32 0, .int .u32 0, .int .u32 0, .int .u32 0, .int .u32 0, .int .u32 0, .int .u32 0, .int .u32 0, .int .u32 0, .int .u32 0, .int .u32 0, .int .u32 0, .int .u32 0, .int .u32 0, .int .u32 0, .int .u32 0, .int .u32 0, .int .u32 0, .int .u32 0, .int .u32 0, .int .u32 0, .int .u32 0, .int .u32 0] where
  desc := ⟨_, Try.underlying173, rfl⟩
  info := by
    obtain ⟨i, h1, h2⟩ := Option.map_eq_some_iff.1 ti173
    simp only [Prod.mk.injEq] at h2
    exact ⟨i, h1, h2.1, h2.2.1, h2.2.2⟩
  zc := rfl
  zl := rfl
  z1 := fun h => by first | rfl | cases h
instance : ArrI Try.prog 173 64 146 := ⟨Try.underlying173⟩
theorem ti175 : (Try.prog.info? 175).map (fun i => (i.size, i.bytes, i.zero)) = some (16, 128, some (zval true [.int .i64 0, .int .i64 0, .int .i64 0, .int .i64 0, .int .i64 0, .int .i64 0, .int .i64 0, .int .i64 0, .int .i64 0, .int .i64 0, .int .i64 0, .int .i64 0, .int .i64 0, .int .i64 0, .int .i64 0, .int .i64 0])) := by kernel_rfl
instance tyI175 : TyI Try.prog 175 true 16 128 [.int .i64 0, .int .i64 0, .int .i64 0, .int .i64 0, .int .i64 0, .int .i64 0, .int .i64 0, .int .i64 0, .int .i64 0, .int .i64 0, .int .i64 0, .int .i64 0, .int .i64 0, .int .i64 0, .int .i64 0, .int .i64 0] where
  desc := ⟨_, Try.underlying175, rfl⟩
  info := by
    obtain ⟨i, h1, h2⟩ := Option.map_eq_some_iff.1 ti175
    simp only [Prod.mk.injEq] at h2
    exact ⟨i, h1, h2.1, h2.2.1, h2.2.2⟩
  zc := rfl
  zl := rfl
  z1 := fun h => by first | rfl | cases h
instance : ArrI Try.prog 175 16 3 := ⟨Try.underlying175⟩
instance : EqI Try.prog 100 [1, 1] := ⟨by kernel_rfl, ⟨_, Try.underlying100⟩, by kernel_rfl⟩
end Go.Proofs.Ytfmaehhloffabaa
