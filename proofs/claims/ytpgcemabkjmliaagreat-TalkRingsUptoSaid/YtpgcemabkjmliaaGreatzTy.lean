/- The type facts of this translation, by program (wip/dm/types.py). -/
import Derived.KernelRfl
import Derived.Test.YtpgcemabkjmliaaGreatProg
import Derived.Test.YtpgcemabkjmliaaGreatzbMake
import Derived.Test.YtpgcemabkjmliaaGreatzbPu
namespace Go.Proofs.YtpgcemabkjmliaaGreat
open Go.RowKit
theorem ti3 : (Tryz.prog.info? 3).map (fun i => (i.size, i.bytes, i.zero)) = some (1, 8, some (zval false [.int .i64 0])) := by kernel_rfl
instance tyI3 : TyI Tryz.prog 3 false 1 8 [.int .i64 0] where
  desc := ⟨_, Tryz.underlying3, rfl⟩
  info := by
    obtain ⟨i, h1, h2⟩ := Option.map_eq_some_iff.1 ti3
    simp only [Prod.mk.injEq] at h2
    exact ⟨i, h1, h2.1, h2.2.1, h2.2.2⟩
  zc := rfl
  zl := rfl
  z1 := fun h => by first | rfl | cases h
instance : IntI Tryz.prog 3 .i64 := ⟨Tryz.underlying3⟩
theorem ti4 : (Tryz.prog.info? 4).map (fun i => (i.size, i.bytes, i.zero)) = some (1, 1, some (zval false [.bool false])) := by kernel_rfl
instance tyI4 : TyI Tryz.prog 4 false 1 1 [.bool false] where
  desc := ⟨_, Tryz.underlying4, rfl⟩
  info := by
    obtain ⟨i, h1, h2⟩ := Option.map_eq_some_iff.1 ti4
    simp only [Prod.mk.injEq] at h2
    exact ⟨i, h1, h2.1, h2.2.1, h2.2.2⟩
  zc := rfl
  zl := rfl
  z1 := fun h => by first | rfl | cases h
theorem ti5 : (Tryz.prog.info? 5).map (fun i => (i.size, i.bytes, i.zero)) = some (1, 1, some (zval false [.int .u8 0])) := by kernel_rfl
instance tyI5 : TyI Tryz.prog 5 false 1 1 [.int .u8 0] where
  desc := ⟨_, Tryz.underlying5, rfl⟩
  info := by
    obtain ⟨i, h1, h2⟩ := Option.map_eq_some_iff.1 ti5
    simp only [Prod.mk.injEq] at h2
    exact ⟨i, h1, h2.1, h2.2.1, h2.2.2⟩
  zc := rfl
  zl := rfl
  z1 := fun h => by first | rfl | cases h
instance : IntI Tryz.prog 5 .u8 := ⟨Tryz.underlying5⟩
theorem ti9 : (Tryz.prog.info? 9).map (fun i => (i.size, i.bytes, i.zero)) = some (1, 16, some (zval false [.str []])) := by kernel_rfl
instance tyI9 : TyI Tryz.prog 9 false 1 16 [.str []] where
  desc := ⟨_, Tryz.underlying9, rfl⟩
  info := by
    obtain ⟨i, h1, h2⟩ := Option.map_eq_some_iff.1 ti9
    simp only [Prod.mk.injEq] at h2
    exact ⟨i, h1, h2.1, h2.2.1, h2.2.2⟩
  zc := rfl
  zl := rfl
  z1 := fun h => by first | rfl | cases h
instance : StrI Tryz.prog 9 := ⟨Tryz.underlying9⟩
theorem ti22 : (Tryz.prog.info? 22).map (fun i => (i.size, i.bytes, i.zero)) = some (1, 24, some (zval false [.slice []])) := by kernel_rfl
instance tyI22 : TyI Tryz.prog 22 false 1 24 [.slice []] where
  desc := ⟨_, Tryz.underlying22, rfl⟩
  info := by
    obtain ⟨i, h1, h2⟩ := Option.map_eq_some_iff.1 ti22
    simp only [Prod.mk.injEq] at h2
    exact ⟨i, h1, h2.1, h2.2.1, h2.2.2⟩
  zc := rfl
  zl := rfl
  z1 := fun h => by first | rfl | cases h
instance : SlcI Tryz.prog 22 59 := ⟨Tryz.underlying22⟩
theorem ti23 : (Tryz.prog.info? 23).map (fun i => (i.size, i.bytes, i.zero)) = some (1, 24, some (zval false [.slice []])) := by kernel_rfl
instance tyI23 : TyI Tryz.prog 23 false 1 24 [.slice []] where
  desc := ⟨_, Tryz.underlying23, rfl⟩
  info := by
    obtain ⟨i, h1, h2⟩ := Option.map_eq_some_iff.1 ti23
    simp only [Prod.mk.injEq] at h2
    exact ⟨i, h1, h2.1, h2.2.1, h2.2.2⟩
  zc := rfl
  zl := rfl
  z1 := fun h => by first | rfl | cases h
instance : SlcI Tryz.prog 23 72 := ⟨Tryz.underlying23⟩
theorem ti25 : (Tryz.prog.info? 25).map (fun i => (i.size, i.bytes, i.zero)) = some (2, 48, some (zval true [.slice [], .slice []])) := by kernel_rfl
instance tyI25 : TyI Tryz.prog 25 true 2 48 [.slice [], .slice []] where
  desc := ⟨_, Tryz.underlying25, rfl⟩
  info := by
    obtain ⟨i, h1, h2⟩ := Option.map_eq_some_iff.1 ti25
    simp only [Prod.mk.injEq] at h2
    exact ⟨i, h1, h2.1, h2.2.1, h2.2.2⟩
  zc := rfl
  zl := rfl
  z1 := fun h => by first | rfl | cases h
instance : FldI Tryz.prog 25 0 0 22 := ⟨⟨_, _, Tryz.underlying25, rfl, rfl, rfl⟩⟩
instance : FldI Tryz.prog 25 1 1 23 := ⟨⟨_, _, Tryz.underlying25, rfl, rfl, rfl⟩⟩
instance : StructI Tryz.prog 25 [(0, 1), (1, 1)] := ⟨⟨_, Tryz.underlying25, by kernel_rfl⟩⟩
instance : SlcI Tryz.prog 26 44 := ⟨Tryz.underlying26⟩
theorem ti27 : (Tryz.prog.info? 27).map (fun i => (i.size, i.bytes, i.zero)) = some (1, 24, some (zval false [.slice []])) := by kernel_rfl
instance tyI27 : TyI Tryz.prog 27 false 1 24 [.slice []] where
  desc := ⟨_, Tryz.underlying27, rfl⟩
  info := by
    obtain ⟨i, h1, h2⟩ := Option.map_eq_some_iff.1 ti27
    simp only [Prod.mk.injEq] at h2
    exact ⟨i, h1, h2.1, h2.2.1, h2.2.2⟩
  zc := rfl
  zl := rfl
  z1 := fun h => by first | rfl | cases h
instance : SlcI Tryz.prog 27 52 := ⟨Tryz.underlying27⟩
theorem ti29 : (Tryz.prog.info? 29).map (fun i => (i.size, i.bytes, i.zero)) = some (1, 24, some (zval true [.slice []])) := by kernel_rfl
instance tyI29 : TyI Tryz.prog 29 true 1 24 [.slice []] where
  desc := ⟨_, Tryz.underlying29, rfl⟩
  info := by
    obtain ⟨i, h1, h2⟩ := Option.map_eq_some_iff.1 ti29
    simp only [Prod.mk.injEq] at h2
    exact ⟨i, h1, h2.1, h2.2.1, h2.2.2⟩
  zc := rfl
  zl := rfl
  z1 := fun h => by first | rfl | cases h
instance : FldI Tryz.prog 29 0 0 27 := ⟨⟨_, _, Tryz.underlying29, rfl, rfl, rfl⟩⟩
instance : StructI Tryz.prog 29 [(0, 1)] := ⟨⟨_, Tryz.underlying29, by kernel_rfl⟩⟩
theorem ti30 : (Tryz.prog.info? 30).map (fun i => (i.size, i.bytes, i.zero)) = some (1, 8, some (zval false [.int .i64 0])) := by kernel_rfl
instance tyI30 : TyI Tryz.prog 30 false 1 8 [.int .i64 0] where
  desc := ⟨_, Tryz.underlying30, rfl⟩
  info := by
    obtain ⟨i, h1, h2⟩ := Option.map_eq_some_iff.1 ti30
    simp only [Prod.mk.injEq] at h2
    exact ⟨i, h1, h2.1, h2.2.1, h2.2.2⟩
  zc := rfl
  zl := rfl
  z1 := fun h => by first | rfl | cases h
theorem ti32 : (Tryz.prog.info? 32).map (fun i => (i.size, i.bytes, i.zero)) = some (2, 16, some (zval true [.int .i64 0, .int .i64 0])) := by kernel_rfl
instance tyI32 : TyI Tryz.prog 32 true 2 16 [.int .i64 0, .int .i64 0] where
  desc := ⟨_, Tryz.underlying32, rfl⟩
  info := by
    obtain ⟨i, h1, h2⟩ := Option.map_eq_some_iff.1 ti32
    simp only [Prod.mk.injEq] at h2
    exact ⟨i, h1, h2.1, h2.2.1, h2.2.2⟩
  zc := rfl
  zl := rfl
  z1 := fun h => by first | rfl | cases h
instance : FldI Tryz.prog 32 0 0 30 := ⟨⟨_, _, Tryz.underlying32, rfl, rfl, rfl⟩⟩
instance : StructI Tryz.prog 32 [(0, 1), (1, 1)] := ⟨⟨_, Tryz.underlying32, by kernel_rfl⟩⟩
theorem ti44 : (Tryz.prog.info? 44).map (fun i => (i.size, i.bytes, i.zero)) = some (4, 32, some (zval true [.int .i64 0, .int .i64 0, .int .i64 0, .int .i64 0])) := by kernel_rfl
instance tyI44 : TyI Tryz.prog 44 true 4 32 [.int .i64 0, .int .i64 0, .int .i64 0, .int .i64 0] where
  desc := ⟨_, Tryz.underlying44, rfl⟩
  info := by
    obtain ⟨i, h1, h2⟩ := Option.map_eq_some_iff.1 ti44
    simp only [Prod.mk.injEq] at h2
    exact ⟨i, h1, h2.1, h2.2.1, h2.2.2⟩
  zc := rfl
  zl := rfl
  z1 := fun h => by first | rfl | cases h
instance : FldI Tryz.prog 44 0 0 3 := ⟨⟨_, _, Tryz.underlying44, rfl, rfl, rfl⟩⟩
instance : FldI Tryz.prog 44 1 1 3 := ⟨⟨_, _, Tryz.underlying44, rfl, rfl, rfl⟩⟩
instance : FldI Tryz.prog 44 2 2 3 := ⟨⟨_, _, Tryz.underlying44, rfl, rfl, rfl⟩⟩
instance : FldI Tryz.prog 44 3 3 3 := ⟨⟨_, _, Tryz.underlying44, rfl, rfl, rfl⟩⟩
instance : StructI Tryz.prog 44 [(0, 1), (1, 1), (2, 1), (3, 1)] := ⟨⟨_, Tryz.underlying44, by kernel_rfl⟩⟩
instance : SlcI Tryz.prog 48 91 := ⟨Tryz.underlying48⟩
theorem ti52 : (Tryz.prog.info? 52).map (fun i => (i.size, i.bytes, i.zero)) = some (1, 24, some (zval false [.slice []])) := by kernel_rfl
instance tyI52 : TyI Tryz.prog 52 false 1 24 [.slice []] where
  desc := ⟨_, Tryz.underlying52, rfl⟩
  info := by
    obtain ⟨i, h1, h2⟩ := Option.map_eq_some_iff.1 ti52
    simp only [Prod.mk.injEq] at h2
    exact ⟨i, h1, h2.1, h2.2.1, h2.2.2⟩
  zc := rfl
  zl := rfl
  z1 := fun h => by first | rfl | cases h
instance : SlcI Tryz.prog 52 66 := ⟨Tryz.underlying52⟩
theorem ti53 : (Tryz.prog.info? 53).map (fun i => (i.size, i.bytes, i.zero)) = some (1, 8, some (zval false [.int .u64 0])) := by kernel_rfl
instance tyI53 : TyI Tryz.prog 53 false 1 8 [.int .u64 0] where
  desc := ⟨_, Tryz.underlying53, rfl⟩
  info := by
    obtain ⟨i, h1, h2⟩ := Option.map_eq_some_iff.1 ti53
    simp only [Prod.mk.injEq] at h2
    exact ⟨i, h1, h2.1, h2.2.1, h2.2.2⟩
  zc := rfl
  zl := rfl
  z1 := fun h => by first | rfl | cases h
instance : IntI Tryz.prog 53 .u64 := ⟨Tryz.underlying53⟩
theorem ti54 : (Tryz.prog.info? 54).map (fun i => (i.size, i.bytes, i.zero)) = some (1, 24, some (zval false [.slice []])) := by kernel_rfl
instance tyI54 : TyI Tryz.prog 54 false 1 24 [.slice []] where
  desc := ⟨_, Tryz.underlying54, rfl⟩
  info := by
    obtain ⟨i, h1, h2⟩ := Option.map_eq_some_iff.1 ti54
    simp only [Prod.mk.injEq] at h2
    exact ⟨i, h1, h2.1, h2.2.1, h2.2.2⟩
  zc := rfl
  zl := rfl
  z1 := fun h => by first | rfl | cases h
instance : SlcI Tryz.prog 54 3 := ⟨Tryz.underlying54⟩
theorem ti55 : (Tryz.prog.info? 55).map (fun i => (i.size, i.bytes, i.zero)) = some (1, 24, some (zval false [.slice []])) := by kernel_rfl
instance tyI55 : TyI Tryz.prog 55 false 1 24 [.slice []] where
  desc := ⟨_, Tryz.underlying55, rfl⟩
  info := by
    obtain ⟨i, h1, h2⟩ := Option.map_eq_some_iff.1 ti55
    simp only [Prod.mk.injEq] at h2
    exact ⟨i, h1, h2.1, h2.2.1, h2.2.2⟩
  zc := rfl
  zl := rfl
  z1 := fun h => by first | rfl | cases h
instance : SlcI Tryz.prog 55 70 := ⟨Tryz.underlying55⟩
theorem ti57 : (Tryz.prog.info? 57).map (fun i => (i.size, i.bytes, i.zero)) = some (3, 48, some (zval true [.str [], .int .i64 0, .slice []])) := by kernel_rfl
instance tyI57 : TyI Tryz.prog 57 true 3 48 [.str [], .int .i64 0, .slice []] where
  desc := ⟨_, Tryz.underlying57, rfl⟩
  info := by
    obtain ⟨i, h1, h2⟩ := Option.map_eq_some_iff.1 ti57
    simp only [Prod.mk.injEq] at h2
    exact ⟨i, h1, h2.1, h2.2.1, h2.2.2⟩
  zc := rfl
  zl := rfl
  z1 := fun h => by first | rfl | cases h
instance : FldI Tryz.prog 57 0 0 9 := ⟨⟨_, _, Tryz.underlying57, rfl, rfl, rfl⟩⟩
instance : FldI Tryz.prog 57 1 1 3 := ⟨⟨_, _, Tryz.underlying57, rfl, rfl, rfl⟩⟩
instance : FldI Tryz.prog 57 2 2 55 := ⟨⟨_, _, Tryz.underlying57, rfl, rfl, rfl⟩⟩
instance : StructI Tryz.prog 57 [(0, 1), (1, 1), (2, 1)] := ⟨⟨_, Tryz.underlying57, by kernel_rfl⟩⟩
theorem ti59 : (Tryz.prog.info? 59).map (fun i => (i.size, i.bytes, i.zero)) = some (5, 80, some (zval true [.int .u64 0, .slice [], .str [], .int .i64 0, .slice []])) := by kernel_rfl
instance tyI59 : TyI Tryz.prog 59 true 5 80 [.int .u64 0, .slice [], .str [], .int .i64 0, .slice []] where
  desc := ⟨_, Tryz.underlying59, rfl⟩
  info := by
    obtain ⟨i, h1, h2⟩ := Option.map_eq_some_iff.1 ti59
    simp only [Prod.mk.injEq] at h2
    exact ⟨i, h1, h2.1, h2.2.1, h2.2.2⟩
  zc := rfl
  zl := rfl
  z1 := fun h => by first | rfl | cases h
instance : FldI Tryz.prog 59 0 0 53 := ⟨⟨_, _, Tryz.underlying59, rfl, rfl, rfl⟩⟩
instance : FldI Tryz.prog 59 1 1 54 := ⟨⟨_, _, Tryz.underlying59, rfl, rfl, rfl⟩⟩
instance : FldI Tryz.prog 59 2 2 57 := ⟨⟨_, _, Tryz.underlying59, rfl, rfl, rfl⟩⟩
instance : StructI Tryz.prog 59 [(0, 1), (1, 1), (2, 3)] := ⟨⟨_, Tryz.underlying59, by kernel_rfl⟩⟩
theorem ti64 : (Tryz.prog.info? 64).map (fun i => (i.size, i.bytes, i.zero)) = some (4, 32, some (zval true [.int .u64 0, .int .i64 0, .int .u64 0, .int .i64 0])) := by kernel_rfl
instance tyI64 : TyI Tryz.prog 64 true 4 32 [.int .u64 0, .int .i64 0, .int .u64 0, .int .i64 0] where
  desc := ⟨_, Tryz.underlying64, rfl⟩
  info := by
    obtain ⟨i, h1, h2⟩ := Option.map_eq_some_iff.1 ti64
    simp only [Prod.mk.injEq] at h2
    exact ⟨i, h1, h2.1, h2.2.1, h2.2.2⟩
  zc := rfl
  zl := rfl
  z1 := fun h => by first | rfl | cases h
instance : FldI Tryz.prog 64 0 0 53 := ⟨⟨_, _, Tryz.underlying64, rfl, rfl, rfl⟩⟩
instance : FldI Tryz.prog 64 1 1 3 := ⟨⟨_, _, Tryz.underlying64, rfl, rfl, rfl⟩⟩
instance : FldI Tryz.prog 64 2 2 53 := ⟨⟨_, _, Tryz.underlying64, rfl, rfl, rfl⟩⟩
instance : FldI Tryz.prog 64 3 3 3 := ⟨⟨_, _, Tryz.underlying64, rfl, rfl, rfl⟩⟩
instance : StructI Tryz.prog 64 [(0, 1), (1, 1), (2, 1), (3, 1)] := ⟨⟨_, Tryz.underlying64, by kernel_rfl⟩⟩
theorem ti66 : (Tryz.prog.info? 66).map (fun i => (i.size, i.bytes, i.zero)) = some (9, 120, some (zval true [.int .u64 0, .int .i64 0, .int .u64 0, .int .i64 0, .int .i64 0, .int .i64 0, .slice [], .slice [], .slice []])) := by kernel_rfl
instance tyI66 : TyI Tryz.prog 66 true 9 120 [.int .u64 0, .int .i64 0, .int .u64 0, .int .i64 0, .int .i64 0, .int .i64 0, .slice [], .slice [], .slice []] where
  desc := ⟨_, Tryz.underlying66, rfl⟩
  info := by
    obtain ⟨i, h1, h2⟩ := Option.map_eq_some_iff.1 ti66
    simp only [Prod.mk.injEq] at h2
    exact ⟨i, h1, h2.1, h2.2.1, h2.2.2⟩
  zc := rfl
  zl := rfl
  z1 := fun h => by first | rfl | cases h
instance : FldI Tryz.prog 66 0 0 64 := ⟨⟨_, _, Tryz.underlying66, rfl, rfl, rfl⟩⟩
instance : FldI Tryz.prog 66 1 4 3 := ⟨⟨_, _, Tryz.underlying66, rfl, rfl, rfl⟩⟩
instance : FldI Tryz.prog 66 2 5 3 := ⟨⟨_, _, Tryz.underlying66, rfl, rfl, rfl⟩⟩
instance : FldI Tryz.prog 66 3 6 54 := ⟨⟨_, _, Tryz.underlying66, rfl, rfl, rfl⟩⟩
instance : FldI Tryz.prog 66 4 7 54 := ⟨⟨_, _, Tryz.underlying66, rfl, rfl, rfl⟩⟩
instance : FldI Tryz.prog 66 5 8 54 := ⟨⟨_, _, Tryz.underlying66, rfl, rfl, rfl⟩⟩
instance : StructI Tryz.prog 66 [(0, 4), (4, 1), (5, 1), (6, 1), (7, 1), (8, 1)] := ⟨⟨_, Tryz.underlying66, by kernel_rfl⟩⟩
theorem ti70 : (Tryz.prog.info? 70).map (fun i => (i.size, i.bytes, i.zero)) = some (2, 16, some (zval true [.int .i64 0, .int .i64 0])) := by kernel_rfl
instance tyI70 : TyI Tryz.prog 70 true 2 16 [.int .i64 0, .int .i64 0] where
  desc := ⟨_, Tryz.underlying70, rfl⟩
  info := by
    obtain ⟨i, h1, h2⟩ := Option.map_eq_some_iff.1 ti70
    simp only [Prod.mk.injEq] at h2
    exact ⟨i, h1, h2.1, h2.2.1, h2.2.2⟩
  zc := rfl
  zl := rfl
  z1 := fun h => by first | rfl | cases h
instance : FldI Tryz.prog 70 0 0 3 := ⟨⟨_, _, Tryz.underlying70, rfl, rfl, rfl⟩⟩
instance : FldI Tryz.prog 70 1 1 3 := ⟨⟨_, _, Tryz.underlying70, rfl, rfl, rfl⟩⟩
theorem ti72 : (Tryz.prog.info? 72).map (fun i => (i.size, i.bytes, i.zero)) = some (6, 48, some (zval true [.int .i64 0, .int .i64 0, .int .i64 0, .int .i64 0, .int .i64 0, .bool false])) := by kernel_rfl
instance tyI72 : TyI Tryz.prog 72 true 6 48 [.int .i64 0, .int .i64 0, .int .i64 0, .int .i64 0, .int .i64 0, .bool false] where
  desc := ⟨_, Tryz.underlying72, rfl⟩
  info := by
    obtain ⟨i, h1, h2⟩ := Option.map_eq_some_iff.1 ti72
    simp only [Prod.mk.injEq] at h2
    exact ⟨i, h1, h2.1, h2.2.1, h2.2.2⟩
  zc := rfl
  zl := rfl
  z1 := fun h => by first | rfl | cases h
instance : FldI Tryz.prog 72 0 0 3 := ⟨⟨_, _, Tryz.underlying72, rfl, rfl, rfl⟩⟩
instance : FldI Tryz.prog 72 1 1 3 := ⟨⟨_, _, Tryz.underlying72, rfl, rfl, rfl⟩⟩
instance : FldI Tryz.prog 72 2 2 3 := ⟨⟨_, _, Tryz.underlying72, rfl, rfl, rfl⟩⟩
instance : FldI Tryz.prog 72 3 3 3 := ⟨⟨_, _, Tryz.underlying72, rfl, rfl, rfl⟩⟩
instance : FldI Tryz.prog 72 4 4 3 := ⟨⟨_, _, Tryz.underlying72, rfl, rfl, rfl⟩⟩
instance : FldI Tryz.prog 72 5 5 4 := ⟨⟨_, _, Tryz.underlying72, rfl, rfl, rfl⟩⟩
instance : StructI Tryz.prog 72 [(0, 1), (1, 1), (2, 1), (3, 1), (4, 1), (5, 1)] := ⟨⟨_, Tryz.underlying72, by kernel_rfl⟩⟩
instance : SlcI Tryz.prog 78 110 := ⟨Tryz.underlying78⟩
instance : SlcI Tryz.prog 82 114 := ⟨Tryz.underlying82⟩
theorem ti91 : (Tryz.prog.info? 91).map (fun i => (i.size, i.bytes, i.zero)) = some (2, 16, some (zval true [.int .i64 0, .int .i64 0])) := by kernel_rfl
instance tyI91 : TyI Tryz.prog 91 true 2 16 [.int .i64 0, .int .i64 0] where
  desc := ⟨_, Tryz.underlying91, rfl⟩
  info := by
    obtain ⟨i, h1, h2⟩ := Option.map_eq_some_iff.1 ti91
    simp only [Prod.mk.injEq] at h2
    exact ⟨i, h1, h2.1, h2.2.1, h2.2.2⟩
  zc := rfl
  zl := rfl
  z1 := fun h => by first | rfl | cases h
instance : ArrI Tryz.prog 91 2 3 := ⟨Tryz.underlying91⟩
theorem ti100 : (Tryz.prog.info? 100).map (fun i => (i.size, i.bytes, i.zero)) = some (2, 16, some (zval true [.int .i64 0, .int .i64 0])) := by kernel_rfl
instance tyI100 : TyI Tryz.prog 100 true 2 16 [.int .i64 0, .int .i64 0] where
  desc := ⟨_, Tryz.underlying100, rfl⟩
  info := by
    obtain ⟨i, h1, h2⟩ := Option.map_eq_some_iff.1 ti100
    simp only [Prod.mk.injEq] at h2
    exact ⟨i, h1, h2.1, h2.2.1, h2.2.2⟩
  zc := rfl
  zl := rfl
  z1 := fun h => by first | rfl | cases h
instance : StructI Tryz.prog 100 [(0, 1), (1, 1)] := ⟨⟨_, Tryz.underlying100, by kernel_rfl⟩⟩
instance : SlcI Tryz.prog 101 100 := ⟨Tryz.underlying101⟩
instance : IntI Tryz.prog 102 .u64 := ⟨Tryz.underlying102⟩
theorem ti110 : (Tryz.prog.info? 110).map (fun i => (i.size, i.bytes, i.zero)) = some (1, 24, some (zval false [.slice []])) := by kernel_rfl
instance tyI110 : TyI Tryz.prog 110 false 1 24 [.slice []] where
  desc := ⟨_, Tryz.underlying110, rfl⟩
  info := by
    obtain ⟨i, h1, h2⟩ := Option.map_eq_some_iff.1 ti110
    simp only [Prod.mk.injEq] at h2
    exact ⟨i, h1, h2.1, h2.2.1, h2.2.2⟩
  zc := rfl
  zl := rfl
  z1 := fun h => by first | rfl | cases h
instance : SlcI Tryz.prog 110 5 := ⟨Tryz.underlying110⟩
theorem ti114 : (Tryz.prog.info? 114).map (fun i => (i.size, i.bytes, i.zero)) = some (1, 24, some (zval false [.slice []])) := by kernel_rfl
instance tyI114 : TyI Tryz.prog 114 false 1 24 [.slice []] where
  desc := ⟨_, Tryz.underlying114, rfl⟩
  info := by
    obtain ⟨i, h1, h2⟩ := Option.map_eq_some_iff.1 ti114
    simp only [Prod.mk.injEq] at h2
    exact ⟨i, h1, h2.1, h2.2.1, h2.2.2⟩
  zc := rfl
  zl := rfl
  z1 := fun h => by first | rfl | cases h
instance : SlcI Tryz.prog 114 116 := ⟨Tryz.underlying114⟩
theorem ti116 : (Tryz.prog.info? 116).map (fun i => (i.size, i.bytes, i.zero)) = some (4, 32, some (zval true [.int .i64 0, .int .i64 0, .int .i64 0, .int .i64 0])) := by kernel_rfl
instance tyI116 : TyI Tryz.prog 116 true 4 32 [.int .i64 0, .int .i64 0, .int .i64 0, .int .i64 0] where
  desc := ⟨_, Tryz.underlying116, rfl⟩
  info := by
    obtain ⟨i, h1, h2⟩ := Option.map_eq_some_iff.1 ti116
    simp only [Prod.mk.injEq] at h2
    exact ⟨i, h1, h2.1, h2.2.1, h2.2.2⟩
  zc := rfl
  zl := rfl
  z1 := fun h => by first | rfl | cases h
instance : FldI Tryz.prog 116 0 0 3 := ⟨⟨_, _, Tryz.underlying116, rfl, rfl, rfl⟩⟩
instance : FldI Tryz.prog 116 1 1 3 := ⟨⟨_, _, Tryz.underlying116, rfl, rfl, rfl⟩⟩
instance : FldI Tryz.prog 116 2 2 3 := ⟨⟨_, _, Tryz.underlying116, rfl, rfl, rfl⟩⟩
instance : FldI Tryz.prog 116 3 3 3 := ⟨⟨_, _, Tryz.underlying116, rfl, rfl, rfl⟩⟩
instance : StructI Tryz.prog 116 [(0, 1), (1, 1), (2, 1), (3, 1)] := ⟨⟨_, Tryz.underlying116, by kernel_rfl⟩⟩
instance : SlcI Tryz.prog 121 134 := ⟨Tryz.underlying121⟩
theorem ti134 : (Tryz.prog.info? 134).map (fun i => (i.size, i.bytes, i.zero)) = some (7, 56, some (zval true [.int .i64 0, .int .i64 0, .int .i64 0, .int .u64 0, .int .i64 0, .int .u64 0, .int .i64 0])) := by kernel_rfl
instance tyI134 : TyI Tryz.prog 134 true 7 56 [.int .i64 0, .int .i64 0, .int .i64 0, .int .u64 0, .int .i64 0, .int .u64 0, .int .i64 0] where
  desc := ⟨_, Tryz.underlying134, rfl⟩
  info := by
    obtain ⟨i, h1, h2⟩ := Option.map_eq_some_iff.1 ti134
    simp only [Prod.mk.injEq] at h2
    exact ⟨i, h1, h2.1, h2.2.1, h2.2.2⟩
  zc := rfl
  zl := rfl
  z1 := fun h => by first | rfl | cases h
instance : FldI Tryz.prog 134 0 0 3 := ⟨⟨_, _, Tryz.underlying134, rfl, rfl, rfl⟩⟩
instance : FldI Tryz.prog 134 1 1 3 := ⟨⟨_, _, Tryz.underlying134, rfl, rfl, rfl⟩⟩
instance : FldI Tryz.prog 134 2 2 3 := ⟨⟨_, _, Tryz.underlying134, rfl, rfl, rfl⟩⟩
instance : FldI Tryz.prog 134 3 3 64 := ⟨⟨_, _, Tryz.underlying134, rfl, rfl, rfl⟩⟩
instance : StructI Tryz.prog 134 [(0, 1), (1, 1), (2, 1), (3, 4)] := ⟨⟨_, Tryz.underlying134, by kernel_rfl⟩⟩
theorem ti150 : (Tryz.prog.info? 150).map (fun i => (i.size, i.bytes, i.zero)) = some (1, 4, some (zval false [.int .u32 0])) := by kernel_rfl
instance tyI150 : TyI Tryz.prog 150 false 1 4 [.int .u32 0] where
  desc := ⟨_, Tryz.underlying150, rfl⟩
  info := by
    obtain ⟨i, h1, h2⟩ := Option.map_eq_some_iff.1 ti150
    simp only [Prod.mk.injEq] at h2
    exact ⟨i, h1, h2.1, h2.2.1, h2.2.2⟩
  zc := rfl
  zl := rfl
  z1 := fun h => by first | rfl | cases h
instance : IntI Tryz.prog 150 .u32 := ⟨Tryz.underlying150⟩
theorem ti180 : (Tryz.prog.info? 180).map (fun i => (i.size, i.bytes, i.zero)) = some (4, 16, some (zval true [.int .u32 0, .int .u32 0, .int .u32 0, .int .u32 0])) := by kernel_rfl
instance tyI180 : TyI Tryz.prog 180 true 4 16 [.int .u32 0, .int .u32 0, .int .u32 0, .int .u32 0] where
  desc := ⟨_, Tryz.underlying180, rfl⟩
  info := by
    obtain ⟨i, h1, h2⟩ := Option.map_eq_some_iff.1 ti180
    simp only [Prod.mk.injEq] at h2
    exact ⟨i, h1, h2.1, h2.2.1, h2.2.2⟩
  zc := rfl
  zl := rfl
  z1 := fun h => by first | rfl | cases h
instance : ArrI Tryz.prog 180 4 150 := ⟨Tryz.underlying180⟩
instance : SlcI Tryz.prog 184 150 := ⟨Tryz.underlying184⟩
theorem ti189 : (Tryz.prog.info? 189).map (fun i => (i.size, i.bytes, i.zero)) = some (16, 64, some (zval true [.int .u32 0, .int .u32 0, .int .u32 0, .int .u32 0, .int .u32 0, .int .u32 0, .int .u32 0, .int .u32 0, .int .u32 0, .int .u32 0, .int .u32 0, .int .u32 0, .int .u32 0, .int .u32 0, .int .u32 0, .int .u32 0])) := by kernel_rfl
instance tyI189 : TyI Tryz.prog 189 true 16 64 [.int .u32 0, .int .u32 0, .int .u32 0, .int .u32 0, .int .u32 0, .int .u32 0, .int .u32 0, .int .u32 0, .int .u32 0, .int .u32 0, .int .u32 0, .int .u32 0, .int .u32 0, .int .u32 0, .int .u32 0, .int .u32 0] where
  desc := ⟨_, Tryz.underlying189, rfl⟩
  info := by
    obtain ⟨i, h1, h2⟩ := Option.map_eq_some_iff.1 ti189
    simp only [Prod.mk.injEq] at h2
    exact ⟨i, h1, h2.1, h2.2.1, h2.2.2⟩
  zc := rfl
  zl := rfl
  z1 := fun h => by first | rfl | cases h
instance : ArrI Tryz.prog 189 16 150 := ⟨Tryz.underlying189⟩
theorem ti190 : (Tryz.prog.info? 190).map (fun i => (i.size, i.bytes, i.zero)) = some (64, 256, some (zval true [.int .u32 0, .int .u32 0, .int .u32 0, .int .u32 0, .int .u32 0, .int .u32 0, .int .u32 0, .int .u32 0, .int .u32 0, .int .u32 0, .int .u32 0, .int .u32 0, .int .u32 0, .int .u32 0, .int .u32 0, .int .u32 0, .int .u32 0, .int .u32 0, .int .u32 0, .int .u32 0, .int .u32 0, .int .u32 0, .int .u32 0, .int .u32 0, .int .u32 0, .int .u32 0, .int .u32 0, .int .u32 0, .int .u32 0, .int .u32 0, .int .u32 0, .int .u32 0, .int .u32 0, .int .u32 0, .int .u32 0, .int .u32 0, .int .u32 0, .int .u32 0, .int .u32 0, .int .u32 0, .int .u32 0, .int .u32 0, .int .u32 0, .int .u32 0, .int .u32 0, .int .u32 0, .int .u32 0, .int .u32 0, .int .u32 0, .int .u32 0, .int .u32 0, .int .u32 0, .int .u32 0, .int .u32 0, .int .u32 0, .int .u32 0, .int .u32 0, .int .u32 0, .int .u32 0, .int .u32 0, .int .u32 0, .int .u32 0, .int .u32 0, .int .u32 0])) := by kernel_rfl
instance tyI190 : TyI Tryz.prog 190 true 64 256 [.int .u32 0, .int .u32 0, .int .u32 0, .int .u32 0, .int .u32 0, .int .u32 0, .int .u32 0, .int .u32 0, .int .u32 0, .int .u32 0, .int .u32 0, .int .u32 0, .int .u32 0, .int .u32 0, .int .u32 0, .int .u32 0, .int .u32 0, .int .u32 0, .int .u32 0, .int .u32 0, .int .u32 0, .int .u32 0, .int .u32 0, .int .u32 0, .int .u32 0, .int .u32 0, .int .u32 0, .int .u32 0, .int .u32 0, .int .u32 0, .int .u32 0, .int .u32 0, .int .u32 0, .int .u32 0, .int .u32 0, .int .u32 0, .int .u32 0, .int .u32 0, .int .u32 0, .int .u32 0, .int .u32 0, .int .u32 0, .int .u32 0, .int .u32 0, .int .u32 0, .int .u32 0, .int .u32 0, .int .u32 0, .int .u32 0, .int .u32 0, .int .u32 0, .int .u32 0, .int .u32 0, .int .u32 0, .int .u32 0, .int .u32 0, .int .u32 0, .int .u32 0, .int .u32 0, .int .u32 0, .int .u32 0, .int .u32 0, .int .u32 0, .int .u32 0] where
  desc := ⟨_, Tryz.underlying190, rfl⟩
  info := by
    obtain ⟨i, h1, h2⟩ := Option.map_eq_some_iff.1 ti190
    simp only [Prod.mk.injEq] at h2
    exact ⟨i, h1, h2.1, h2.2.1, h2.2.2⟩
  zc := rfl
  zl := rfl
  z1 := fun h => by first | rfl | cases h
instance : ArrI Tryz.prog 190 64 150 := ⟨Tryz.underlying190⟩
theorem ti192 : (Tryz.prog.info? 192).map (fun i => (i.size, i.bytes, i.zero)) = some (16, 128, some (zval true [.int .i64 0, .int .i64 0, .int .i64 0, .int .i64 0, .int .i64 0, .int .i64 0, .int .i64 0, .int .i64 0, .int .i64 0, .int .i64 0, .int .i64 0, .int .i64 0, .int .i64 0, .int .i64 0, .int .i64 0, .int .i64 0])) := by kernel_rfl
instance tyI192 : TyI Tryz.prog 192 true 16 128 [.int .i64 0, .int .i64 0, .int .i64 0, .int .i64 0, .int .i64 0, .int .i64 0, .int .i64 0, .int .i64 0, .int .i64 0, .int .i64 0, .int .i64 0, .int .i64 0, .int .i64 0, .int .i64 0, .int .i64 0, .int .i64 0] where
  desc := ⟨_, Tryz.underlying192, rfl⟩
  info := by
    obtain ⟨i, h1, h2⟩ := Option.map_eq_some_iff.1 ti192
    simp only [Prod.mk.injEq] at h2
    exact ⟨i, h1, h2.1, h2.2.1, h2.2.2⟩
  zc := rfl
  zl := rfl
  z1 := fun h => by first | rfl | cases h
instance : ArrI Tryz.prog 192 16 3 := ⟨Tryz.underlying192⟩
instance : EqI Tryz.prog 100 [1, 1] := ⟨by kernel_rfl, ⟨_, Tryz.underlying100⟩, by kernel_rfl⟩
end Go.Proofs.YtpgcemabkjmliaaGreat
