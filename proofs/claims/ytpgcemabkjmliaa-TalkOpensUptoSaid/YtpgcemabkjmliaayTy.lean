/- The type facts of this translation, by program (wip/dm/types.py). -/
import Derived.KernelRfl
import Derived.Test.YtpgcemabkjmliaaProg
import Derived.Test.YtpgcemabkjmliaaybMake
import Derived.Test.YtpgcemabkjmliaaybPu
namespace Go.Proofs.Ytpgcemabkjmliaa
open Go.RowKit
theorem ti3 : (Try.prog.info? 3).map (fun i => (i.size, i.bytes, i.zero)) = some (1, 8, some (zval false [.int .i64 0])) := by kernel_rfl
instance tyI3 : TyI Try.prog 3 false 1 8 [.int .i64 0] where
  desc := ⟨_, Try.underlying3, rfl⟩
  info := by
    obtain ⟨i, h1, h2⟩ := Option.map_eq_some_iff.1 ti3
    simp only [Prod.mk.injEq] at h2
    exact ⟨i, h1, h2.1, h2.2.1, h2.2.2⟩
  zc := rfl
  zl := rfl
  z1 := fun h => by first | rfl | cases h
instance : IntI Try.prog 3 .i64 := ⟨Try.underlying3⟩
theorem ti4 : (Try.prog.info? 4).map (fun i => (i.size, i.bytes, i.zero)) = some (1, 1, some (zval false [.bool false])) := by kernel_rfl
instance tyI4 : TyI Try.prog 4 false 1 1 [.bool false] where
  desc := ⟨_, Try.underlying4, rfl⟩
  info := by
    obtain ⟨i, h1, h2⟩ := Option.map_eq_some_iff.1 ti4
    simp only [Prod.mk.injEq] at h2
    exact ⟨i, h1, h2.1, h2.2.1, h2.2.2⟩
  zc := rfl
  zl := rfl
  z1 := fun h => by first | rfl | cases h
instance : BoolI Try.prog 4 := ⟨Try.underlying4⟩
theorem ti5 : (Try.prog.info? 5).map (fun i => (i.size, i.bytes, i.zero)) = some (1, 1, some (zval false [.int .u8 0])) := by kernel_rfl
instance tyI5 : TyI Try.prog 5 false 1 1 [.int .u8 0] where
  desc := ⟨_, Try.underlying5, rfl⟩
  info := by
    obtain ⟨i, h1, h2⟩ := Option.map_eq_some_iff.1 ti5
    simp only [Prod.mk.injEq] at h2
    exact ⟨i, h1, h2.1, h2.2.1, h2.2.2⟩
  zc := rfl
  zl := rfl
  z1 := fun h => by first | rfl | cases h
instance : IntI Try.prog 5 .u8 := ⟨Try.underlying5⟩
theorem ti9 : (Try.prog.info? 9).map (fun i => (i.size, i.bytes, i.zero)) = some (1, 16, some (zval false [.str []])) := by kernel_rfl
instance tyI9 : TyI Try.prog 9 false 1 16 [.str []] where
  desc := ⟨_, Try.underlying9, rfl⟩
  info := by
    obtain ⟨i, h1, h2⟩ := Option.map_eq_some_iff.1 ti9
    simp only [Prod.mk.injEq] at h2
    exact ⟨i, h1, h2.1, h2.2.1, h2.2.2⟩
  zc := rfl
  zl := rfl
  z1 := fun h => by first | rfl | cases h
instance : StrI Try.prog 9 := ⟨Try.underlying9⟩
theorem ti22 : (Try.prog.info? 22).map (fun i => (i.size, i.bytes, i.zero)) = some (1, 24, some (zval false [.slice []])) := by kernel_rfl
instance tyI22 : TyI Try.prog 22 false 1 24 [.slice []] where
  desc := ⟨_, Try.underlying22, rfl⟩
  info := by
    obtain ⟨i, h1, h2⟩ := Option.map_eq_some_iff.1 ti22
    simp only [Prod.mk.injEq] at h2
    exact ⟨i, h1, h2.1, h2.2.1, h2.2.2⟩
  zc := rfl
  zl := rfl
  z1 := fun h => by first | rfl | cases h
instance : SlcI Try.prog 22 82 := ⟨Try.underlying22⟩
theorem ti23 : (Try.prog.info? 23).map (fun i => (i.size, i.bytes, i.zero)) = some (1, 24, some (zval false [.slice []])) := by kernel_rfl
instance tyI23 : TyI Try.prog 23 false 1 24 [.slice []] where
  desc := ⟨_, Try.underlying23, rfl⟩
  info := by
    obtain ⟨i, h1, h2⟩ := Option.map_eq_some_iff.1 ti23
    simp only [Prod.mk.injEq] at h2
    exact ⟨i, h1, h2.1, h2.2.1, h2.2.2⟩
  zc := rfl
  zl := rfl
  z1 := fun h => by first | rfl | cases h
instance : SlcI Try.prog 23 86 := ⟨Try.underlying23⟩
theorem ti25 : (Try.prog.info? 25).map (fun i => (i.size, i.bytes, i.zero)) = some (2, 48, some (zval true [.slice [], .slice []])) := by kernel_rfl
instance tyI25 : TyI Try.prog 25 true 2 48 [.slice [], .slice []] where
  desc := ⟨_, Try.underlying25, rfl⟩
  info := by
    obtain ⟨i, h1, h2⟩ := Option.map_eq_some_iff.1 ti25
    simp only [Prod.mk.injEq] at h2
    exact ⟨i, h1, h2.1, h2.2.1, h2.2.2⟩
  zc := rfl
  zl := rfl
  z1 := fun h => by first | rfl | cases h
instance : FldI Try.prog 25 0 0 22 := ⟨⟨_, _, Try.underlying25, rfl, rfl, rfl⟩⟩
instance : FldI Try.prog 25 1 1 23 := ⟨⟨_, _, Try.underlying25, rfl, rfl, rfl⟩⟩
instance : StructI Try.prog 25 [(0, 1), (1, 1)] := ⟨⟨_, Try.underlying25, by kernel_rfl⟩⟩
instance : SlcI Try.prog 26 50 := ⟨Try.underlying26⟩
theorem ti28 : (Try.prog.info? 28).map (fun i => (i.size, i.bytes, i.zero)) = some (1, 24, some (zval false [.slice []])) := by kernel_rfl
instance tyI28 : TyI Try.prog 28 false 1 24 [.slice []] where
  desc := ⟨_, Try.underlying28, rfl⟩
  info := by
    obtain ⟨i, h1, h2⟩ := Option.map_eq_some_iff.1 ti28
    simp only [Prod.mk.injEq] at h2
    exact ⟨i, h1, h2.1, h2.2.1, h2.2.2⟩
  zc := rfl
  zl := rfl
  z1 := fun h => by first | rfl | cases h
instance : SlcI Try.prog 28 41 := ⟨Try.underlying28⟩
theorem ti30 : (Try.prog.info? 30).map (fun i => (i.size, i.bytes, i.zero)) = some (1, 24, some (zval true [.slice []])) := by kernel_rfl
instance tyI30 : TyI Try.prog 30 true 1 24 [.slice []] where
  desc := ⟨_, Try.underlying30, rfl⟩
  info := by
    obtain ⟨i, h1, h2⟩ := Option.map_eq_some_iff.1 ti30
    simp only [Prod.mk.injEq] at h2
    exact ⟨i, h1, h2.1, h2.2.1, h2.2.2⟩
  zc := rfl
  zl := rfl
  z1 := fun h => by first | rfl | cases h
instance : FldI Try.prog 30 0 0 28 := ⟨⟨_, _, Try.underlying30, rfl, rfl, rfl⟩⟩
instance : StructI Try.prog 30 [(0, 1)] := ⟨⟨_, Try.underlying30, by kernel_rfl⟩⟩
theorem ti31 : (Try.prog.info? 31).map (fun i => (i.size, i.bytes, i.zero)) = some (1, 8, some (zval false [.int .i64 0])) := by kernel_rfl
instance tyI31 : TyI Try.prog 31 false 1 8 [.int .i64 0] where
  desc := ⟨_, Try.underlying31, rfl⟩
  info := by
    obtain ⟨i, h1, h2⟩ := Option.map_eq_some_iff.1 ti31
    simp only [Prod.mk.injEq] at h2
    exact ⟨i, h1, h2.1, h2.2.1, h2.2.2⟩
  zc := rfl
  zl := rfl
  z1 := fun h => by first | rfl | cases h
theorem ti33 : (Try.prog.info? 33).map (fun i => (i.size, i.bytes, i.zero)) = some (2, 16, some (zval true [.int .i64 0, .int .i64 0])) := by kernel_rfl
instance tyI33 : TyI Try.prog 33 true 2 16 [.int .i64 0, .int .i64 0] where
  desc := ⟨_, Try.underlying33, rfl⟩
  info := by
    obtain ⟨i, h1, h2⟩ := Option.map_eq_some_iff.1 ti33
    simp only [Prod.mk.injEq] at h2
    exact ⟨i, h1, h2.1, h2.2.1, h2.2.2⟩
  zc := rfl
  zl := rfl
  z1 := fun h => by first | rfl | cases h
instance : FldI Try.prog 33 0 0 31 := ⟨⟨_, _, Try.underlying33, rfl, rfl, rfl⟩⟩
instance : StructI Try.prog 33 [(0, 1), (1, 1)] := ⟨⟨_, Try.underlying33, by kernel_rfl⟩⟩
theorem ti41 : (Try.prog.info? 41).map (fun i => (i.size, i.bytes, i.zero)) = some (1, 24, some (zval false [.slice []])) := by kernel_rfl
instance tyI41 : TyI Try.prog 41 false 1 24 [.slice []] where
  desc := ⟨_, Try.underlying41, rfl⟩
  info := by
    obtain ⟨i, h1, h2⟩ := Option.map_eq_some_iff.1 ti41
    simp only [Prod.mk.injEq] at h2
    exact ⟨i, h1, h2.1, h2.2.1, h2.2.2⟩
  zc := rfl
  zl := rfl
  z1 := fun h => by first | rfl | cases h
instance : SlcI Try.prog 41 47 := ⟨Try.underlying41⟩
theorem ti42 : (Try.prog.info? 42).map (fun i => (i.size, i.bytes, i.zero)) = some (1, 8, some (zval false [.int .u64 0])) := by kernel_rfl
instance tyI42 : TyI Try.prog 42 false 1 8 [.int .u64 0] where
  desc := ⟨_, Try.underlying42, rfl⟩
  info := by
    obtain ⟨i, h1, h2⟩ := Option.map_eq_some_iff.1 ti42
    simp only [Prod.mk.injEq] at h2
    exact ⟨i, h1, h2.1, h2.2.1, h2.2.2⟩
  zc := rfl
  zl := rfl
  z1 := fun h => by first | rfl | cases h
instance : IntI Try.prog 42 .u64 := ⟨Try.underlying42⟩
theorem ti44 : (Try.prog.info? 44).map (fun i => (i.size, i.bytes, i.zero)) = some (4, 32, some (zval true [.int .u64 0, .int .i64 0, .int .u64 0, .int .i64 0])) := by kernel_rfl
instance tyI44 : TyI Try.prog 44 true 4 32 [.int .u64 0, .int .i64 0, .int .u64 0, .int .i64 0] where
  desc := ⟨_, Try.underlying44, rfl⟩
  info := by
    obtain ⟨i, h1, h2⟩ := Option.map_eq_some_iff.1 ti44
    simp only [Prod.mk.injEq] at h2
    exact ⟨i, h1, h2.1, h2.2.1, h2.2.2⟩
  zc := rfl
  zl := rfl
  z1 := fun h => by first | rfl | cases h
instance : FldI Try.prog 44 0 0 42 := ⟨⟨_, _, Try.underlying44, rfl, rfl, rfl⟩⟩
instance : FldI Try.prog 44 1 1 3 := ⟨⟨_, _, Try.underlying44, rfl, rfl, rfl⟩⟩
instance : FldI Try.prog 44 2 2 42 := ⟨⟨_, _, Try.underlying44, rfl, rfl, rfl⟩⟩
instance : FldI Try.prog 44 3 3 3 := ⟨⟨_, _, Try.underlying44, rfl, rfl, rfl⟩⟩
instance : StructI Try.prog 44 [(0, 1), (1, 1), (2, 1), (3, 1)] := ⟨⟨_, Try.underlying44, by kernel_rfl⟩⟩
theorem ti45 : (Try.prog.info? 45).map (fun i => (i.size, i.bytes, i.zero)) = some (1, 24, some (zval false [.slice []])) := by kernel_rfl
instance tyI45 : TyI Try.prog 45 false 1 24 [.slice []] where
  desc := ⟨_, Try.underlying45, rfl⟩
  info := by
    obtain ⟨i, h1, h2⟩ := Option.map_eq_some_iff.1 ti45
    simp only [Prod.mk.injEq] at h2
    exact ⟨i, h1, h2.1, h2.2.1, h2.2.2⟩
  zc := rfl
  zl := rfl
  z1 := fun h => by first | rfl | cases h
instance : SlcI Try.prog 45 3 := ⟨Try.underlying45⟩
theorem ti47 : (Try.prog.info? 47).map (fun i => (i.size, i.bytes, i.zero)) = some (9, 120, some (zval true [.int .u64 0, .int .i64 0, .int .u64 0, .int .i64 0, .int .i64 0, .int .i64 0, .slice [], .slice [], .slice []])) := by kernel_rfl
instance tyI47 : TyI Try.prog 47 true 9 120 [.int .u64 0, .int .i64 0, .int .u64 0, .int .i64 0, .int .i64 0, .int .i64 0, .slice [], .slice [], .slice []] where
  desc := ⟨_, Try.underlying47, rfl⟩
  info := by
    obtain ⟨i, h1, h2⟩ := Option.map_eq_some_iff.1 ti47
    simp only [Prod.mk.injEq] at h2
    exact ⟨i, h1, h2.1, h2.2.1, h2.2.2⟩
  zc := rfl
  zl := rfl
  z1 := fun h => by first | rfl | cases h
instance : FldI Try.prog 47 0 0 44 := ⟨⟨_, _, Try.underlying47, rfl, rfl, rfl⟩⟩
instance : FldI Try.prog 47 1 4 3 := ⟨⟨_, _, Try.underlying47, rfl, rfl, rfl⟩⟩
instance : FldI Try.prog 47 2 5 3 := ⟨⟨_, _, Try.underlying47, rfl, rfl, rfl⟩⟩
instance : FldI Try.prog 47 3 6 45 := ⟨⟨_, _, Try.underlying47, rfl, rfl, rfl⟩⟩
instance : FldI Try.prog 47 4 7 45 := ⟨⟨_, _, Try.underlying47, rfl, rfl, rfl⟩⟩
instance : FldI Try.prog 47 5 8 45 := ⟨⟨_, _, Try.underlying47, rfl, rfl, rfl⟩⟩
instance : StructI Try.prog 47 [(0, 4), (4, 1), (5, 1), (6, 1), (7, 1), (8, 1)] := ⟨⟨_, Try.underlying47, by kernel_rfl⟩⟩
theorem ti50 : (Try.prog.info? 50).map (fun i => (i.size, i.bytes, i.zero)) = some (4, 32, some (zval true [.int .i64 0, .int .i64 0, .int .i64 0, .int .i64 0])) := by kernel_rfl
instance tyI50 : TyI Try.prog 50 true 4 32 [.int .i64 0, .int .i64 0, .int .i64 0, .int .i64 0] where
  desc := ⟨_, Try.underlying50, rfl⟩
  info := by
    obtain ⟨i, h1, h2⟩ := Option.map_eq_some_iff.1 ti50
    simp only [Prod.mk.injEq] at h2
    exact ⟨i, h1, h2.1, h2.2.1, h2.2.2⟩
  zc := rfl
  zl := rfl
  z1 := fun h => by first | rfl | cases h
instance : FldI Try.prog 50 0 0 3 := ⟨⟨_, _, Try.underlying50, rfl, rfl, rfl⟩⟩
instance : FldI Try.prog 50 1 1 3 := ⟨⟨_, _, Try.underlying50, rfl, rfl, rfl⟩⟩
instance : FldI Try.prog 50 2 2 3 := ⟨⟨_, _, Try.underlying50, rfl, rfl, rfl⟩⟩
instance : FldI Try.prog 50 3 3 3 := ⟨⟨_, _, Try.underlying50, rfl, rfl, rfl⟩⟩
instance : StructI Try.prog 50 [(0, 1), (1, 1), (2, 1), (3, 1)] := ⟨⟨_, Try.underlying50, by kernel_rfl⟩⟩
instance : SlcI Try.prog 55 59 := ⟨Try.underlying55⟩
theorem ti59 : (Try.prog.info? 59).map (fun i => (i.size, i.bytes, i.zero)) = some (7, 88, some (zval true [.int .u64 0, .int .i64 0, .int .u64 0, .int .i64 0, .int .i64 0, .slice [], .slice []])) := by kernel_rfl
instance tyI59 : TyI Try.prog 59 true 7 88 [.int .u64 0, .int .i64 0, .int .u64 0, .int .i64 0, .int .i64 0, .slice [], .slice []] where
  desc := ⟨_, Try.underlying59, rfl⟩
  info := by
    obtain ⟨i, h1, h2⟩ := Option.map_eq_some_iff.1 ti59
    simp only [Prod.mk.injEq] at h2
    exact ⟨i, h1, h2.1, h2.2.1, h2.2.2⟩
  zc := rfl
  zl := rfl
  z1 := fun h => by first | rfl | cases h
instance : FldI Try.prog 59 0 0 44 := ⟨⟨_, _, Try.underlying59, rfl, rfl, rfl⟩⟩
instance : FldI Try.prog 59 1 4 3 := ⟨⟨_, _, Try.underlying59, rfl, rfl, rfl⟩⟩
instance : FldI Try.prog 59 2 5 45 := ⟨⟨_, _, Try.underlying59, rfl, rfl, rfl⟩⟩
instance : FldI Try.prog 59 3 6 45 := ⟨⟨_, _, Try.underlying59, rfl, rfl, rfl⟩⟩
instance : StructI Try.prog 59 [(0, 4), (4, 1), (5, 1), (6, 1)] := ⟨⟨_, Try.underlying59, by kernel_rfl⟩⟩
instance : SlcI Try.prog 69 115 := ⟨Try.underlying69⟩
instance : SlcI Try.prog 73 95 := ⟨Try.underlying73⟩
theorem ti78 : (Try.prog.info? 78).map (fun i => (i.size, i.bytes, i.zero)) = some (1, 24, some (zval false [.slice []])) := by kernel_rfl
instance tyI78 : TyI Try.prog 78 false 1 24 [.slice []] where
  desc := ⟨_, Try.underlying78, rfl⟩
  info := by
    obtain ⟨i, h1, h2⟩ := Option.map_eq_some_iff.1 ti78
    simp only [Prod.mk.injEq] at h2
    exact ⟨i, h1, h2.1, h2.2.1, h2.2.2⟩
  zc := rfl
  zl := rfl
  z1 := fun h => by first | rfl | cases h
instance : SlcI Try.prog 78 84 := ⟨Try.underlying78⟩
theorem ti80 : (Try.prog.info? 80).map (fun i => (i.size, i.bytes, i.zero)) = some (3, 48, some (zval true [.str [], .int .i64 0, .slice []])) := by kernel_rfl
instance tyI80 : TyI Try.prog 80 true 3 48 [.str [], .int .i64 0, .slice []] where
  desc := ⟨_, Try.underlying80, rfl⟩
  info := by
    obtain ⟨i, h1, h2⟩ := Option.map_eq_some_iff.1 ti80
    simp only [Prod.mk.injEq] at h2
    exact ⟨i, h1, h2.1, h2.2.1, h2.2.2⟩
  zc := rfl
  zl := rfl
  z1 := fun h => by first | rfl | cases h
instance : FldI Try.prog 80 0 0 9 := ⟨⟨_, _, Try.underlying80, rfl, rfl, rfl⟩⟩
instance : FldI Try.prog 80 1 1 3 := ⟨⟨_, _, Try.underlying80, rfl, rfl, rfl⟩⟩
instance : FldI Try.prog 80 2 2 78 := ⟨⟨_, _, Try.underlying80, rfl, rfl, rfl⟩⟩
instance : StructI Try.prog 80 [(0, 1), (1, 1), (2, 1)] := ⟨⟨_, Try.underlying80, by kernel_rfl⟩⟩
theorem ti82 : (Try.prog.info? 82).map (fun i => (i.size, i.bytes, i.zero)) = some (5, 80, some (zval true [.int .u64 0, .slice [], .str [], .int .i64 0, .slice []])) := by kernel_rfl
instance tyI82 : TyI Try.prog 82 true 5 80 [.int .u64 0, .slice [], .str [], .int .i64 0, .slice []] where
  desc := ⟨_, Try.underlying82, rfl⟩
  info := by
    obtain ⟨i, h1, h2⟩ := Option.map_eq_some_iff.1 ti82
    simp only [Prod.mk.injEq] at h2
    exact ⟨i, h1, h2.1, h2.2.1, h2.2.2⟩
  zc := rfl
  zl := rfl
  z1 := fun h => by first | rfl | cases h
instance : FldI Try.prog 82 0 0 42 := ⟨⟨_, _, Try.underlying82, rfl, rfl, rfl⟩⟩
instance : FldI Try.prog 82 1 1 45 := ⟨⟨_, _, Try.underlying82, rfl, rfl, rfl⟩⟩
instance : FldI Try.prog 82 2 2 80 := ⟨⟨_, _, Try.underlying82, rfl, rfl, rfl⟩⟩
instance : StructI Try.prog 82 [(0, 1), (1, 1), (2, 3)] := ⟨⟨_, Try.underlying82, by kernel_rfl⟩⟩
theorem ti84 : (Try.prog.info? 84).map (fun i => (i.size, i.bytes, i.zero)) = some (2, 16, some (zval true [.int .i64 0, .int .i64 0])) := by kernel_rfl
instance tyI84 : TyI Try.prog 84 true 2 16 [.int .i64 0, .int .i64 0] where
  desc := ⟨_, Try.underlying84, rfl⟩
  info := by
    obtain ⟨i, h1, h2⟩ := Option.map_eq_some_iff.1 ti84
    simp only [Prod.mk.injEq] at h2
    exact ⟨i, h1, h2.1, h2.2.1, h2.2.2⟩
  zc := rfl
  zl := rfl
  z1 := fun h => by first | rfl | cases h
instance : FldI Try.prog 84 0 0 3 := ⟨⟨_, _, Try.underlying84, rfl, rfl, rfl⟩⟩
instance : FldI Try.prog 84 1 1 3 := ⟨⟨_, _, Try.underlying84, rfl, rfl, rfl⟩⟩
theorem ti86 : (Try.prog.info? 86).map (fun i => (i.size, i.bytes, i.zero)) = some (6, 48, some (zval true [.int .i64 0, .int .i64 0, .int .i64 0, .int .i64 0, .int .i64 0, .bool false])) := by kernel_rfl
instance tyI86 : TyI Try.prog 86 true 6 48 [.int .i64 0, .int .i64 0, .int .i64 0, .int .i64 0, .int .i64 0, .bool false] where
  desc := ⟨_, Try.underlying86, rfl⟩
  info := by
    obtain ⟨i, h1, h2⟩ := Option.map_eq_some_iff.1 ti86
    simp only [Prod.mk.injEq] at h2
    exact ⟨i, h1, h2.1, h2.2.1, h2.2.2⟩
  zc := rfl
  zl := rfl
  z1 := fun h => by first | rfl | cases h
instance : FldI Try.prog 86 0 0 3 := ⟨⟨_, _, Try.underlying86, rfl, rfl, rfl⟩⟩
instance : FldI Try.prog 86 1 1 3 := ⟨⟨_, _, Try.underlying86, rfl, rfl, rfl⟩⟩
instance : FldI Try.prog 86 2 2 3 := ⟨⟨_, _, Try.underlying86, rfl, rfl, rfl⟩⟩
instance : FldI Try.prog 86 3 3 3 := ⟨⟨_, _, Try.underlying86, rfl, rfl, rfl⟩⟩
instance : FldI Try.prog 86 4 4 3 := ⟨⟨_, _, Try.underlying86, rfl, rfl, rfl⟩⟩
instance : FldI Try.prog 86 5 5 4 := ⟨⟨_, _, Try.underlying86, rfl, rfl, rfl⟩⟩
instance : StructI Try.prog 86 [(0, 1), (1, 1), (2, 1), (3, 1), (4, 1), (5, 1)] := ⟨⟨_, Try.underlying86, by kernel_rfl⟩⟩
instance : SlcI Try.prog 88 44 := ⟨Try.underlying88⟩
instance : SlcI Try.prog 93 126 := ⟨Try.underlying93⟩
theorem ti95 : (Try.prog.info? 95).map (fun i => (i.size, i.bytes, i.zero)) = some (1, 24, some (zval false [.slice []])) := by kernel_rfl
instance tyI95 : TyI Try.prog 95 false 1 24 [.slice []] where
  desc := ⟨_, Try.underlying95, rfl⟩
  info := by
    obtain ⟨i, h1, h2⟩ := Option.map_eq_some_iff.1 ti95
    simp only [Prod.mk.injEq] at h2
    exact ⟨i, h1, h2.1, h2.2.1, h2.2.2⟩
  zc := rfl
  zl := rfl
  z1 := fun h => by first | rfl | cases h
instance : SlcI Try.prog 95 120 := ⟨Try.underlying95⟩
theorem ti109 : (Try.prog.info? 109).map (fun i => (i.size, i.bytes, i.zero)) = some (2, 16, some (zval true [.int .i64 0, .int .i64 0])) := by kernel_rfl
instance tyI109 : TyI Try.prog 109 true 2 16 [.int .i64 0, .int .i64 0] where
  desc := ⟨_, Try.underlying109, rfl⟩
  info := by
    obtain ⟨i, h1, h2⟩ := Option.map_eq_some_iff.1 ti109
    simp only [Prod.mk.injEq] at h2
    exact ⟨i, h1, h2.1, h2.2.1, h2.2.2⟩
  zc := rfl
  zl := rfl
  z1 := fun h => by first | rfl | cases h
instance : StructI Try.prog 109 [(0, 1), (1, 1)] := ⟨⟨_, Try.underlying109, by kernel_rfl⟩⟩
instance : SlcI Try.prog 110 109 := ⟨Try.underlying110⟩
theorem ti115 : (Try.prog.info? 115).map (fun i => (i.size, i.bytes, i.zero)) = some (1, 24, some (zval false [.slice []])) := by kernel_rfl
instance tyI115 : TyI Try.prog 115 false 1 24 [.slice []] where
  desc := ⟨_, Try.underlying115, rfl⟩
  info := by
    obtain ⟨i, h1, h2⟩ := Option.map_eq_some_iff.1 ti115
    simp only [Prod.mk.injEq] at h2
    exact ⟨i, h1, h2.1, h2.2.1, h2.2.2⟩
  zc := rfl
  zl := rfl
  z1 := fun h => by first | rfl | cases h
instance : SlcI Try.prog 115 5 := ⟨Try.underlying115⟩
theorem ti120 : (Try.prog.info? 120).map (fun i => (i.size, i.bytes, i.zero)) = some (4, 32, some (zval true [.int .i64 0, .int .i64 0, .int .i64 0, .int .i64 0])) := by kernel_rfl
instance tyI120 : TyI Try.prog 120 true 4 32 [.int .i64 0, .int .i64 0, .int .i64 0, .int .i64 0] where
  desc := ⟨_, Try.underlying120, rfl⟩
  info := by
    obtain ⟨i, h1, h2⟩ := Option.map_eq_some_iff.1 ti120
    simp only [Prod.mk.injEq] at h2
    exact ⟨i, h1, h2.1, h2.2.1, h2.2.2⟩
  zc := rfl
  zl := rfl
  z1 := fun h => by first | rfl | cases h
instance : FldI Try.prog 120 0 0 3 := ⟨⟨_, _, Try.underlying120, rfl, rfl, rfl⟩⟩
instance : FldI Try.prog 120 1 1 3 := ⟨⟨_, _, Try.underlying120, rfl, rfl, rfl⟩⟩
instance : FldI Try.prog 120 2 2 3 := ⟨⟨_, _, Try.underlying120, rfl, rfl, rfl⟩⟩
instance : FldI Try.prog 120 3 3 3 := ⟨⟨_, _, Try.underlying120, rfl, rfl, rfl⟩⟩
instance : StructI Try.prog 120 [(0, 1), (1, 1), (2, 1), (3, 1)] := ⟨⟨_, Try.underlying120, by kernel_rfl⟩⟩
instance : IntI Try.prog 124 .u64 := ⟨Try.underlying124⟩
theorem ti126 : (Try.prog.info? 126).map (fun i => (i.size, i.bytes, i.zero)) = some (7, 56, some (zval true [.int .i64 0, .int .i64 0, .int .i64 0, .int .u64 0, .int .i64 0, .int .u64 0, .int .i64 0])) := by kernel_rfl
instance tyI126 : TyI Try.prog 126 true 7 56 [.int .i64 0, .int .i64 0, .int .i64 0, .int .u64 0, .int .i64 0, .int .u64 0, .int .i64 0] where
  desc := ⟨_, Try.underlying126, rfl⟩
  info := by
    obtain ⟨i, h1, h2⟩ := Option.map_eq_some_iff.1 ti126
    simp only [Prod.mk.injEq] at h2
    exact ⟨i, h1, h2.1, h2.2.1, h2.2.2⟩
  zc := rfl
  zl := rfl
  z1 := fun h => by first | rfl | cases h
instance : FldI Try.prog 126 0 0 3 := ⟨⟨_, _, Try.underlying126, rfl, rfl, rfl⟩⟩
instance : FldI Try.prog 126 1 1 3 := ⟨⟨_, _, Try.underlying126, rfl, rfl, rfl⟩⟩
instance : FldI Try.prog 126 2 2 3 := ⟨⟨_, _, Try.underlying126, rfl, rfl, rfl⟩⟩
instance : FldI Try.prog 126 3 3 44 := ⟨⟨_, _, Try.underlying126, rfl, rfl, rfl⟩⟩
instance : StructI Try.prog 126 [(0, 1), (1, 1), (2, 1), (3, 4)] := ⟨⟨_, Try.underlying126, by kernel_rfl⟩⟩
theorem ti155 : (Try.prog.info? 155).map (fun i => (i.size, i.bytes, i.zero)) = some (1, 4, some (zval false [.int .u32 0])) := by kernel_rfl
instance tyI155 : TyI Try.prog 155 false 1 4 [.int .u32 0] where
  desc := ⟨_, Try.underlying155, rfl⟩
  info := by
    obtain ⟨i, h1, h2⟩ := Option.map_eq_some_iff.1 ti155
    simp only [Prod.mk.injEq] at h2
    exact ⟨i, h1, h2.1, h2.2.1, h2.2.2⟩
  zc := rfl
  zl := rfl
  z1 := fun h => by first | rfl | cases h
instance : IntI Try.prog 155 .u32 := ⟨Try.underlying155⟩
theorem ti175 : (Try.prog.info? 175).map (fun i => (i.size, i.bytes, i.zero)) = some (4, 16, some (zval true [.int .u32 0, .int .u32 0, .int .u32 0, .int .u32 0])) := by kernel_rfl
instance tyI175 : TyI Try.prog 175 true 4 16 [.int .u32 0, .int .u32 0, .int .u32 0, .int .u32 0] where
  desc := ⟨_, Try.underlying175, rfl⟩
  info := by
    obtain ⟨i, h1, h2⟩ := Option.map_eq_some_iff.1 ti175
    simp only [Prod.mk.injEq] at h2
    exact ⟨i, h1, h2.1, h2.2.1, h2.2.2⟩
  zc := rfl
  zl := rfl
  z1 := fun h => by first | rfl | cases h
instance : ArrI Try.prog 175 4 155 := ⟨Try.underlying175⟩
theorem ti181 : (Try.prog.info? 181).map (fun i => (i.size, i.bytes, i.zero)) = some (16, 64, some (zval true [.int .u32 0, .int .u32 0, .int .u32 0, .int .u32 0, .int .u32 0, .int .u32 0, .int .u32 0, .int .u32 0, .int .u32 0, .int .u32 0, .int .u32 0, .int .u32 0, .int .u32 0, .int .u32 0, .int .u32 0, .int .u32 0])) := by kernel_rfl
instance tyI181 : TyI Try.prog 181 true 16 64 [.int .u32 0, .int .u32 0, .int .u32 0, .int .u32 0, .int .u32 0, .int .u32 0, .int .u32 0, .int .u32 0, .int .u32 0, .int .u32 0, .int .u32 0, .int .u32 0, .int .u32 0, .int .u32 0, .int .u32 0, .int .u32 0] where
  desc := ⟨_, Try.underlying181, rfl⟩
  info := by
    obtain ⟨i, h1, h2⟩ := Option.map_eq_some_iff.1 ti181
    simp only [Prod.mk.injEq] at h2
    exact ⟨i, h1, h2.1, h2.2.1, h2.2.2⟩
  zc := rfl
  zl := rfl
  z1 := fun h => by first | rfl | cases h
instance : ArrI Try.prog 181 16 155 := ⟨Try.underlying181⟩
theorem ti182 : (Try.prog.info? 182).map (fun i => (i.size, i.bytes, i.zero)) = some (64, 256, some (zval true [.int .u32 0, .int .u32 0, .int .u32 0, .int .u32 0, .int .u32 0, .int .u32 0, .int .u32 0, .int .u32 0, .int .u32 0, .int .u32 0, .int .u32 0, .int .u32 0, .int .u32 0, .int .u32 0, .int .u32 0, .int .u32 0, .int .u32 0, .int .u32 0, .int .u32 0, .int .u32 0, .int .u32 0, .int .u32 0, .int .u32 0, .int .u32 0, .int .u32 0, .int .u32 0, .int .u32 0, .int .u32 0, .int .u32 0, .int .u32 0, .int .u32 0, .int .u32 0, .int .u32 0, .int .u32 0, .int .u32 0, .int .u32 0, .int .u32 0, .int .u32 0, .int .u32 0, .int .u32 0, .int .u32 0, .int .u32 0, .int .u32 0, .int .u32 0, .int .u32 0, .int .u32 0, .int .u32 0, .int .u32 0, .int .u32 0, .int .u32 0, .int .u32 0, .int .u32 0, .int .u32 0, .int .u32 0, .int .u32 0, .int .u32 0, .int .u32 0, .int .u32 0, .int .u32 0, .int .u32 0, .int .u32 0, .int .u32 0, .int .u32 0, .int .u32 0])) := by kernel_rfl
instance tyI182 : TyI Try.prog 182 true 64 256 [.int .u32 0, .int .u32 0, .int .u32 0, .int .u32 0, .int .u32 0, .int .u32 0, .int .u32 0, .int .u32 0, .int .u32 0, .int .u32 0, .int .u32 0, .int .u32 0, .int .u32 0, .int .u32 0, .int .u32 0, .int .u32 0, .int .u32 0, .int .u32 0, .int .u32 0, .int .u32 0, .int .u32 0, .int .u32 0, .int .u32 0, .int .u32 0, .int .u32 0, .int .u32 0, .int .u32 0, .int .u32 0, .int .u32 0, .int .u32 0, .int .u32 0, .int .u32 0, .int .u32 0, .int .u32 0, .int .u32 0, .int .u32 0, .int .u32 0, .int .u32 0, .int .u32 0, .int .u32 0, .int .u32 0, .int .u32 0, .int .u32 0, .int .u32 0, .int .u32 0, .int .u32 0, .int .u32 0, .int .u32 0, .int .u32 0, .int .u32 0, .int .u32 0, .int .u32 0, .int .u32 0, .int .u32 0, .int .u32 0, .int .u32 0, .int .u32 0, .int .u32 0, .int .u32 0, .int .u32 0, .int .u32 0, .int .u32 0, .int .u32 0, .int .u32 0] where
  desc := ⟨_, Try.underlying182, rfl⟩
  info := by
    obtain ⟨i, h1, h2⟩ := Option.map_eq_some_iff.1 ti182
    simp only [Prod.mk.injEq] at h2
    exact ⟨i, h1, h2.1, h2.2.1, h2.2.2⟩
  zc := rfl
  zl := rfl
  z1 := fun h => by first | rfl | cases h
instance : ArrI Try.prog 182 64 155 := ⟨Try.underlying182⟩
theorem ti184 : (Try.prog.info? 184).map (fun i => (i.size, i.bytes, i.zero)) = some (16, 128, some (zval true [.int .i64 0, .int .i64 0, .int .i64 0, .int .i64 0, .int .i64 0, .int .i64 0, .int .i64 0, .int .i64 0, .int .i64 0, .int .i64 0, .int .i64 0, .int .i64 0, .int .i64 0, .int .i64 0, .int .i64 0, .int .i64 0])) := by kernel_rfl
instance tyI184 : TyI Try.prog 184 true 16 128 [.int .i64 0, .int .i64 0, .int .i64 0, .int .i64 0, .int .i64 0, .int .i64 0, .int .i64 0, .int .i64 0, .int .i64 0, .int .i64 0, .int .i64 0, .int .i64 0, .int .i64 0, .int .i64 0, .int .i64 0, .int .i64 0] where
  desc := ⟨_, Try.underlying184, rfl⟩
  info := by
    obtain ⟨i, h1, h2⟩ := Option.map_eq_some_iff.1 ti184
    simp only [Prod.mk.injEq] at h2
    exact ⟨i, h1, h2.1, h2.2.1, h2.2.2⟩
  zc := rfl
  zl := rfl
  z1 := fun h => by first | rfl | cases h
instance : ArrI Try.prog 184 16 3 := ⟨Try.underlying184⟩
instance : EqI Try.prog 44 [1, 1, 1, 1] := ⟨by kernel_rfl, ⟨_, Try.underlying44⟩, by kernel_rfl⟩
instance : EqI Try.prog 84 [1, 1] := ⟨by kernel_rfl, ⟨_, Try.underlying84⟩, by kernel_rfl⟩
instance : EqI Try.prog 86 [1, 1, 1, 1, 1, 0] := ⟨by kernel_rfl, ⟨_, Try.underlying86⟩, by kernel_rfl⟩
instance : EqI Try.prog 109 [1, 1] := ⟨by kernel_rfl, ⟨_, Try.underlying109⟩, by kernel_rfl⟩
end Go.Proofs.Ytpgcemabkjmliaa
