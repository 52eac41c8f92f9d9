/- The type facts of this translation, by program (wip/dm/types.py). -/
import Derived.Test.YtppficphaidoaaabMake
import Derived.Test.YtppficphaidoaaabEq
import Derived.Test.YtppficphaidoaaaProg
import Derived.KernelRfl
namespace Go.Proofs.Ytppficphaidoaaa
open Go.RowKit

theorem ti2 : (Try.prog.info? 2).map (fun i => (i.size, i.bytes, i.zero)) = some (1, 8, some (zval false [.int .i64 0])) := by kernel_rfl
instance tyI2 : TyI Try.prog 2 false 1 8 [.int .i64 0] where
  desc := ⟨_, Try.underlying2, rfl⟩
  info := by
    obtain ⟨i, h1, h2⟩ := Option.map_eq_some_iff.1 ti2
    simp only [Prod.mk.injEq] at h2
    exact ⟨i, h1, h2.1, h2.2.1, h2.2.2⟩
  zc := rfl
  zl := rfl
  z1 := fun h => by first | rfl | cases h
instance : IntI Try.prog 2 .i64 := ⟨Try.underlying2⟩
theorem ti3 : (Try.prog.info? 3).map (fun i => (i.size, i.bytes, i.zero)) = some (1, 8, some (zval false [.int .i64 0])) := by kernel_rfl
instance tyI3 : TyI Try.prog 3 false 1 8 [.int .i64 0] where
  desc := ⟨_, Try.underlying3, rfl⟩
  info := by
    obtain ⟨i, h1, h2⟩ := Option.map_eq_some_iff.1 ti3
    simp only [Prod.mk.injEq] at h2
    exact ⟨i, h1, h2.1, h2.2.1, h2.2.2⟩
  zc := rfl
  zl := rfl
  z1 := fun h => by first | rfl | cases h
instance : IntI Try.prog 3 .i64 := ⟨Try.underlying3⟩
theorem ti4 : (Try.prog.info? 4).map (fun i => (i.size, i.bytes, i.zero)) = some (1, 1, some (zval false [.bool false])) := by kernel_rfl
instance tyI4 : TyI Try.prog 4 false 1 1 [.bool false] where
  desc := ⟨_, Try.underlying4, rfl⟩
  info := by
    obtain ⟨i, h1, h2⟩ := Option.map_eq_some_iff.1 ti4
    simp only [Prod.mk.injEq] at h2
    exact ⟨i, h1, h2.1, h2.2.1, h2.2.2⟩
  zc := rfl
  zl := rfl
  z1 := fun h => by first | rfl | cases h
instance : BoolI Try.prog 4 := ⟨Try.underlying4⟩
theorem ti5 : (Try.prog.info? 5).map (fun i => (i.size, i.bytes, i.zero)) = some (1, 1, some (zval false [.int .u8 0])) := by kernel_rfl
instance tyI5 : TyI Try.prog 5 false 1 1 [.int .u8 0] where
  desc := ⟨_, Try.underlying5, rfl⟩
  info := by
    obtain ⟨i, h1, h2⟩ := Option.map_eq_some_iff.1 ti5
    simp only [Prod.mk.injEq] at h2
    exact ⟨i, h1, h2.1, h2.2.1, h2.2.2⟩
  zc := rfl
  zl := rfl
  z1 := fun h => by first | rfl | cases h
instance : IntI Try.prog 5 .u8 := ⟨Try.underlying5⟩
theorem ti9 : (Try.prog.info? 9).map (fun i => (i.size, i.bytes, i.zero)) = some (1, 16, some (zval false [.str []])) := by kernel_rfl
instance tyI9 : TyI Try.prog 9 false 1 16 [.str []] where
  desc := ⟨_, Try.underlying9, rfl⟩
  info := by
    obtain ⟨i, h1, h2⟩ := Option.map_eq_some_iff.1 ti9
    simp only [Prod.mk.injEq] at h2
    exact ⟨i, h1, h2.1, h2.2.1, h2.2.2⟩
  zc := rfl
  zl := rfl
  z1 := fun h => by first | rfl | cases h
instance : StrI Try.prog 9 := ⟨Try.underlying9⟩
theorem ti12 : (Try.prog.info? 12).map (fun i => (i.size, i.bytes, i.zero)) = some (1, 8, some (zval false [.int .u64 0])) := by kernel_rfl
instance tyI12 : TyI Try.prog 12 false 1 8 [.int .u64 0] where
  desc := ⟨_, Try.underlying12, rfl⟩
  info := by
    obtain ⟨i, h1, h2⟩ := Option.map_eq_some_iff.1 ti12
    simp only [Prod.mk.injEq] at h2
    exact ⟨i, h1, h2.1, h2.2.1, h2.2.2⟩
  zc := rfl
  zl := rfl
  z1 := fun h => by first | rfl | cases h
instance : IntI Try.prog 12 .u64 := ⟨Try.underlying12⟩
theorem ti13 : (Try.prog.info? 13).map (fun i => (i.size, i.bytes, i.zero)) = some (2, 24, some (zval true [.str [], .int .u64 0])) := by kernel_rfl
instance tyI13 : TyI Try.prog 13 true 2 24 [.str [], .int .u64 0] where
  desc := ⟨_, Try.underlying13, rfl⟩
  info := by
    obtain ⟨i, h1, h2⟩ := Option.map_eq_some_iff.1 ti13
    simp only [Prod.mk.injEq] at h2
    exact ⟨i, h1, h2.1, h2.2.1, h2.2.2⟩
  zc := rfl
  zl := rfl
  z1 := fun h => by first | rfl | cases h
instance : FldI Try.prog 13 0 0 9 := ⟨⟨_, _, Try.underlying13, rfl, rfl, rfl⟩⟩
instance : FldI Try.prog 13 1 1 12 := ⟨⟨_, _, Try.underlying13, rfl, rfl, rfl⟩⟩
instance : StructI Try.prog 13 [(0, 1), (1, 1)] := ⟨⟨_, Try.underlying13, by kernel_rfl⟩⟩
theorem ti21 : (Try.prog.info? 21).map (fun i => (i.size, i.bytes, i.zero)) = some (1, 4, some (zval false [.int .i32 0])) := by kernel_rfl
instance tyI21 : TyI Try.prog 21 false 1 4 [.int .i32 0] where
  desc := ⟨_, Try.underlying21, rfl⟩
  info := by
    obtain ⟨i, h1, h2⟩ := Option.map_eq_some_iff.1 ti21
    simp only [Prod.mk.injEq] at h2
    exact ⟨i, h1, h2.1, h2.2.1, h2.2.2⟩
  zc := rfl
  zl := rfl
  z1 := fun h => by first | rfl | cases h
instance : IntI Try.prog 21 .i32 := ⟨Try.underlying21⟩
theorem ti22 : (Try.prog.info? 22).map (fun i => (i.size, i.bytes, i.zero)) = some (1, 24, some (zval false [.slice []])) := by kernel_rfl
instance tyI22 : TyI Try.prog 22 false 1 24 [.slice []] where
  desc := ⟨_, Try.underlying22, rfl⟩
  info := by
    obtain ⟨i, h1, h2⟩ := Option.map_eq_some_iff.1 ti22
    simp only [Prod.mk.injEq] at h2
    exact ⟨i, h1, h2.1, h2.2.1, h2.2.2⟩
  zc := rfl
  zl := rfl
  z1 := fun h => by first | rfl | cases h
instance : SlcI Try.prog 22 30 := ⟨Try.underlying22⟩
theorem ti23 : (Try.prog.info? 23).map (fun i => (i.size, i.bytes, i.zero)) = some (3, 48, some (zval true [.str [], .int .i64 0, .slice []])) := by kernel_rfl
instance tyI23 : TyI Try.prog 23 true 3 48 [.str [], .int .i64 0, .slice []] where
  desc := ⟨_, Try.underlying23, rfl⟩
  info := by
    obtain ⟨i, h1, h2⟩ := Option.map_eq_some_iff.1 ti23
    simp only [Prod.mk.injEq] at h2
    exact ⟨i, h1, h2.1, h2.2.1, h2.2.2⟩
  zc := rfl
  zl := rfl
  z1 := fun h => by first | rfl | cases h
instance : FldI Try.prog 23 0 0 9 := ⟨⟨_, _, Try.underlying23, rfl, rfl, rfl⟩⟩
instance : FldI Try.prog 23 1 1 3 := ⟨⟨_, _, Try.underlying23, rfl, rfl, rfl⟩⟩
instance : FldI Try.prog 23 2 2 22 := ⟨⟨_, _, Try.underlying23, rfl, rfl, rfl⟩⟩
instance : StructI Try.prog 23 [(0, 1), (1, 1), (2, 1)] := ⟨⟨_, Try.underlying23, by kernel_rfl⟩⟩
theorem ti24 : (Try.prog.info? 24).map (fun i => (i.size, i.bytes, i.zero)) = some (3, 48, some (zval true [.str [], .int .i64 0, .slice []])) := by kernel_rfl
instance tyI24 : TyI Try.prog 24 true 3 48 [.str [], .int .i64 0, .slice []] where
  desc := ⟨_, Try.underlying24, rfl⟩
  info := by
    obtain ⟨i, h1, h2⟩ := Option.map_eq_some_iff.1 ti24
    simp only [Prod.mk.injEq] at h2
    exact ⟨i, h1, h2.1, h2.2.1, h2.2.2⟩
  zc := rfl
  zl := rfl
  z1 := fun h => by first | rfl | cases h
instance : FldI Try.prog 24 0 0 9 := ⟨⟨_, _, Try.underlying24, rfl, rfl, rfl⟩⟩
instance : FldI Try.prog 24 1 1 3 := ⟨⟨_, _, Try.underlying24, rfl, rfl, rfl⟩⟩
instance : FldI Try.prog 24 2 2 22 := ⟨⟨_, _, Try.underlying24, rfl, rfl, rfl⟩⟩
instance : StructI Try.prog 24 [(0, 1), (1, 1), (2, 1)] := ⟨⟨_, Try.underlying24, by kernel_rfl⟩⟩
theorem ti26 : (Try.prog.info? 26).map (fun i => (i.size, i.bytes, i.zero)) = some (1, 8, some (zval false [.int .i64 0])) := by kernel_rfl
instance tyI26 : TyI Try.prog 26 false 1 8 [.int .i64 0] where
  desc := ⟨_, Try.underlying26, rfl⟩
  info := by
    obtain ⟨i, h1, h2⟩ := Option.map_eq_some_iff.1 ti26
    simp only [Prod.mk.injEq] at h2
    exact ⟨i, h1, h2.1, h2.2.1, h2.2.2⟩
  zc := rfl
  zl := rfl
  z1 := fun h => by first | rfl | cases h
instance : IntI Try.prog 26 .i64 := ⟨Try.underlying26⟩
theorem ti29 : (Try.prog.info? 29).map (fun i => (i.size, i.bytes, i.zero)) = some (2, 16, some (zval true [.int .i64 0, .int .i64 0])) := by kernel_rfl
instance tyI29 : TyI Try.prog 29 true 2 16 [.int .i64 0, .int .i64 0] where
  desc := ⟨_, Try.underlying29, rfl⟩
  info := by
    obtain ⟨i, h1, h2⟩ := Option.map_eq_some_iff.1 ti29
    simp only [Prod.mk.injEq] at h2
    exact ⟨i, h1, h2.1, h2.2.1, h2.2.2⟩
  zc := rfl
  zl := rfl
  z1 := fun h => by first | rfl | cases h
instance : FldI Try.prog 29 0 0 3 := ⟨⟨_, _, Try.underlying29, rfl, rfl, rfl⟩⟩
instance : FldI Try.prog 29 1 1 3 := ⟨⟨_, _, Try.underlying29, rfl, rfl, rfl⟩⟩
instance : StructI Try.prog 29 [(0, 1), (1, 1)] := ⟨⟨_, Try.underlying29, by kernel_rfl⟩⟩
theorem ti30 : (Try.prog.info? 30).map (fun i => (i.size, i.bytes, i.zero)) = some (2, 16, some (zval true [.int .i64 0, .int .i64 0])) := by kernel_rfl
instance tyI30 : TyI Try.prog 30 true 2 16 [.int .i64 0, .int .i64 0] where
  desc := ⟨_, Try.underlying30, rfl⟩
  info := by
    obtain ⟨i, h1, h2⟩ := Option.map_eq_some_iff.1 ti30
    simp only [Prod.mk.injEq] at h2
    exact ⟨i, h1, h2.1, h2.2.1, h2.2.2⟩
  zc := rfl
  zl := rfl
  z1 := fun h => by first | rfl | cases h
instance : FldI Try.prog 30 0 0 3 := ⟨⟨_, _, Try.underlying30, rfl, rfl, rfl⟩⟩
instance : FldI Try.prog 30 1 1 3 := ⟨⟨_, _, Try.underlying30, rfl, rfl, rfl⟩⟩
instance : StructI Try.prog 30 [(0, 1), (1, 1)] := ⟨⟨_, Try.underlying30, by kernel_rfl⟩⟩
theorem ti34 : (Try.prog.info? 34).map (fun i => (i.size, i.bytes, i.zero)) = some (1, 24, some (zval false [.slice []])) := by kernel_rfl
instance tyI34 : TyI Try.prog 34 false 1 24 [.slice []] where
  desc := ⟨_, Try.underlying34, rfl⟩
  info := by
    obtain ⟨i, h1, h2⟩ := Option.map_eq_some_iff.1 ti34
    simp only [Prod.mk.injEq] at h2
    exact ⟨i, h1, h2.1, h2.2.1, h2.2.2⟩
  zc := rfl
  zl := rfl
  z1 := fun h => by first | rfl | cases h
instance : SlcI Try.prog 34 5 := ⟨Try.underlying34⟩
theorem ti38 : (Try.prog.info? 38).map (fun i => (i.size, i.bytes, i.zero)) = some (1, 24, some (zval false [.slice []])) := by kernel_rfl
instance tyI38 : TyI Try.prog 38 false 1 24 [.slice []] where
  desc := ⟨_, Try.underlying38, rfl⟩
  info := by
    obtain ⟨i, h1, h2⟩ := Option.map_eq_some_iff.1 ti38
    simp only [Prod.mk.injEq] at h2
    exact ⟨i, h1, h2.1, h2.2.1, h2.2.2⟩
  zc := rfl
  zl := rfl
  z1 := fun h => by first | rfl | cases h
instance : SlcI Try.prog 38 56 := ⟨Try.underlying38⟩
theorem ti39 : (Try.prog.info? 39).map (fun i => (i.size, i.bytes, i.zero)) = some (1, 8, some (zval false [.int .u64 0])) := by kernel_rfl
instance tyI39 : TyI Try.prog 39 false 1 8 [.int .u64 0] where
  desc := ⟨_, Try.underlying39, rfl⟩
  info := by
    obtain ⟨i, h1, h2⟩ := Option.map_eq_some_iff.1 ti39
    simp only [Prod.mk.injEq] at h2
    exact ⟨i, h1, h2.1, h2.2.1, h2.2.2⟩
  zc := rfl
  zl := rfl
  z1 := fun h => by first | rfl | cases h
instance : IntI Try.prog 39 .u64 := ⟨Try.underlying39⟩
theorem ti40 : (Try.prog.info? 40).map (fun i => (i.size, i.bytes, i.zero)) = some (2, 16, some (zval true [.int .i64 0, .int .i64 0])) := by kernel_rfl
instance tyI40 : TyI Try.prog 40 true 2 16 [.int .i64 0, .int .i64 0] where
  desc := ⟨_, Try.underlying40, rfl⟩
  info := by
    obtain ⟨i, h1, h2⟩ := Option.map_eq_some_iff.1 ti40
    simp only [Prod.mk.injEq] at h2
    exact ⟨i, h1, h2.1, h2.2.1, h2.2.2⟩
  zc := rfl
  zl := rfl
  z1 := fun h => by first | rfl | cases h
instance : FldI Try.prog 40 0 0 26 := ⟨⟨_, _, Try.underlying40, rfl, rfl, rfl⟩⟩
instance : FldI Try.prog 40 1 1 3 := ⟨⟨_, _, Try.underlying40, rfl, rfl, rfl⟩⟩
instance : StructI Try.prog 40 [(0, 1), (1, 1)] := ⟨⟨_, Try.underlying40, by kernel_rfl⟩⟩
theorem ti41 : (Try.prog.info? 41).map (fun i => (i.size, i.bytes, i.zero)) = some (2, 16, some (zval true [.int .i64 0, .int .i64 0])) := by kernel_rfl
instance tyI41 : TyI Try.prog 41 true 2 16 [.int .i64 0, .int .i64 0] where
  desc := ⟨_, Try.underlying41, rfl⟩
  info := by
    obtain ⟨i, h1, h2⟩ := Option.map_eq_some_iff.1 ti41
    simp only [Prod.mk.injEq] at h2
    exact ⟨i, h1, h2.1, h2.2.1, h2.2.2⟩
  zc := rfl
  zl := rfl
  z1 := fun h => by first | rfl | cases h
instance : FldI Try.prog 41 0 0 26 := ⟨⟨_, _, Try.underlying41, rfl, rfl, rfl⟩⟩
instance : FldI Try.prog 41 1 1 3 := ⟨⟨_, _, Try.underlying41, rfl, rfl, rfl⟩⟩
instance : StructI Try.prog 41 [(0, 1), (1, 1)] := ⟨⟨_, Try.underlying41, by kernel_rfl⟩⟩
theorem ti46 : (Try.prog.info? 46).map (fun i => (i.size, i.bytes, i.zero)) = some (1, 8, some (zval false [.int .u64 0])) := by kernel_rfl
instance tyI46 : TyI Try.prog 46 false 1 8 [.int .u64 0] where
  desc := ⟨_, Try.underlying46, rfl⟩
  info := by
    obtain ⟨i, h1, h2⟩ := Option.map_eq_some_iff.1 ti46
    simp only [Prod.mk.injEq] at h2
    exact ⟨i, h1, h2.1, h2.2.1, h2.2.2⟩
  zc := rfl
  zl := rfl
  z1 := fun h => by first | rfl | cases h
instance : IntI Try.prog 46 .u64 := ⟨Try.underlying46⟩
theorem ti52 : (Try.prog.info? 52).map (fun i => (i.size, i.bytes, i.zero)) = some (1, 24, some (zval false [.slice []])) := by kernel_rfl
instance tyI52 : TyI Try.prog 52 false 1 24 [.slice []] where
  desc := ⟨_, Try.underlying52, rfl⟩
  info := by
    obtain ⟨i, h1, h2⟩ := Option.map_eq_some_iff.1 ti52
    simp only [Prod.mk.injEq] at h2
    exact ⟨i, h1, h2.1, h2.2.1, h2.2.2⟩
  zc := rfl
  zl := rfl
  z1 := fun h => by first | rfl | cases h
instance : SlcI Try.prog 52 3 := ⟨Try.underlying52⟩
theorem ti55 : (Try.prog.info? 55).map (fun i => (i.size, i.bytes, i.zero)) = some (4, 32, some (zval true [.int .i64 0, .int .u64 0, .int .i64 0, .int .i64 0])) := by kernel_rfl
instance tyI55 : TyI Try.prog 55 true 4 32 [.int .i64 0, .int .u64 0, .int .i64 0, .int .i64 0] where
  desc := ⟨_, Try.underlying55, rfl⟩
  info := by
    obtain ⟨i, h1, h2⟩ := Option.map_eq_some_iff.1 ti55
    simp only [Prod.mk.injEq] at h2
    exact ⟨i, h1, h2.1, h2.2.1, h2.2.2⟩
  zc := rfl
  zl := rfl
  z1 := fun h => by first | rfl | cases h
instance : FldI Try.prog 55 0 0 3 := ⟨⟨_, _, Try.underlying55, rfl, rfl, rfl⟩⟩
instance : FldI Try.prog 55 1 1 39 := ⟨⟨_, _, Try.underlying55, rfl, rfl, rfl⟩⟩
instance : FldI Try.prog 55 2 2 3 := ⟨⟨_, _, Try.underlying55, rfl, rfl, rfl⟩⟩
instance : FldI Try.prog 55 3 3 3 := ⟨⟨_, _, Try.underlying55, rfl, rfl, rfl⟩⟩
instance : StructI Try.prog 55 [(0, 1), (1, 1), (2, 1), (3, 1)] := ⟨⟨_, Try.underlying55, by kernel_rfl⟩⟩
theorem ti56 : (Try.prog.info? 56).map (fun i => (i.size, i.bytes, i.zero)) = some (4, 32, some (zval true [.int .i64 0, .int .u64 0, .int .i64 0, .int .i64 0])) := by kernel_rfl
instance tyI56 : TyI Try.prog 56 true 4 32 [.int .i64 0, .int .u64 0, .int .i64 0, .int .i64 0] where
  desc := ⟨_, Try.underlying56, rfl⟩
  info := by
    obtain ⟨i, h1, h2⟩ := Option.map_eq_some_iff.1 ti56
    simp only [Prod.mk.injEq] at h2
    exact ⟨i, h1, h2.1, h2.2.1, h2.2.2⟩
  zc := rfl
  zl := rfl
  z1 := fun h => by first | rfl | cases h
instance : FldI Try.prog 56 0 0 3 := ⟨⟨_, _, Try.underlying56, rfl, rfl, rfl⟩⟩
instance : FldI Try.prog 56 1 1 39 := ⟨⟨_, _, Try.underlying56, rfl, rfl, rfl⟩⟩
instance : FldI Try.prog 56 2 2 3 := ⟨⟨_, _, Try.underlying56, rfl, rfl, rfl⟩⟩
instance : FldI Try.prog 56 3 3 3 := ⟨⟨_, _, Try.underlying56, rfl, rfl, rfl⟩⟩
instance : StructI Try.prog 56 [(0, 1), (1, 1), (2, 1), (3, 1)] := ⟨⟨_, Try.underlying56, by kernel_rfl⟩⟩
theorem ti80 : (Try.prog.info? 80).map (fun i => (i.size, i.bytes, i.zero)) = some (1, 4, some (zval false [.int .u32 0])) := by kernel_rfl
instance tyI80 : TyI Try.prog 80 false 1 4 [.int .u32 0] where
  desc := ⟨_, Try.underlying80, rfl⟩
  info := by
    obtain ⟨i, h1, h2⟩ := Option.map_eq_some_iff.1 ti80
    simp only [Prod.mk.injEq] at h2
    exact ⟨i, h1, h2.1, h2.2.1, h2.2.2⟩
  zc := rfl
  zl := rfl
  z1 := fun h => by first | rfl | cases h
instance : IntI Try.prog 80 .u32 := ⟨Try.underlying80⟩
theorem ti81 : (Try.prog.info? 81).map (fun i => (i.size, i.bytes, i.zero)) = some (4, 16, some (zval true [.int .u32 0, .int .u32 0, .int .u32 0, .int .u32 0])) := by kernel_rfl
instance tyI81 : TyI Try.prog 81 true 4 16 [.int .u32 0, .int .u32 0, .int .u32 0, .int .u32 0] where
  desc := ⟨_, Try.underlying81, rfl⟩
  info := by
    obtain ⟨i, h1, h2⟩ := Option.map_eq_some_iff.1 ti81
    simp only [Prod.mk.injEq] at h2
    exact ⟨i, h1, h2.1, h2.2.1, h2.2.2⟩
  zc := rfl
  zl := rfl
  z1 := fun h => by first | rfl | cases h
instance : ArrI Try.prog 81 4 80 := ⟨Try.underlying81⟩
theorem ti83 : (Try.prog.info? 83).map (fun i => (i.size, i.bytes, i.zero)) = some (1, 24, some (zval false [.slice []])) := by kernel_rfl
instance tyI83 : TyI Try.prog 83 false 1 24 [.slice []] where
  desc := ⟨_, Try.underlying83, rfl⟩
  info := by
    obtain ⟨i, h1, h2⟩ := Option.map_eq_some_iff.1 ti83
    simp only [Prod.mk.injEq] at h2
    exact ⟨i, h1, h2.1, h2.2.1, h2.2.2⟩
  zc := rfl
  zl := rfl
  z1 := fun h => by first | rfl | cases h
instance : SlcI Try.prog 83 80 := ⟨Try.underlying83⟩
theorem ti89 : (Try.prog.info? 89).map (fun i => (i.size, i.bytes, i.zero)) = some (16, 64, some (zval true [.int .u32 0, .int .u32 0, .int .u32 0, .int .u32 0, .int .u32 0, .int .u32 0, .int .u32 0, .int .u32 0, .int .u32 0, .int .u32 0, .int .u32 0, .int .u32 0, .int .u32 0, .int .u32 0, .int .u32 0, .int .u32 0])) := by kernel_rfl
instance tyI89 : TyI Try.prog 89 true 16 64 [.int .u32 0, .int .u32 0, .int .u32 0, .int .u32 0, .int .u32 0, .int .u32 0, .int .u32 0, .int .u32 0, .int .u32 0, .int .u32 0, .int .u32 0, .int .u32 0, .int .u32 0, .int .u32 0, .int .u32 0, .int .u32 0] where
  desc := ⟨_, Try.underlying89, rfl⟩
  info := by
    obtain ⟨i, h1, h2⟩ := Option.map_eq_some_iff.1 ti89
    simp only [Prod.mk.injEq] at h2
    exact ⟨i, h1, h2.1, h2.2.1, h2.2.2⟩
  zc := rfl
  zl := rfl
  z1 := fun h => by first | rfl | cases h
instance : ArrI Try.prog 89 16 80 := ⟨Try.underlying89⟩
theorem ti90 : (Try.prog.info? 90).map (fun i => (i.size, i.bytes, i.zero)) = some (64, 256, some (zval true [.int .u32 0, .int .u32 0, .int .u32 0, .int .u32 0, .int .u32 0, .int .u32 0, .int .u32 0, .int .u32 0, .int .u32 0, .int .u32 0, .int .u32 0, .int .u32 0, .int .u32 0, .int .u32 0, .int .u32 0, .int .u32 0, .int .u32 0, .int .u32 0, .int .u32 0, .int .u32 0, .int .u32 0, .int .u32 0, .int .u32 0, .int .u32 0, .int .u32 0, .int .u32 0, .int .u32 0, .int .u32 0, .int .u32 0, .int .u32 0, .int .u32 0, .int .u32 0, .int .u32 0, .int .u32 0, .int .u32 0, .int .u32 0, .int .u32 0, .int .u32 0, .int .u32 0, .int .u32 0, .int .u32 0, .int .u32 0, .int .u32 0, .int .u32 0, .int .u32 0, .int .u32 0, .int .u32 0, .int .u32 0, .int .u32 0, .int .u32 0, .int .u32 0, .int .u32 0, .int .u32 0, .int .u32 0, .int .u32 0, .int .u32 0, .int .u32 0, .int .u32 0, .int .u32 0, .int .u32 0, .int .u32 0, .int .u32 0, .int .u32 0, .int .u32 0])) := by kernel_rfl
instance tyI90 : TyI Try.prog 90 true 64 256 [.int .u32 0, .int .u32 0, .int .u32 0, .int .u32 0, .int .u32 0, .int .u32 0, .int .u32 0, .int .u32 0, .int .u32 0, .int .u32 0, .int .u32 0, .int .u32 0, .int .u32 0, .int .u32 0, .int .u32 0, .int .u32 0, .int .u32 0, .int .u32 0, .int .u32 0, .int .u32 0, .int .u32 0, .int .u32 0, .int .u32 0, .int .u32 0, .int .u32 0, .int .u32 0, .int .u32 0, .int .u32 0, .int .u32 0, .int .u32 0, .int .u32 0, .int .u32 0, .int .u32 0, .int .u32 0, .int .u32 0, .int .u32 0, .int .u32 0, .int .u32 0, .int .u32 0, .int .u32 0, .int .u32 0, .int .u32 0, .int .u32 0, .int .u32 0, .int .u32 0, .int .u32 0, .int .u32 0, .int .u32 0, .int .u32 0, .int .u32 0, .int .u32 0, .int .u32 0, .int .u32 0, .int .u32 0, .int .u32 0, .int .u32 0, .int .u32 0, .int .u32 0, .int .u32 0, .int .u32 0, .int .u32 0, .int .u32 0, .int .u32 0, .int .u32 0] where
  desc := ⟨_, Try.underlying90, rfl⟩
  info := by
    obtain ⟨i, h1, h2⟩ := Option.map_eq_some_iff.1 ti90
    simp only [Prod.mk.injEq] at h2
    exact ⟨i, h1, h2.1, h2.2.1, h2.2.2⟩
  zc := rfl
  zl := rfl
  z1 := fun h => by first | rfl | cases h
instance : ArrI Try.prog 90 64 80 := ⟨Try.underlying90⟩
theorem ti92 : (Try.prog.info? 92).map (fun i => (i.size, i.bytes, i.zero)) = some (16, 128, some (zval true [.int .i64 0, .int .i64 0, .int .i64 0, .int .i64 0, .int .i64 0, .int .i64 0, .int .i64 0, .int .i64 0, .int .i64 0, .int .i64 0, .int .i64 0, .int .i64 0, .int .i64 0, .int .i64 0, .int .i64 0, .int .i64 0])) := by kernel_rfl
instance tyI92 : TyI Try.prog 92 true 16 128 [.int .i64 0, .int .i64 0, .int .i64 0, .int .i64 0, .int .i64 0, .int .i64 0, .int .i64 0, .int .i64 0, .int .i64 0, .int .i64 0, .int .i64 0, .int .i64 0, .int .i64 0, .int .i64 0, .int .i64 0, .int .i64 0] where
  desc := ⟨_, Try.underlying92, rfl⟩
  info := by
    obtain ⟨i, h1, h2⟩ := Option.map_eq_some_iff.1 ti92
    simp only [Prod.mk.injEq] at h2
    exact ⟨i, h1, h2.1, h2.2.1, h2.2.2⟩
  zc := rfl
  zl := rfl
  z1 := fun h => by first | rfl | cases h
instance : ArrI Try.prog 92 16 3 := ⟨Try.underlying92⟩
theorem ti98 : (Try.prog.info? 98).map (fun i => (i.size, i.bytes, i.zero)) = some (0, 0, some (zval true [])) := by kernel_rfl
instance tyI98 : TyI Try.prog 98 true 0 0 [] where
  desc := ⟨_, Try.underlying98, rfl⟩
  info := by
    obtain ⟨i, h1, h2⟩ := Option.map_eq_some_iff.1 ti98
    simp only [Prod.mk.injEq] at h2
    exact ⟨i, h1, h2.1, h2.2.1, h2.2.2⟩
  zc := rfl
  zl := rfl
  z1 := fun h => by first | rfl | cases h
instance : ArrI Try.prog 98 0 16 := ⟨Try.underlying98⟩
theorem ti99 : (Try.prog.info? 99).map (fun i => (i.size, i.bytes, i.zero)) = some (0, 0, some (zval true [])) := by kernel_rfl
instance tyI99 : TyI Try.prog 99 true 0 0 [] where
  desc := ⟨_, Try.underlying99, rfl⟩
  info := by
    obtain ⟨i, h1, h2⟩ := Option.map_eq_some_iff.1 ti99
    simp only [Prod.mk.injEq] at h2
    exact ⟨i, h1, h2.1, h2.2.1, h2.2.2⟩
  zc := rfl
  zl := rfl
  z1 := fun h => by first | rfl | cases h
instance : FldI Try.prog 99 0 0 98 := ⟨⟨_, _, Try.underlying99, rfl, rfl, rfl⟩⟩
instance : StructI Try.prog 99 [(0, 0)] := ⟨⟨_, Try.underlying99, by kernel_rfl⟩⟩
instance : EqI Try.prog 30 [1, 1] := ⟨by kernel_rfl, ⟨_, Try.underlying30⟩, by kernel_rfl⟩
instance : EqI Try.prog 41 [1, 1] := ⟨by kernel_rfl, ⟨_, Try.underlying41⟩, by kernel_rfl⟩
instance : EqI Try.prog 56 [1, 1, 1, 1] := ⟨by kernel_rfl, ⟨_, Try.underlying56⟩, by kernel_rfl⟩
instance : MapI Try.prog 28 3 3 := ⟨Try.underlying28⟩
end Go.Proofs.Ytppficphaidoaaa
