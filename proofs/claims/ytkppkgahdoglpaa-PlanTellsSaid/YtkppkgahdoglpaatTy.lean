/- The type facts of this translation, by program (wip/dm/types.py). -/
import Derived.KernelRfl
import Derived.Test.YtkppkgahdoglpaaProg
import Derived.Test.YtkppkgahdoglpaatbMake
import Derived.Test.YtkppkgahdoglpaatbPu
namespace Go.Proofs.Ytkppkgahdoglpaa
open Go.RowKit
theorem ti3 : (Try.prog.info? 3).map (fun i => (i.size, i.bytes, i.zero)) = some (1, 8, some (zval false [.int .i64 0])) := by kernel_rfl
instance tyI3 : TyI Try.prog 3 false 1 8 [.int .i64 0] where
  desc := ⟨_, Try.underlying3, rfl⟩
  info := by
    obtain ⟨i, h1, h2⟩ := Option.map_eq_some_iff.1 ti3
    simp only [Prod.mk.injEq] at h2
    exact ⟨i, h1, h2.1, h2.2.1, h2.2.2⟩
  zc := rfl
  zl := rfl
  z1 := fun h => by first | rfl | cases h
instance : IntI Try.prog 3 .i64 := ⟨Try.underlying3⟩
theorem ti4 : (Try.prog.info? 4).map (fun i => (i.size, i.bytes, i.zero)) = some (1, 1, some (zval false [.bool false])) := by kernel_rfl
instance tyI4 : TyI Try.prog 4 false 1 1 [.bool false] where
  desc := ⟨_, Try.underlying4, rfl⟩
  info := by
    obtain ⟨i, h1, h2⟩ := Option.map_eq_some_iff.1 ti4
    simp only [Prod.mk.injEq] at h2
    exact ⟨i, h1, h2.1, h2.2.1, h2.2.2⟩
  zc := rfl
  zl := rfl
  z1 := fun h => by first | rfl | cases h
theorem ti5 : (Try.prog.info? 5).map (fun i => (i.size, i.bytes, i.zero)) = some (1, 1, some (zval false [.int .u8 0])) := by kernel_rfl
instance tyI5 : TyI Try.prog 5 false 1 1 [.int .u8 0] where
  desc := ⟨_, Try.underlying5, rfl⟩
  info := by
    obtain ⟨i, h1, h2⟩ := Option.map_eq_some_iff.1 ti5
    simp only [Prod.mk.injEq] at h2
    exact ⟨i, h1, h2.1, h2.2.1, h2.2.2⟩
  zc := rfl
  zl := rfl
  z1 := fun h => by first | rfl | cases h
instance : IntI Try.prog 5 .u8 := ⟨Try.underlying5⟩
theorem ti9 : (Try.prog.info? 9).map (fun i => (i.size, i.bytes, i.zero)) = some (1, 16, some (zval false [.str []])) := by kernel_rfl
instance tyI9 : TyI Try.prog 9 false 1 16 [.str []] where
  desc := ⟨_, Try.underlying9, rfl⟩
  info := by
    obtain ⟨i, h1, h2⟩ := Option.map_eq_some_iff.1 ti9
    simp only [Prod.mk.injEq] at h2
    exact ⟨i, h1, h2.1, h2.2.1, h2.2.2⟩
  zc := rfl
  zl := rfl
  z1 := fun h => by first | rfl | cases h
instance : StrI Try.prog 9 := ⟨Try.underlying9⟩
theorem ti22 : (Try.prog.info? 22).map (fun i => (i.size, i.bytes, i.zero)) = some (1, 24, some (zval false [.slice []])) := by kernel_rfl
instance tyI22 : TyI Try.prog 22 false 1 24 [.slice []] where
  desc := ⟨_, Try.underlying22, rfl⟩
  info := by
    obtain ⟨i, h1, h2⟩ := Option.map_eq_some_iff.1 ti22
    simp only [Prod.mk.injEq] at h2
    exact ⟨i, h1, h2.1, h2.2.1, h2.2.2⟩
  zc := rfl
  zl := rfl
  z1 := fun h => by first | rfl | cases h
instance : SlcI Try.prog 22 40 := ⟨Try.underlying22⟩
theorem ti23 : (Try.prog.info? 23).map (fun i => (i.size, i.bytes, i.zero)) = some (1, 24, some (zval false [.slice []])) := by kernel_rfl
instance tyI23 : TyI Try.prog 23 false 1 24 [.slice []] where
  desc := ⟨_, Try.underlying23, rfl⟩
  info := by
    obtain ⟨i, h1, h2⟩ := Option.map_eq_some_iff.1 ti23
    simp only [Prod.mk.injEq] at h2
    exact ⟨i, h1, h2.1, h2.2.1, h2.2.2⟩
  zc := rfl
  zl := rfl
  z1 := fun h => by first | rfl | cases h
instance : SlcI Try.prog 23 46 := ⟨Try.underlying23⟩
theorem ti25 : (Try.prog.info? 25).map (fun i => (i.size, i.bytes, i.zero)) = some (2, 48, some (zval true [.slice [], .slice []])) := by kernel_rfl
instance tyI25 : TyI Try.prog 25 true 2 48 [.slice [], .slice []] where
  desc := ⟨_, Try.underlying25, rfl⟩
  info := by
    obtain ⟨i, h1, h2⟩ := Option.map_eq_some_iff.1 ti25
    simp only [Prod.mk.injEq] at h2
    exact ⟨i, h1, h2.1, h2.2.1, h2.2.2⟩
  zc := rfl
  zl := rfl
  z1 := fun h => by first | rfl | cases h
instance : FldI Try.prog 25 0 0 22 := ⟨⟨_, _, Try.underlying25, rfl, rfl, rfl⟩⟩
instance : FldI Try.prog 25 1 1 23 := ⟨⟨_, _, Try.underlying25, rfl, rfl, rfl⟩⟩
theorem ti26 : (Try.prog.info? 26).map (fun i => (i.size, i.bytes, i.zero)) = some (1, 8, some (zval false [.int .i64 0])) := by kernel_rfl
instance tyI26 : TyI Try.prog 26 false 1 8 [.int .i64 0] where
  desc := ⟨_, Try.underlying26, rfl⟩
  info := by
    obtain ⟨i, h1, h2⟩ := Option.map_eq_some_iff.1 ti26
    simp only [Prod.mk.injEq] at h2
    exact ⟨i, h1, h2.1, h2.2.1, h2.2.2⟩
  zc := rfl
  zl := rfl
  z1 := fun h => by first | rfl | cases h
theorem ti28 : (Try.prog.info? 28).map (fun i => (i.size, i.bytes, i.zero)) = some (2, 16, some (zval true [.int .i64 0, .int .i64 0])) := by kernel_rfl
instance tyI28 : TyI Try.prog 28 true 2 16 [.int .i64 0, .int .i64 0] where
  desc := ⟨_, Try.underlying28, rfl⟩
  info := by
    obtain ⟨i, h1, h2⟩ := Option.map_eq_some_iff.1 ti28
    simp only [Prod.mk.injEq] at h2
    exact ⟨i, h1, h2.1, h2.2.1, h2.2.2⟩
  zc := rfl
  zl := rfl
  z1 := fun h => by first | rfl | cases h
instance : FldI Try.prog 28 0 0 26 := ⟨⟨_, _, Try.underlying28, rfl, rfl, rfl⟩⟩
instance : StructI Try.prog 28 [(0, 1), (1, 1)] := ⟨⟨_, Try.underlying28, by kernel_rfl⟩⟩
instance : SlcI Try.prog 30 50 := ⟨Try.underlying30⟩
theorem ti34 : (Try.prog.info? 34).map (fun i => (i.size, i.bytes, i.zero)) = some (1, 8, some (zval false [.int .u64 0])) := by kernel_rfl
instance tyI34 : TyI Try.prog 34 false 1 8 [.int .u64 0] where
  desc := ⟨_, Try.underlying34, rfl⟩
  info := by
    obtain ⟨i, h1, h2⟩ := Option.map_eq_some_iff.1 ti34
    simp only [Prod.mk.injEq] at h2
    exact ⟨i, h1, h2.1, h2.2.1, h2.2.2⟩
  zc := rfl
  zl := rfl
  z1 := fun h => by first | rfl | cases h
instance : IntI Try.prog 34 .u64 := ⟨Try.underlying34⟩
theorem ti35 : (Try.prog.info? 35).map (fun i => (i.size, i.bytes, i.zero)) = some (1, 24, some (zval false [.slice []])) := by kernel_rfl
instance tyI35 : TyI Try.prog 35 false 1 24 [.slice []] where
  desc := ⟨_, Try.underlying35, rfl⟩
  info := by
    obtain ⟨i, h1, h2⟩ := Option.map_eq_some_iff.1 ti35
    simp only [Prod.mk.injEq] at h2
    exact ⟨i, h1, h2.1, h2.2.1, h2.2.2⟩
  zc := rfl
  zl := rfl
  z1 := fun h => by first | rfl | cases h
instance : SlcI Try.prog 35 3 := ⟨Try.underlying35⟩
theorem ti36 : (Try.prog.info? 36).map (fun i => (i.size, i.bytes, i.zero)) = some (1, 24, some (zval false [.slice []])) := by kernel_rfl
instance tyI36 : TyI Try.prog 36 false 1 24 [.slice []] where
  desc := ⟨_, Try.underlying36, rfl⟩
  info := by
    obtain ⟨i, h1, h2⟩ := Option.map_eq_some_iff.1 ti36
    simp only [Prod.mk.injEq] at h2
    exact ⟨i, h1, h2.1, h2.2.1, h2.2.2⟩
  zc := rfl
  zl := rfl
  z1 := fun h => by first | rfl | cases h
instance : SlcI Try.prog 36 109 := ⟨Try.underlying36⟩
theorem ti38 : (Try.prog.info? 38).map (fun i => (i.size, i.bytes, i.zero)) = some (3, 48, some (zval true [.str [], .int .i64 0, .slice []])) := by kernel_rfl
instance tyI38 : TyI Try.prog 38 true 3 48 [.str [], .int .i64 0, .slice []] where
  desc := ⟨_, Try.underlying38, rfl⟩
  info := by
    obtain ⟨i, h1, h2⟩ := Option.map_eq_some_iff.1 ti38
    simp only [Prod.mk.injEq] at h2
    exact ⟨i, h1, h2.1, h2.2.1, h2.2.2⟩
  zc := rfl
  zl := rfl
  z1 := fun h => by first | rfl | cases h
instance : FldI Try.prog 38 0 0 9 := ⟨⟨_, _, Try.underlying38, rfl, rfl, rfl⟩⟩
instance : FldI Try.prog 38 1 1 3 := ⟨⟨_, _, Try.underlying38, rfl, rfl, rfl⟩⟩
instance : FldI Try.prog 38 2 2 36 := ⟨⟨_, _, Try.underlying38, rfl, rfl, rfl⟩⟩
theorem ti40 : (Try.prog.info? 40).map (fun i => (i.size, i.bytes, i.zero)) = some (5, 80, some (zval true [.int .u64 0, .slice [], .str [], .int .i64 0, .slice []])) := by kernel_rfl
instance tyI40 : TyI Try.prog 40 true 5 80 [.int .u64 0, .slice [], .str [], .int .i64 0, .slice []] where
  desc := ⟨_, Try.underlying40, rfl⟩
  info := by
    obtain ⟨i, h1, h2⟩ := Option.map_eq_some_iff.1 ti40
    simp only [Prod.mk.injEq] at h2
    exact ⟨i, h1, h2.1, h2.2.1, h2.2.2⟩
  zc := rfl
  zl := rfl
  z1 := fun h => by first | rfl | cases h
instance : FldI Try.prog 40 0 0 34 := ⟨⟨_, _, Try.underlying40, rfl, rfl, rfl⟩⟩
instance : FldI Try.prog 40 1 1 35 := ⟨⟨_, _, Try.underlying40, rfl, rfl, rfl⟩⟩
instance : FldI Try.prog 40 2 2 38 := ⟨⟨_, _, Try.underlying40, rfl, rfl, rfl⟩⟩
theorem ti46 : (Try.prog.info? 46).map (fun i => (i.size, i.bytes, i.zero)) = some (6, 48, some (zval true [.int .i64 0, .int .i64 0, .int .i64 0, .int .i64 0, .int .i64 0, .bool false])) := by kernel_rfl
instance tyI46 : TyI Try.prog 46 true 6 48 [.int .i64 0, .int .i64 0, .int .i64 0, .int .i64 0, .int .i64 0, .bool false] where
  desc := ⟨_, Try.underlying46, rfl⟩
  info := by
    obtain ⟨i, h1, h2⟩ := Option.map_eq_some_iff.1 ti46
    simp only [Prod.mk.injEq] at h2
    exact ⟨i, h1, h2.1, h2.2.1, h2.2.2⟩
  zc := rfl
  zl := rfl
  z1 := fun h => by first | rfl | cases h
instance : FldI Try.prog 46 0 0 3 := ⟨⟨_, _, Try.underlying46, rfl, rfl, rfl⟩⟩
instance : FldI Try.prog 46 1 1 3 := ⟨⟨_, _, Try.underlying46, rfl, rfl, rfl⟩⟩
instance : FldI Try.prog 46 2 2 3 := ⟨⟨_, _, Try.underlying46, rfl, rfl, rfl⟩⟩
instance : FldI Try.prog 46 3 3 3 := ⟨⟨_, _, Try.underlying46, rfl, rfl, rfl⟩⟩
instance : FldI Try.prog 46 4 4 3 := ⟨⟨_, _, Try.underlying46, rfl, rfl, rfl⟩⟩
instance : FldI Try.prog 46 5 5 4 := ⟨⟨_, _, Try.underlying46, rfl, rfl, rfl⟩⟩
theorem ti48 : (Try.prog.info? 48).map (fun i => (i.size, i.bytes, i.zero)) = some (4, 32, some (zval true [.int .u64 0, .int .i64 0, .int .u64 0, .int .i64 0])) := by kernel_rfl
instance tyI48 : TyI Try.prog 48 true 4 32 [.int .u64 0, .int .i64 0, .int .u64 0, .int .i64 0] where
  desc := ⟨_, Try.underlying48, rfl⟩
  info := by
    obtain ⟨i, h1, h2⟩ := Option.map_eq_some_iff.1 ti48
    simp only [Prod.mk.injEq] at h2
    exact ⟨i, h1, h2.1, h2.2.1, h2.2.2⟩
  zc := rfl
  zl := rfl
  z1 := fun h => by first | rfl | cases h
instance : FldI Try.prog 48 0 0 34 := ⟨⟨_, _, Try.underlying48, rfl, rfl, rfl⟩⟩
instance : FldI Try.prog 48 1 1 3 := ⟨⟨_, _, Try.underlying48, rfl, rfl, rfl⟩⟩
instance : FldI Try.prog 48 2 2 34 := ⟨⟨_, _, Try.underlying48, rfl, rfl, rfl⟩⟩
instance : FldI Try.prog 48 3 3 3 := ⟨⟨_, _, Try.underlying48, rfl, rfl, rfl⟩⟩
instance : StructI Try.prog 48 [(0, 1), (1, 1), (2, 1), (3, 1)] := ⟨⟨_, Try.underlying48, by kernel_rfl⟩⟩
theorem ti50 : (Try.prog.info? 50).map (fun i => (i.size, i.bytes, i.zero)) = some (7, 88, some (zval true [.int .u64 0, .int .i64 0, .int .u64 0, .int .i64 0, .int .i64 0, .slice [], .slice []])) := by kernel_rfl
instance tyI50 : TyI Try.prog 50 true 7 88 [.int .u64 0, .int .i64 0, .int .u64 0, .int .i64 0, .int .i64 0, .slice [], .slice []] where
  desc := ⟨_, Try.underlying50, rfl⟩
  info := by
    obtain ⟨i, h1, h2⟩ := Option.map_eq_some_iff.1 ti50
    simp only [Prod.mk.injEq] at h2
    exact ⟨i, h1, h2.1, h2.2.1, h2.2.2⟩
  zc := rfl
  zl := rfl
  z1 := fun h => by first | rfl | cases h
instance : FldI Try.prog 50 0 0 48 := ⟨⟨_, _, Try.underlying50, rfl, rfl, rfl⟩⟩
instance : FldI Try.prog 50 1 4 3 := ⟨⟨_, _, Try.underlying50, rfl, rfl, rfl⟩⟩
instance : FldI Try.prog 50 2 5 35 := ⟨⟨_, _, Try.underlying50, rfl, rfl, rfl⟩⟩
instance : FldI Try.prog 50 3 6 35 := ⟨⟨_, _, Try.underlying50, rfl, rfl, rfl⟩⟩
instance : StructI Try.prog 50 [(0, 4), (4, 1), (5, 1), (6, 1)] := ⟨⟨_, Try.underlying50, by kernel_rfl⟩⟩
theorem ti55 : (Try.prog.info? 55).map (fun i => (i.size, i.bytes, i.zero)) = some (2, 16, some (zval true [.int .i64 0, .int .i64 0])) := by kernel_rfl
instance tyI55 : TyI Try.prog 55 true 2 16 [.int .i64 0, .int .i64 0] where
  desc := ⟨_, Try.underlying55, rfl⟩
  info := by
    obtain ⟨i, h1, h2⟩ := Option.map_eq_some_iff.1 ti55
    simp only [Prod.mk.injEq] at h2
    exact ⟨i, h1, h2.1, h2.2.1, h2.2.2⟩
  zc := rfl
  zl := rfl
  z1 := fun h => by first | rfl | cases h
instance : StructI Try.prog 55 [(0, 1), (1, 1)] := ⟨⟨_, Try.underlying55, by kernel_rfl⟩⟩
theorem ti64 : (Try.prog.info? 64).map (fun i => (i.size, i.bytes, i.zero)) = some (1, 24, some (zval false [.slice []])) := by kernel_rfl
instance tyI64 : TyI Try.prog 64 false 1 24 [.slice []] where
  desc := ⟨_, Try.underlying64, rfl⟩
  info := by
    obtain ⟨i, h1, h2⟩ := Option.map_eq_some_iff.1 ti64
    simp only [Prod.mk.injEq] at h2
    exact ⟨i, h1, h2.1, h2.2.1, h2.2.2⟩
  zc := rfl
  zl := rfl
  z1 := fun h => by first | rfl | cases h
instance : SlcI Try.prog 64 48 := ⟨Try.underlying64⟩
instance : SlcI Try.prog 77 55 := ⟨Try.underlying77⟩
instance : SlcI Try.prog 80 88 := ⟨Try.underlying80⟩
instance : SlcI Try.prog 82 100 := ⟨Try.underlying82⟩
theorem ti86 : (Try.prog.info? 86).map (fun i => (i.size, i.bytes, i.zero)) = some (1, 24, some (zval false [.slice []])) := by kernel_rfl
instance tyI86 : TyI Try.prog 86 false 1 24 [.slice []] where
  desc := ⟨_, Try.underlying86, rfl⟩
  info := by
    obtain ⟨i, h1, h2⟩ := Option.map_eq_some_iff.1 ti86
    simp only [Prod.mk.injEq] at h2
    exact ⟨i, h1, h2.1, h2.2.1, h2.2.2⟩
  zc := rfl
  zl := rfl
  z1 := fun h => by first | rfl | cases h
instance : SlcI Try.prog 86 93 := ⟨Try.underlying86⟩
theorem ti88 : (Try.prog.info? 88).map (fun i => (i.size, i.bytes, i.zero)) = some (1, 24, some (zval false [.slice []])) := by kernel_rfl
instance tyI88 : TyI Try.prog 88 false 1 24 [.slice []] where
  desc := ⟨_, Try.underlying88, rfl⟩
  info := by
    obtain ⟨i, h1, h2⟩ := Option.map_eq_some_iff.1 ti88
    simp only [Prod.mk.injEq] at h2
    exact ⟨i, h1, h2.1, h2.2.1, h2.2.2⟩
  zc := rfl
  zl := rfl
  z1 := fun h => by first | rfl | cases h
instance : SlcI Try.prog 88 111 := ⟨Try.underlying88⟩
theorem ti93 : (Try.prog.info? 93).map (fun i => (i.size, i.bytes, i.zero)) = some (7, 56, some (zval true [.int .i64 0, .int .i64 0, .int .i64 0, .int .u64 0, .int .i64 0, .int .u64 0, .int .i64 0])) := by kernel_rfl
instance tyI93 : TyI Try.prog 93 true 7 56 [.int .i64 0, .int .i64 0, .int .i64 0, .int .u64 0, .int .i64 0, .int .u64 0, .int .i64 0] where
  desc := ⟨_, Try.underlying93, rfl⟩
  info := by
    obtain ⟨i, h1, h2⟩ := Option.map_eq_some_iff.1 ti93
    simp only [Prod.mk.injEq] at h2
    exact ⟨i, h1, h2.1, h2.2.1, h2.2.2⟩
  zc := rfl
  zl := rfl
  z1 := fun h => by first | rfl | cases h
instance : FldI Try.prog 93 0 0 3 := ⟨⟨_, _, Try.underlying93, rfl, rfl, rfl⟩⟩
instance : FldI Try.prog 93 1 1 3 := ⟨⟨_, _, Try.underlying93, rfl, rfl, rfl⟩⟩
instance : FldI Try.prog 93 2 2 3 := ⟨⟨_, _, Try.underlying93, rfl, rfl, rfl⟩⟩
instance : FldI Try.prog 93 3 3 48 := ⟨⟨_, _, Try.underlying93, rfl, rfl, rfl⟩⟩
instance : StructI Try.prog 93 [(0, 1), (1, 1), (2, 1), (3, 4)] := ⟨⟨_, Try.underlying93, by kernel_rfl⟩⟩
instance : IntI Try.prog 98 .u64 := ⟨Try.underlying98⟩
theorem ti100 : (Try.prog.info? 100).map (fun i => (i.size, i.bytes, i.zero)) = some (1, 24, some (zval false [.slice []])) := by kernel_rfl
instance tyI100 : TyI Try.prog 100 false 1 24 [.slice []] where
  desc := ⟨_, Try.underlying100, rfl⟩
  info := by
    obtain ⟨i, h1, h2⟩ := Option.map_eq_some_iff.1 ti100
    simp only [Prod.mk.injEq] at h2
    exact ⟨i, h1, h2.1, h2.2.1, h2.2.2⟩
  zc := rfl
  zl := rfl
  z1 := fun h => by first | rfl | cases h
instance : SlcI Try.prog 100 5 := ⟨Try.underlying100⟩
theorem ti109 : (Try.prog.info? 109).map (fun i => (i.size, i.bytes, i.zero)) = some (2, 16, some (zval true [.int .i64 0, .int .i64 0])) := by kernel_rfl
instance tyI109 : TyI Try.prog 109 true 2 16 [.int .i64 0, .int .i64 0] where
  desc := ⟨_, Try.underlying109, rfl⟩
  info := by
    obtain ⟨i, h1, h2⟩ := Option.map_eq_some_iff.1 ti109
    simp only [Prod.mk.injEq] at h2
    exact ⟨i, h1, h2.1, h2.2.1, h2.2.2⟩
  zc := rfl
  zl := rfl
  z1 := fun h => by first | rfl | cases h
instance : FldI Try.prog 109 0 0 3 := ⟨⟨_, _, Try.underlying109, rfl, rfl, rfl⟩⟩
instance : FldI Try.prog 109 1 1 3 := ⟨⟨_, _, Try.underlying109, rfl, rfl, rfl⟩⟩
theorem ti111 : (Try.prog.info? 111).map (fun i => (i.size, i.bytes, i.zero)) = some (4, 32, some (zval true [.int .i64 0, .int .i64 0, .int .i64 0, .int .i64 0])) := by kernel_rfl
instance tyI111 : TyI Try.prog 111 true 4 32 [.int .i64 0, .int .i64 0, .int .i64 0, .int .i64 0] where
  desc := ⟨_, Try.underlying111, rfl⟩
  info := by
    obtain ⟨i, h1, h2⟩ := Option.map_eq_some_iff.1 ti111
    simp only [Prod.mk.injEq] at h2
    exact ⟨i, h1, h2.1, h2.2.1, h2.2.2⟩
  zc := rfl
  zl := rfl
  z1 := fun h => by first | rfl | cases h
instance : FldI Try.prog 111 0 0 3 := ⟨⟨_, _, Try.underlying111, rfl, rfl, rfl⟩⟩
instance : FldI Try.prog 111 1 1 3 := ⟨⟨_, _, Try.underlying111, rfl, rfl, rfl⟩⟩
instance : FldI Try.prog 111 2 2 3 := ⟨⟨_, _, Try.underlying111, rfl, rfl, rfl⟩⟩
instance : FldI Try.prog 111 3 3 3 := ⟨⟨_, _, Try.underlying111, rfl, rfl, rfl⟩⟩
instance : StructI Try.prog 111 [(0, 1), (1, 1), (2, 1), (3, 1)] := ⟨⟨_, Try.underlying111, by kernel_rfl⟩⟩
theorem ti139 : (Try.prog.info? 139).map (fun i => (i.size, i.bytes, i.zero)) = some (1, 4, some (zval false [.int .u32 0])) := by kernel_rfl
instance tyI139 : TyI Try.prog 139 false 1 4 [.int .u32 0] where
  desc := ⟨_, Try.underlying139, rfl⟩
  info := by
    obtain ⟨i, h1, h2⟩ := Option.map_eq_some_iff.1 ti139
    simp only [Prod.mk.injEq] at h2
    exact ⟨i, h1, h2.1, h2.2.1, h2.2.2⟩
  zc := rfl
  zl := rfl
  z1 := fun h => by first | rfl | cases h
instance : IntI Try.prog 139 .u32 := ⟨Try.underlying139⟩
instance : SlcI Try.prog 157 139 := ⟨Try.underlying157⟩
theorem ti165 : (Try.prog.info? 165).map (fun i => (i.size, i.bytes, i.zero)) = some (4, 16, some (zval true [.int .u32 0, .int .u32 0, .int .u32 0, .int .u32 0])) := by kernel_rfl
instance tyI165 : TyI Try.prog 165 true 4 16 [.int .u32 0, .int .u32 0, .int .u32 0, .int .u32 0] where
  desc := ⟨_, Try.underlying165, rfl⟩
  info := by
    obtain ⟨i, h1, h2⟩ := Option.map_eq_some_iff.1 ti165
    simp only [Prod.mk.injEq] at h2
    exact ⟨i, h1, h2.1, h2.2.1, h2.2.2⟩
  zc := rfl
  zl := rfl
  z1 := fun h => by first | rfl | cases h
instance : ArrI Try.prog 165 4 139 := ⟨Try.underlying165⟩
theorem ti169 : (Try.prog.info? 169).map (fun i => (i.size, i.bytes, i.zero)) = some (16, 64, some (zval true [.int .u32 0, .int .u32 0, .int .u32 0, .int .u32 0, .int .u32 0, .int .u32 0, .int .u32 0, .int .u32 0, .int .u32 0, .int .u32 0, .int .u32 0, .int .u32 0, .int .u32 0, .int .u32 0, .int .u32 0, .int .u32 0])) := by kernel_rfl
instance tyI169 : TyI Try.prog 169 true 16 64 [.int .u32 0, .int .u32 0, .int .u32 0, .int .u32 0, .int .u32 0, .int .u32 0, .int .u32 0, .int .u32 0, .int .u32 0, .int .u32 0, .int .u32 0, .int .u32 0, .int .u32 0, .int .u32 0, .int .u32 0, .int .u32 0] where
  desc := ⟨_, Try.underlying169, rfl⟩
  info := by
    obtain ⟨i, h1, h2⟩ := Option.map_eq_some_iff.1 ti169
    simp only [Prod.mk.injEq] at h2
    exact ⟨i, h1, h2.1, h2.2.1, h2.2.2⟩
  zc := rfl
  zl := rfl
  z1 := fun h => by first | rfl | cases h
instance : ArrI Try.prog 169 16 139 := ⟨Try.underlying169⟩
theorem ti170 : (Try.prog.info? 170).map (fun i => (i.size, i.bytes, i.zero)) = some (64, 256, some (zval true [.int .u32 0, .int .u32 0, .int .u32 0, .int .u32 0, .int .u32 0, .int .u32 0, .int .u32 0, .int .u32 0, .int .u32 0, .int .u32 0, .int .u32 0, .int .u32 0, .int .u32 0, .int .u32 0, .int .u32 0, .int .u32 0, .int .u32 0, .int .u32 0, .int .u32 0, .int .u32 0, .int .u32 0, .int .u32 0, .int .u32 0, .int .u32 0, .int .u32 0, .int .u32 0, .int .u32 0, .int .u32 0, .int .u32 0, .int .u32 0, .int .u32 0, .int .u32 0, .int .u32 0, .int .u32 0, .int .u32 0, .int .u32 0, .int .u32 0, .int .u32 0, .int .u32 0, .int .u32 0, .int .u32 0, .int .u32 0, .int .u32 0, .int .u32 0, .int .u32 0, .int .u32 0, .int .u32 0, .int .u32 0, .int .u32 0, .int .u32 0, .int .u32 0, .int .u32 0, .int .u32 0, .int .u32 0, .int .u32 0, .int .u32 0, .int .u32 0, .int .u32 0, .int .u32 0, .int .u32 0, .int .u32 0, .int .u32 0, .int .u32 0, .int .u32 0])) := by kernel_rfl
instance tyI170 : TyI Try.prog 170 true 64 256 [.int .u32 0, .int .u32 0, .int .u32 0, .int .u32 0, .int .u32 0, .int .u32 0, .int .u32 0, .int .u32 0, .int .u32 0, .int .u32 0, .int .u32 0, .int .u32 0, .int .u32 0, .int .u32 0, .int .u32 0, .int .u32 0, .int .u32 0, .int .u32 0, .int .u32 0, .int .u32 0, .int .u32 0, .int .u32 0, .int .u32 0, .int .u32 0, .int .u32 0, .int .u32 0, .int .u32 0, .int .u32 0, .int .u32 0, .int .u32 0, .int .u32 0, .int .u32 0, .int .u32 0, .int .u32 0, .int .u32 0, .int .u32 0, .int .u32 0, .int .u32 0, .int .u32 0, .int .u32 0, .int .u32 0, .int .u32 0, .int .u32 0, .int .u32 0, .int .u32 0, .int .u32 0, .int .u32 0, .int .u32 0, .int .u32 0, .int .u32 0, .int .u32 0, .int .u32 0, .int .u32 0, .int .u32 0, .int .u32 0, .int .u32 0, .int .u32 0, .int .u32 0, .int .u32 0, .int .u32 0, .int .u32 0, .int .u32 0, .int .u32 0, .int .u32 0] where
  desc := ⟨_, Try.underlying170, rfl⟩
  info := by
    obtain ⟨i, h1, h2⟩ := Option.map_eq_some_iff.1 ti170
    simp only [Prod.mk.injEq] at h2
    exact ⟨i, h1, h2.1, h2.2.1, h2.2.2⟩
  zc := rfl
  zl := rfl
  z1 := fun h => by first | rfl | cases h
instance : ArrI Try.prog 170 64 139 := ⟨Try.underlying170⟩
theorem ti172 : (Try.prog.info? 172).map (fun i => (i.size, i.bytes, i.zero)) = some (16, 128, some (zval true [.int .i64 0, .int .i64 0, .int .i64 0, .int .i64 0, .int .i64 0, .int .i64 0, .int .i64 0, .int .i64 0, .int .i64 0, .int .i64 0, .int .i64 0, .int .i64 0, .int .i64 0, .int .i64 0, .int .i64 0, .int .i64 0])) := by kernel_rfl
instance tyI172 : TyI Try.prog 172 true 16 128 [.int .i64 0, .int .i64 0, .int .i64 0, .int .i64 0, .int .i64 0, .int .i64 0, .int .i64 0, .int .i64 0, .int .i64 0, .int .i64 0, .int .i64 0, .int .i64 0, .int .i64 0, .int .i64 0, .int .i64 0, .int .i64 0] where
  desc := ⟨_, Try.underlying172, rfl⟩
  info := by
    obtain ⟨i, h1, h2⟩ := Option.map_eq_some_iff.1 ti172
    simp only [Prod.mk.injEq] at h2
    exact ⟨i, h1, h2.1, h2.2.1, h2.2.2⟩
  zc := rfl
  zl := rfl
  z1 := fun h => by first | rfl | cases h
instance : ArrI Try.prog 172 16 3 := ⟨Try.underlying172⟩
instance : EqI Try.prog 28 [1, 1] := ⟨by kernel_rfl, ⟨_, Try.underlying28⟩, by kernel_rfl⟩
instance : EqI Try.prog 48 [1, 1, 1, 1] := ⟨by kernel_rfl, ⟨_, Try.underlying48⟩, by kernel_rfl⟩
instance : EqI Try.prog 55 [1, 1] := ⟨by kernel_rfl, ⟨_, Try.underlying55⟩, by kernel_rfl⟩
end Go.Proofs.Ytkppkgahdoglpaa
