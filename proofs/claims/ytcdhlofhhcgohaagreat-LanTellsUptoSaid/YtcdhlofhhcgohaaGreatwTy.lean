/- The type facts of this translation, by program (wip/dm/types.py). -/
import Derived.KernelRfl
import Derived.Test.YtcdhlofhhcgohaaGreatProg
import Derived.Test.YtcdhlofhhcgohaaGreatwbEq
import Derived.Test.YtcdhlofhhcgohaaGreatwbMake
namespace Go.Proofs.YtcdhlofhhcgohaaGreat
open Go.RowKit
theorem ti3 : (Tryz.prog.info? 3).map (fun i=>(i.size,i.bytes,i.zero))=some (1,8,some (zval false [.int .i64 0])):=by kernel_rfl
instance tyI3 : TyI Tryz.prog 3 false 1 8 [.int .i64 0] where
 desc:=⟨_,Tryz.underlying3,rfl⟩
 info:=by
  obtain⟨i,h1,h2⟩:=Option.map_eq_some_iff.1 ti3
  simp only[Prod.mk.injEq]at h2
  exact⟨i,h1,h2.1,h2.2.1,h2.2.2⟩
 zc:=rfl
 zl:=rfl
 z1:=fun h=>by first|rfl|cases h
instance : IntI Tryz.prog 3 .i64:=⟨Tryz.underlying3⟩
theorem ti4 : (Tryz.prog.info? 4).map (fun i=>(i.size,i.bytes,i.zero))=some (1,1,some (zval false [.bool false])):=by kernel_rfl
instance tyI4 : TyI Tryz.prog 4 false 1 1 [.bool false] where
 desc:=⟨_,Tryz.underlying4,rfl⟩
 info:=by
  obtain⟨i,h1,h2⟩:=Option.map_eq_some_iff.1 ti4
  simp only[Prod.mk.injEq]at h2
  exact⟨i,h1,h2.1,h2.2.1,h2.2.2⟩
 zc:=rfl
 zl:=rfl
 z1:=fun h=>by first|rfl|cases h
instance : BoolI Tryz.prog 4:=⟨Tryz.underlying4⟩
theorem ti5 : (Tryz.prog.info? 5).map (fun i=>(i.size,i.bytes,i.zero))=some (1,1,some (zval false [.int .u8 0])):=by kernel_rfl
instance tyI5 : TyI Tryz.prog 5 false 1 1 [.int .u8 0] where
 desc:=⟨_,Tryz.underlying5,rfl⟩
 info:=by
  obtain⟨i,h1,h2⟩:=Option.map_eq_some_iff.1 ti5
  simp only[Prod.mk.injEq]at h2
  exact⟨i,h1,h2.1,h2.2.1,h2.2.2⟩
 zc:=rfl
 zl:=rfl
 z1:=fun h=>by first|rfl|cases h
instance : IntI Tryz.prog 5 .u8:=⟨Tryz.underlying5⟩
theorem ti9 : (Tryz.prog.info? 9).map (fun i=>(i.size,i.bytes,i.zero))=some (1,16,some (zval false [.str []])):=by kernel_rfl
instance tyI9 : TyI Tryz.prog 9 false 1 16 [.str []] where
 desc:=⟨_,Tryz.underlying9,rfl⟩
 info:=by
  obtain⟨i,h1,h2⟩:=Option.map_eq_some_iff.1 ti9
  simp only[Prod.mk.injEq]at h2
  exact⟨i,h1,h2.1,h2.2.1,h2.2.2⟩
 zc:=rfl
 zl:=rfl
 z1:=fun h=>by first|rfl|cases h
instance : StrI Tryz.prog 9:=⟨Tryz.underlying9⟩
theorem ti22 : (Tryz.prog.info? 22).map (fun i=>(i.size,i.bytes,i.zero))=some (1,24,some (zval false [.slice []])):=by kernel_rfl
instance tyI22 : TyI Tryz.prog 22 false 1 24 [.slice []] where
 desc:=⟨_,Tryz.underlying22,rfl⟩
 info:=by
  obtain⟨i,h1,h2⟩:=Option.map_eq_some_iff.1 ti22
  simp only[Prod.mk.injEq]at h2
  exact⟨i,h1,h2.1,h2.2.1,h2.2.2⟩
 zc:=rfl
 zl:=rfl
 z1:=fun h=>by first|rfl|cases h
instance : SlcI Tryz.prog 22 62:=⟨Tryz.underlying22⟩
theorem ti23 : (Tryz.prog.info? 23).map (fun i=>(i.size,i.bytes,i.zero))=some (1,24,some (zval false [.slice []])):=by kernel_rfl
instance tyI23 : TyI Tryz.prog 23 false 1 24 [.slice []] where
 desc:=⟨_,Tryz.underlying23,rfl⟩
 info:=by
  obtain⟨i,h1,h2⟩:=Option.map_eq_some_iff.1 ti23
  simp only[Prod.mk.injEq]at h2
  exact⟨i,h1,h2.1,h2.2.1,h2.2.2⟩
 zc:=rfl
 zl:=rfl
 z1:=fun h=>by first|rfl|cases h
instance : SlcI Tryz.prog 23 73:=⟨Tryz.underlying23⟩
theorem ti25 : (Tryz.prog.info? 25).map (fun i=>(i.size,i.bytes,i.zero))=some (2,48,some (zval true [.slice [],.slice []])):=by kernel_rfl
instance tyI25 : TyI Tryz.prog 25 true 2 48 [.slice [],.slice []] where
 desc:=⟨_,Tryz.underlying25,rfl⟩
 info:=by
  obtain⟨i,h1,h2⟩:=Option.map_eq_some_iff.1 ti25
  simp only[Prod.mk.injEq]at h2
  exact⟨i,h1,h2.1,h2.2.1,h2.2.2⟩
 zc:=rfl
 zl:=rfl
 z1:=fun h=>by first|rfl|cases h
instance : FldI Tryz.prog 25 0 0 22:=⟨⟨_,_,Tryz.underlying25,rfl,rfl,rfl⟩⟩
instance : FldI Tryz.prog 25 1 1 23:=⟨⟨_,_,Tryz.underlying25,rfl,rfl,rfl⟩⟩
instance : StructI Tryz.prog 25 [(0,1),(1,1)]:=⟨⟨_,Tryz.underlying25,by kernel_rfl⟩⟩
instance : SlcI Tryz.prog 26 68:=⟨Tryz.underlying26⟩
theorem ti27 : (Tryz.prog.info? 27).map (fun i=>(i.size,i.bytes,i.zero))=some (1,24,some (zval false [.slice []])):=by kernel_rfl
instance tyI27 : TyI Tryz.prog 27 false 1 24 [.slice []] where
 desc:=⟨_,Tryz.underlying27,rfl⟩
 info:=by
  obtain⟨i,h1,h2⟩:=Option.map_eq_some_iff.1 ti27
  simp only[Prod.mk.injEq]at h2
  exact⟨i,h1,h2.1,h2.2.1,h2.2.2⟩
 zc:=rfl
 zl:=rfl
 z1:=fun h=>by first|rfl|cases h
instance : SlcI Tryz.prog 27 75:=⟨Tryz.underlying27⟩
theorem ti29 : (Tryz.prog.info? 29).map (fun i=>(i.size,i.bytes,i.zero))=some (1,24,some (zval true [.slice []])):=by kernel_rfl
instance tyI29 : TyI Tryz.prog 29 true 1 24 [.slice []] where
 desc:=⟨_,Tryz.underlying29,rfl⟩
 info:=by
  obtain⟨i,h1,h2⟩:=Option.map_eq_some_iff.1 ti29
  simp only[Prod.mk.injEq]at h2
  exact⟨i,h1,h2.1,h2.2.1,h2.2.2⟩
 zc:=rfl
 zl:=rfl
 z1:=fun h=>by first|rfl|cases h
instance : FldI Tryz.prog 29 0 0 27:=⟨⟨_,_,Tryz.underlying29,rfl,rfl,rfl⟩⟩
instance : StructI Tryz.prog 29 [(0,1)]:=⟨⟨_,Tryz.underlying29,by kernel_rfl⟩⟩
theorem ti30 : (Tryz.prog.info? 30).map (fun i=>(i.size,i.bytes,i.zero))=some (1,8,some (zval false [.int .i64 0])):=by kernel_rfl
instance tyI30 : TyI Tryz.prog 30 false 1 8 [.int .i64 0] where
 desc:=⟨_,Tryz.underlying30,rfl⟩
 info:=by
  obtain⟨i,h1,h2⟩:=Option.map_eq_some_iff.1 ti30
  simp only[Prod.mk.injEq]at h2
  exact⟨i,h1,h2.1,h2.2.1,h2.2.2⟩
 zc:=rfl
 zl:=rfl
 z1:=fun h=>by first|rfl|cases h
theorem ti32 : (Tryz.prog.info? 32).map (fun i=>(i.size,i.bytes,i.zero))=some (2,16,some (zval true [.int .i64 0,.int .i64 0])):=by kernel_rfl
instance tyI32 : TyI Tryz.prog 32 true 2 16 [.int .i64 0,.int .i64 0] where
 desc:=⟨_,Tryz.underlying32,rfl⟩
 info:=by
  obtain⟨i,h1,h2⟩:=Option.map_eq_some_iff.1 ti32
  simp only[Prod.mk.injEq]at h2
  exact⟨i,h1,h2.1,h2.2.1,h2.2.2⟩
 zc:=rfl
 zl:=rfl
 z1:=fun h=>by first|rfl|cases h
instance : FldI Tryz.prog 32 0 0 30:=⟨⟨_,_,Tryz.underlying32,rfl,rfl,rfl⟩⟩
instance : FldI Tryz.prog 32 1 1 3:=⟨⟨_,_,Tryz.underlying32,rfl,rfl,rfl⟩⟩
instance : StructI Tryz.prog 32 [(0,1),(1,1)]:=⟨⟨_,Tryz.underlying32,by kernel_rfl⟩⟩
instance : SlcI Tryz.prog 42 65:=⟨Tryz.underlying42⟩
theorem ti43 : (Tryz.prog.info? 43).map (fun i=>(i.size,i.bytes,i.zero))=some (1,8,some (zval false [.int .u64 0])):=by kernel_rfl
instance tyI43 : TyI Tryz.prog 43 false 1 8 [.int .u64 0] where
 desc:=⟨_,Tryz.underlying43,rfl⟩
 info:=by
  obtain⟨i,h1,h2⟩:=Option.map_eq_some_iff.1 ti43
  simp only[Prod.mk.injEq]at h2
  exact⟨i,h1,h2.1,h2.2.1,h2.2.2⟩
 zc:=rfl
 zl:=rfl
 z1:=fun h=>by first|rfl|cases h
instance : IntI Tryz.prog 43 .u64:=⟨Tryz.underlying43⟩
theorem ti44 : (Tryz.prog.info? 44).map (fun i=>(i.size,i.bytes,i.zero))=some (1,24,some (zval false [.slice []])):=by kernel_rfl
instance tyI44 : TyI Tryz.prog 44 false 1 24 [.slice []] where
 desc:=⟨_,Tryz.underlying44,rfl⟩
 info:=by
  obtain⟨i,h1,h2⟩:=Option.map_eq_some_iff.1 ti44
  simp only[Prod.mk.injEq]at h2
  exact⟨i,h1,h2.1,h2.2.1,h2.2.2⟩
 zc:=rfl
 zl:=rfl
 z1:=fun h=>by first|rfl|cases h
instance : SlcI Tryz.prog 44 5:=⟨Tryz.underlying44⟩
theorem ti46 : (Tryz.prog.info? 46).map (fun i=>(i.size,i.bytes,i.zero))=some (8,80,some (zval true [.int .u64 0,.int .u64 0,.bool false,.int .i64 0,.bool false,.int .i64 0,.int .i64 0,.slice []])):=by kernel_rfl
instance tyI46 : TyI Tryz.prog 46 true 8 80 [.int .u64 0,.int .u64 0,.bool false,.int .i64 0,.bool false,.int .i64 0,.int .i64 0,.slice []] where
 desc:=⟨_,Tryz.underlying46,rfl⟩
 info:=by
  obtain⟨i,h1,h2⟩:=Option.map_eq_some_iff.1 ti46
  simp only[Prod.mk.injEq]at h2
  exact⟨i,h1,h2.1,h2.2.1,h2.2.2⟩
 zc:=rfl
 zl:=rfl
 z1:=fun h=>by first|rfl|cases h
instance : FldI Tryz.prog 46 0 0 43:=⟨⟨_,_,Tryz.underlying46,rfl,rfl,rfl⟩⟩
instance : FldI Tryz.prog 46 1 1 43:=⟨⟨_,_,Tryz.underlying46,rfl,rfl,rfl⟩⟩
instance : FldI Tryz.prog 46 2 2 4:=⟨⟨_,_,Tryz.underlying46,rfl,rfl,rfl⟩⟩
instance : FldI Tryz.prog 46 3 3 3:=⟨⟨_,_,Tryz.underlying46,rfl,rfl,rfl⟩⟩
instance : FldI Tryz.prog 46 4 4 4:=⟨⟨_,_,Tryz.underlying46,rfl,rfl,rfl⟩⟩
instance : FldI Tryz.prog 46 5 5 3:=⟨⟨_,_,Tryz.underlying46,rfl,rfl,rfl⟩⟩
instance : FldI Tryz.prog 46 6 6 3:=⟨⟨_,_,Tryz.underlying46,rfl,rfl,rfl⟩⟩
instance : FldI Tryz.prog 46 7 7 44:=⟨⟨_,_,Tryz.underlying46,rfl,rfl,rfl⟩⟩
instance : StructI Tryz.prog 46 [(0,1),(1,1),(2,1),(3,1),(4,1),(5,1),(6,1),(7,1)]:=⟨⟨_,Tryz.underlying46,by kernel_rfl⟩⟩
instance : SlcI Tryz.prog 47 55:=⟨Tryz.underlying47⟩
theorem ti55 : (Tryz.prog.info? 55).map (fun i=>(i.size,i.bytes,i.zero))=some (9,88,some (zval true [.int .i64 0,.int .u64 0,.int .u64 0,.bool false,.int .i64 0,.bool false,.int .i64 0,.int .i64 0,.slice []])):=by kernel_rfl
instance tyI55 : TyI Tryz.prog 55 true 9 88 [.int .i64 0,.int .u64 0,.int .u64 0,.bool false,.int .i64 0,.bool false,.int .i64 0,.int .i64 0,.slice []] where
 desc:=⟨_,Tryz.underlying55,rfl⟩
 info:=by
  obtain⟨i,h1,h2⟩:=Option.map_eq_some_iff.1 ti55
  simp only[Prod.mk.injEq]at h2
  exact⟨i,h1,h2.1,h2.2.1,h2.2.2⟩
 zc:=rfl
 zl:=rfl
 z1:=fun h=>by first|rfl|cases h
instance : FldI Tryz.prog 55 0 0 3:=⟨⟨_,_,Tryz.underlying55,rfl,rfl,rfl⟩⟩
instance : FldI Tryz.prog 55 1 1 46:=⟨⟨_,_,Tryz.underlying55,rfl,rfl,rfl⟩⟩
instance : StructI Tryz.prog 55 [(0,1),(1,8)]:=⟨⟨_,Tryz.underlying55,by kernel_rfl⟩⟩
theorem ti57 : (Tryz.prog.info? 57).map (fun i=>(i.size,i.bytes,i.zero))=some (1,24,some (zval false [.slice []])):=by kernel_rfl
instance tyI57 : TyI Tryz.prog 57 false 1 24 [.slice []] where
 desc:=⟨_,Tryz.underlying57,rfl⟩
 info:=by
  obtain⟨i,h1,h2⟩:=Option.map_eq_some_iff.1 ti57
  simp only[Prod.mk.injEq]at h2
  exact⟨i,h1,h2.1,h2.2.1,h2.2.2⟩
 zc:=rfl
 zl:=rfl
 z1:=fun h=>by first|rfl|cases h
instance : SlcI Tryz.prog 57 3:=⟨Tryz.underlying57⟩
theorem ti58 : (Tryz.prog.info? 58).map (fun i=>(i.size,i.bytes,i.zero))=some (1,24,some (zval false [.slice []])):=by kernel_rfl
instance tyI58 : TyI Tryz.prog 58 false 1 24 [.slice []] where
 desc:=⟨_,Tryz.underlying58,rfl⟩
 info:=by
  obtain⟨i,h1,h2⟩:=Option.map_eq_some_iff.1 ti58
  simp only[Prod.mk.injEq]at h2
  exact⟨i,h1,h2.1,h2.2.1,h2.2.2⟩
 zc:=rfl
 zl:=rfl
 z1:=fun h=>by first|rfl|cases h
instance : SlcI Tryz.prog 58 102:=⟨Tryz.underlying58⟩
theorem ti60 : (Tryz.prog.info? 60).map (fun i=>(i.size,i.bytes,i.zero))=some (3,48,some (zval true [.str [],.int .i64 0,.slice []])):=by kernel_rfl
instance tyI60 : TyI Tryz.prog 60 true 3 48 [.str [],.int .i64 0,.slice []] where
 desc:=⟨_,Tryz.underlying60,rfl⟩
 info:=by
  obtain⟨i,h1,h2⟩:=Option.map_eq_some_iff.1 ti60
  simp only[Prod.mk.injEq]at h2
  exact⟨i,h1,h2.1,h2.2.1,h2.2.2⟩
 zc:=rfl
 zl:=rfl
 z1:=fun h=>by first|rfl|cases h
instance : FldI Tryz.prog 60 0 0 9:=⟨⟨_,_,Tryz.underlying60,rfl,rfl,rfl⟩⟩
instance : FldI Tryz.prog 60 1 1 3:=⟨⟨_,_,Tryz.underlying60,rfl,rfl,rfl⟩⟩
instance : FldI Tryz.prog 60 2 2 58:=⟨⟨_,_,Tryz.underlying60,rfl,rfl,rfl⟩⟩
theorem ti62 : (Tryz.prog.info? 62).map (fun i=>(i.size,i.bytes,i.zero))=some (5,80,some (zval true [.int .u64 0,.slice [],.str [],.int .i64 0,.slice []])):=by kernel_rfl
instance tyI62 : TyI Tryz.prog 62 true 5 80 [.int .u64 0,.slice [],.str [],.int .i64 0,.slice []] where
 desc:=⟨_,Tryz.underlying62,rfl⟩
 info:=by
  obtain⟨i,h1,h2⟩:=Option.map_eq_some_iff.1 ti62
  simp only[Prod.mk.injEq]at h2
  exact⟨i,h1,h2.1,h2.2.1,h2.2.2⟩
 zc:=rfl
 zl:=rfl
 z1:=fun h=>by first|rfl|cases h
instance : FldI Tryz.prog 62 0 0 43:=⟨⟨_,_,Tryz.underlying62,rfl,rfl,rfl⟩⟩
instance : FldI Tryz.prog 62 1 1 57:=⟨⟨_,_,Tryz.underlying62,rfl,rfl,rfl⟩⟩
instance : FldI Tryz.prog 62 2 2 60:=⟨⟨_,_,Tryz.underlying62,rfl,rfl,rfl⟩⟩
theorem ti65 : (Tryz.prog.info? 65).map (fun i=>(i.size,i.bytes,i.zero))=some (1,24,some (zval false [.slice []])):=by kernel_rfl
instance tyI65 : TyI Tryz.prog 65 false 1 24 [.slice []] where
 desc:=⟨_,Tryz.underlying65,rfl⟩
 info:=by
  obtain⟨i,h1,h2⟩:=Option.map_eq_some_iff.1 ti65
  simp only[Prod.mk.injEq]at h2
  exact⟨i,h1,h2.1,h2.2.1,h2.2.2⟩
 zc:=rfl
 zl:=rfl
 z1:=fun h=>by first|rfl|cases h
instance : SlcI Tryz.prog 65 128:=⟨Tryz.underlying65⟩
theorem ti68 : (Tryz.prog.info? 68).map (fun i=>(i.size,i.bytes,i.zero))=some (4,32,some (zval true [.int .i64 0,.int .i64 0,.int .i64 0,.int .i64 0])):=by kernel_rfl
instance tyI68 : TyI Tryz.prog 68 true 4 32 [.int .i64 0,.int .i64 0,.int .i64 0,.int .i64 0] where
 desc:=⟨_,Tryz.underlying68,rfl⟩
 info:=by
  obtain⟨i,h1,h2⟩:=Option.map_eq_some_iff.1 ti68
  simp only[Prod.mk.injEq]at h2
  exact⟨i,h1,h2.1,h2.2.1,h2.2.2⟩
 zc:=rfl
 zl:=rfl
 z1:=fun h=>by first|rfl|cases h
instance : FldI Tryz.prog 68 0 0 3:=⟨⟨_,_,Tryz.underlying68,rfl,rfl,rfl⟩⟩
instance : FldI Tryz.prog 68 1 1 3:=⟨⟨_,_,Tryz.underlying68,rfl,rfl,rfl⟩⟩
instance : FldI Tryz.prog 68 2 2 3:=⟨⟨_,_,Tryz.underlying68,rfl,rfl,rfl⟩⟩
instance : FldI Tryz.prog 68 3 3 3:=⟨⟨_,_,Tryz.underlying68,rfl,rfl,rfl⟩⟩
theorem ti70 : (Tryz.prog.info? 70).map (fun i=>(i.size,i.bytes,i.zero))=some (1,24,some (zval false [.slice []])):=by kernel_rfl
instance tyI70 : TyI Tryz.prog 70 false 1 24 [.slice []] where
 desc:=⟨_,Tryz.underlying70,rfl⟩
 info:=by
  obtain⟨i,h1,h2⟩:=Option.map_eq_some_iff.1 ti70
  simp only[Prod.mk.injEq]at h2
  exact⟨i,h1,h2.1,h2.2.1,h2.2.2⟩
 zc:=rfl
 zl:=rfl
 z1:=fun h=>by first|rfl|cases h
instance : SlcI Tryz.prog 70 4:=⟨Tryz.underlying70⟩
theorem ti73 : (Tryz.prog.info? 73).map (fun i=>(i.size,i.bytes,i.zero))=some (6,48,some (zval true [.int .i64 0,.int .i64 0,.int .i64 0,.int .i64 0,.int .i64 0,.bool false])):=by kernel_rfl
instance tyI73 : TyI Tryz.prog 73 true 6 48 [.int .i64 0,.int .i64 0,.int .i64 0,.int .i64 0,.int .i64 0,.bool false] where
 desc:=⟨_,Tryz.underlying73,rfl⟩
 info:=by
  obtain⟨i,h1,h2⟩:=Option.map_eq_some_iff.1 ti73
  simp only[Prod.mk.injEq]at h2
  exact⟨i,h1,h2.1,h2.2.1,h2.2.2⟩
 zc:=rfl
 zl:=rfl
 z1:=fun h=>by first|rfl|cases h
instance : FldI Tryz.prog 73 0 0 3:=⟨⟨_,_,Tryz.underlying73,rfl,rfl,rfl⟩⟩
instance : FldI Tryz.prog 73 1 1 3:=⟨⟨_,_,Tryz.underlying73,rfl,rfl,rfl⟩⟩
instance : FldI Tryz.prog 73 2 2 3:=⟨⟨_,_,Tryz.underlying73,rfl,rfl,rfl⟩⟩
instance : FldI Tryz.prog 73 3 3 3:=⟨⟨_,_,Tryz.underlying73,rfl,rfl,rfl⟩⟩
instance : FldI Tryz.prog 73 4 4 3:=⟨⟨_,_,Tryz.underlying73,rfl,rfl,rfl⟩⟩
instance : FldI Tryz.prog 73 5 5 4:=⟨⟨_,_,Tryz.underlying73,rfl,rfl,rfl⟩⟩
theorem ti75 : (Tryz.prog.info? 75).map (fun i=>(i.size,i.bytes,i.zero))=some (1,24,some (zval false [.slice []])):=by kernel_rfl
instance tyI75 : TyI Tryz.prog 75 false 1 24 [.slice []] where
 desc:=⟨_,Tryz.underlying75,rfl⟩
 info:=by
  obtain⟨i,h1,h2⟩:=Option.map_eq_some_iff.1 ti75
  simp only[Prod.mk.injEq]at h2
  exact⟨i,h1,h2.1,h2.2.1,h2.2.2⟩
 zc:=rfl
 zl:=rfl
 z1:=fun h=>by first|rfl|cases h
instance : SlcI Tryz.prog 75 79:=⟨Tryz.underlying75⟩
theorem ti77 : (Tryz.prog.info? 77).map (fun i=>(i.size,i.bytes,i.zero))=some (4,32,some (zval true [.int .u64 0,.int .i64 0,.int .u64 0,.int .i64 0])):=by kernel_rfl
instance tyI77 : TyI Tryz.prog 77 true 4 32 [.int .u64 0,.int .i64 0,.int .u64 0,.int .i64 0] where
 desc:=⟨_,Tryz.underlying77,rfl⟩
 info:=by
  obtain⟨i,h1,h2⟩:=Option.map_eq_some_iff.1 ti77
  simp only[Prod.mk.injEq]at h2
  exact⟨i,h1,h2.1,h2.2.1,h2.2.2⟩
 zc:=rfl
 zl:=rfl
 z1:=fun h=>by first|rfl|cases h
instance : FldI Tryz.prog 77 0 0 43:=⟨⟨_,_,Tryz.underlying77,rfl,rfl,rfl⟩⟩
instance : FldI Tryz.prog 77 1 1 3:=⟨⟨_,_,Tryz.underlying77,rfl,rfl,rfl⟩⟩
instance : FldI Tryz.prog 77 2 2 43:=⟨⟨_,_,Tryz.underlying77,rfl,rfl,rfl⟩⟩
instance : FldI Tryz.prog 77 3 3 3:=⟨⟨_,_,Tryz.underlying77,rfl,rfl,rfl⟩⟩
instance : StructI Tryz.prog 77 [(0,1),(1,1),(2,1),(3,1)]:=⟨⟨_,Tryz.underlying77,by kernel_rfl⟩⟩
theorem ti79 : (Tryz.prog.info? 79).map (fun i=>(i.size,i.bytes,i.zero))=some (9,120,some (zval true [.int .u64 0,.int .i64 0,.int .u64 0,.int .i64 0,.int .i64 0,.int .i64 0,.slice [],.slice [],.slice []])):=by kernel_rfl
instance tyI79 : TyI Tryz.prog 79 true 9 120 [.int .u64 0,.int .i64 0,.int .u64 0,.int .i64 0,.int .i64 0,.int .i64 0,.slice [],.slice [],.slice []] where
 desc:=⟨_,Tryz.underlying79,rfl⟩
 info:=by
  obtain⟨i,h1,h2⟩:=Option.map_eq_some_iff.1 ti79
  simp only[Prod.mk.injEq]at h2
  exact⟨i,h1,h2.1,h2.2.1,h2.2.2⟩
 zc:=rfl
 zl:=rfl
 z1:=fun h=>by first|rfl|cases h
instance : FldI Tryz.prog 79 0 0 77:=⟨⟨_,_,Tryz.underlying79,rfl,rfl,rfl⟩⟩
instance : FldI Tryz.prog 79 1 4 3:=⟨⟨_,_,Tryz.underlying79,rfl,rfl,rfl⟩⟩
instance : FldI Tryz.prog 79 2 5 3:=⟨⟨_,_,Tryz.underlying79,rfl,rfl,rfl⟩⟩
instance : FldI Tryz.prog 79 3 6 57:=⟨⟨_,_,Tryz.underlying79,rfl,rfl,rfl⟩⟩
instance : FldI Tryz.prog 79 4 7 57:=⟨⟨_,_,Tryz.underlying79,rfl,rfl,rfl⟩⟩
instance : FldI Tryz.prog 79 5 8 57:=⟨⟨_,_,Tryz.underlying79,rfl,rfl,rfl⟩⟩
instance : StructI Tryz.prog 79 [(0,4),(4,1),(5,1),(6,1),(7,1),(8,1)]:=⟨⟨_,Tryz.underlying79,by kernel_rfl⟩⟩
theorem ti102 : (Tryz.prog.info? 102).map (fun i=>(i.size,i.bytes,i.zero))=some (2,16,some (zval true [.int .i64 0,.int .i64 0])):=by kernel_rfl
instance tyI102 : TyI Tryz.prog 102 true 2 16 [.int .i64 0,.int .i64 0] where
 desc:=⟨_,Tryz.underlying102,rfl⟩
 info:=by
  obtain⟨i,h1,h2⟩:=Option.map_eq_some_iff.1 ti102
  simp only[Prod.mk.injEq]at h2
  exact⟨i,h1,h2.1,h2.2.1,h2.2.2⟩
 zc:=rfl
 zl:=rfl
 z1:=fun h=>by first|rfl|cases h
instance : FldI Tryz.prog 102 0 0 3:=⟨⟨_,_,Tryz.underlying102,rfl,rfl,rfl⟩⟩
instance : FldI Tryz.prog 102 1 1 3:=⟨⟨_,_,Tryz.underlying102,rfl,rfl,rfl⟩⟩
instance : SlcI Tryz.prog 112 44:=⟨Tryz.underlying112⟩
instance : SlcI Tryz.prog 116 178:=⟨Tryz.underlying116⟩
theorem ti128 : (Tryz.prog.info? 128).map (fun i=>(i.size,i.bytes,i.zero))=some (4,32,some (zval true [.int .i64 0,.int .u64 0,.int .i64 0,.int .i64 0])):=by kernel_rfl
instance tyI128 : TyI Tryz.prog 128 true 4 32 [.int .i64 0,.int .u64 0,.int .i64 0,.int .i64 0] where
 desc:=⟨_,Tryz.underlying128,rfl⟩
 info:=by
  obtain⟨i,h1,h2⟩:=Option.map_eq_some_iff.1 ti128
  simp only[Prod.mk.injEq]at h2
  exact⟨i,h1,h2.1,h2.2.1,h2.2.2⟩
 zc:=rfl
 zl:=rfl
 z1:=fun h=>by first|rfl|cases h
instance : FldI Tryz.prog 128 0 0 3:=⟨⟨_,_,Tryz.underlying128,rfl,rfl,rfl⟩⟩
instance : FldI Tryz.prog 128 1 1 43:=⟨⟨_,_,Tryz.underlying128,rfl,rfl,rfl⟩⟩
instance : FldI Tryz.prog 128 2 2 3:=⟨⟨_,_,Tryz.underlying128,rfl,rfl,rfl⟩⟩
instance : FldI Tryz.prog 128 3 3 3:=⟨⟨_,_,Tryz.underlying128,rfl,rfl,rfl⟩⟩
instance : StructI Tryz.prog 128 [(0,1),(1,1),(2,1),(3,1)]:=⟨⟨_,Tryz.underlying128,by kernel_rfl⟩⟩
theorem ti130 : (Tryz.prog.info? 130).map (fun i=>(i.size,i.bytes,i.zero))=some (10,96,some (zval true [.int .i64 0,.int .i64 0,.int .u64 0,.int .u64 0,.bool false,.int .i64 0,.bool false,.int .i64 0,.int .i64 0,.slice []])):=by kernel_rfl
instance tyI130 : TyI Tryz.prog 130 true 10 96 [.int .i64 0,.int .i64 0,.int .u64 0,.int .u64 0,.bool false,.int .i64 0,.bool false,.int .i64 0,.int .i64 0,.slice []] where
 desc:=⟨_,Tryz.underlying130,rfl⟩
 info:=by
  obtain⟨i,h1,h2⟩:=Option.map_eq_some_iff.1 ti130
  simp only[Prod.mk.injEq]at h2
  exact⟨i,h1,h2.1,h2.2.1,h2.2.2⟩
 zc:=rfl
 zl:=rfl
 z1:=fun h=>by first|rfl|cases h
instance : FldI Tryz.prog 130 0 0 3:=⟨⟨_,_,Tryz.underlying130,rfl,rfl,rfl⟩⟩
instance : FldI Tryz.prog 130 1 1 3:=⟨⟨_,_,Tryz.underlying130,rfl,rfl,rfl⟩⟩
instance : FldI Tryz.prog 130 2 2 46:=⟨⟨_,_,Tryz.underlying130,rfl,rfl,rfl⟩⟩
instance : StructI Tryz.prog 130 [(0,1),(1,1),(2,8)]:=⟨⟨_,Tryz.underlying130,by kernel_rfl⟩⟩
instance : SlcI Tryz.prog 131 130:=⟨Tryz.underlying131⟩
instance : SlcI Tryz.prog 132 138:=⟨Tryz.underlying132⟩
instance : SlcI Tryz.prog 135 146:=⟨Tryz.underlying135⟩
theorem ti138 : (Tryz.prog.info? 138).map (fun i=>(i.size,i.bytes,i.zero))=some (9,88,some (zval true [.int .i64 0,.int .u64 0,.int .u64 0,.bool false,.int .i64 0,.bool false,.int .i64 0,.int .i64 0,.slice []])):=by kernel_rfl
instance tyI138 : TyI Tryz.prog 138 true 9 88 [.int .i64 0,.int .u64 0,.int .u64 0,.bool false,.int .i64 0,.bool false,.int .i64 0,.int .i64 0,.slice []] where
 desc:=⟨_,Tryz.underlying138,rfl⟩
 info:=by
  obtain⟨i,h1,h2⟩:=Option.map_eq_some_iff.1 ti138
  simp only[Prod.mk.injEq]at h2
  exact⟨i,h1,h2.1,h2.2.1,h2.2.2⟩
 zc:=rfl
 zl:=rfl
 z1:=fun h=>by first|rfl|cases h
instance : FldI Tryz.prog 138 0 0 3:=⟨⟨_,_,Tryz.underlying138,rfl,rfl,rfl⟩⟩
instance : FldI Tryz.prog 138 1 1 46:=⟨⟨_,_,Tryz.underlying138,rfl,rfl,rfl⟩⟩
instance : StructI Tryz.prog 138 [(0,1),(1,8)]:=⟨⟨_,Tryz.underlying138,by kernel_rfl⟩⟩
theorem ti143 : (Tryz.prog.info? 143).map (fun i=>(i.size,i.bytes,i.zero))=some (10,96,some (zval true [.int .i64 0,.int .i64 0,.int .u64 0,.int .u64 0,.bool false,.int .i64 0,.bool false,.int .i64 0,.int .i64 0,.slice []])):=by kernel_rfl
instance tyI143 : TyI Tryz.prog 143 true 10 96 [.int .i64 0,.int .i64 0,.int .u64 0,.int .u64 0,.bool false,.int .i64 0,.bool false,.int .i64 0,.int .i64 0,.slice []] where
 desc:=⟨_,Tryz.underlying143,rfl⟩
 info:=by
  obtain⟨i,h1,h2⟩:=Option.map_eq_some_iff.1 ti143
  simp only[Prod.mk.injEq]at h2
  exact⟨i,h1,h2.1,h2.2.1,h2.2.2⟩
 zc:=rfl
 zl:=rfl
 z1:=fun h=>by first|rfl|cases h
instance : FldI Tryz.prog 143 0 0 3:=⟨⟨_,_,Tryz.underlying143,rfl,rfl,rfl⟩⟩
instance : FldI Tryz.prog 143 1 1 3:=⟨⟨_,_,Tryz.underlying143,rfl,rfl,rfl⟩⟩
instance : FldI Tryz.prog 143 2 2 46:=⟨⟨_,_,Tryz.underlying143,rfl,rfl,rfl⟩⟩
instance : StructI Tryz.prog 143 [(0,1),(1,1),(2,8)]:=⟨⟨_,Tryz.underlying143,by kernel_rfl⟩⟩
instance : SlcI Tryz.prog 144 143:=⟨Tryz.underlying144⟩
theorem ti146 : (Tryz.prog.info? 146).map (fun i=>(i.size,i.bytes,i.zero))=some (4,64,some (zval true [.int .i64 0,.slice [],.int .i64 0,.slice []])):=by kernel_rfl
instance tyI146 : TyI Tryz.prog 146 true 4 64 [.int .i64 0,.slice [],.int .i64 0,.slice []] where
 desc:=⟨_,Tryz.underlying146,rfl⟩
 info:=by
  obtain⟨i,h1,h2⟩:=Option.map_eq_some_iff.1 ti146
  simp only[Prod.mk.injEq]at h2
  exact⟨i,h1,h2.1,h2.2.1,h2.2.2⟩
 zc:=rfl
 zl:=rfl
 z1:=fun h=>by first|rfl|cases h
instance : FldI Tryz.prog 146 0 0 3:=⟨⟨_,_,Tryz.underlying146,rfl,rfl,rfl⟩⟩
instance : FldI Tryz.prog 146 1 1 57:=⟨⟨_,_,Tryz.underlying146,rfl,rfl,rfl⟩⟩
instance : FldI Tryz.prog 146 2 2 3:=⟨⟨_,_,Tryz.underlying146,rfl,rfl,rfl⟩⟩
instance : FldI Tryz.prog 146 3 3 70:=⟨⟨_,_,Tryz.underlying146,rfl,rfl,rfl⟩⟩
instance : StructI Tryz.prog 146 [(0,1),(1,1),(2,1),(3,1)]:=⟨⟨_,Tryz.underlying146,by kernel_rfl⟩⟩
instance : IntI Tryz.prog 150 .u64:=⟨Tryz.underlying150⟩
theorem ti168 : (Tryz.prog.info? 168).map (fun i=>(i.size,i.bytes,i.zero))=some (2,16,some (zval true [.int .i64 0,.int .i64 0])):=by kernel_rfl
instance tyI168 : TyI Tryz.prog 168 true 2 16 [.int .i64 0,.int .i64 0] where
 desc:=⟨_,Tryz.underlying168,rfl⟩
 info:=by
  obtain⟨i,h1,h2⟩:=Option.map_eq_some_iff.1 ti168
  simp only[Prod.mk.injEq]at h2
  exact⟨i,h1,h2.1,h2.2.1,h2.2.2⟩
 zc:=rfl
 zl:=rfl
 z1:=fun h=>by first|rfl|cases h
instance : StructI Tryz.prog 168 [(0,1),(1,1)]:=⟨⟨_,Tryz.underlying168,by kernel_rfl⟩⟩
instance : SlcI Tryz.prog 169 168:=⟨Tryz.underlying169⟩
theorem ti178 : (Tryz.prog.info? 178).map (fun i=>(i.size,i.bytes,i.zero))=some (1,24,some (zval false [.slice []])):=by kernel_rfl
instance tyI178 : TyI Tryz.prog 178 false 1 24 [.slice []] where
 desc:=⟨_,Tryz.underlying178,rfl⟩
 info:=by
  obtain⟨i,h1,h2⟩:=Option.map_eq_some_iff.1 ti178
  simp only[Prod.mk.injEq]at h2
  exact⟨i,h1,h2.1,h2.2.1,h2.2.2⟩
 zc:=rfl
 zl:=rfl
 z1:=fun h=>by first|rfl|cases h
instance : SlcI Tryz.prog 178 180:=⟨Tryz.underlying178⟩
theorem ti180 : (Tryz.prog.info? 180).map (fun i=>(i.size,i.bytes,i.zero))=some (4,32,some (zval true [.int .i64 0,.int .i64 0,.int .i64 0,.int .i64 0])):=by kernel_rfl
instance tyI180 : TyI Tryz.prog 180 true 4 32 [.int .i64 0,.int .i64 0,.int .i64 0,.int .i64 0] where
 desc:=⟨_,Tryz.underlying180,rfl⟩
 info:=by
  obtain⟨i,h1,h2⟩:=Option.map_eq_some_iff.1 ti180
  simp only[Prod.mk.injEq]at h2
  exact⟨i,h1,h2.1,h2.2.1,h2.2.2⟩
 zc:=rfl
 zl:=rfl
 z1:=fun h=>by first|rfl|cases h
instance : FldI Tryz.prog 180 0 0 3:=⟨⟨_,_,Tryz.underlying180,rfl,rfl,rfl⟩⟩
instance : FldI Tryz.prog 180 1 1 3:=⟨⟨_,_,Tryz.underlying180,rfl,rfl,rfl⟩⟩
instance : FldI Tryz.prog 180 2 2 3:=⟨⟨_,_,Tryz.underlying180,rfl,rfl,rfl⟩⟩
instance : FldI Tryz.prog 180 3 3 3:=⟨⟨_,_,Tryz.underlying180,rfl,rfl,rfl⟩⟩
instance : StructI Tryz.prog 180 [(0,1),(1,1),(2,1),(3,1)]:=⟨⟨_,Tryz.underlying180,by kernel_rfl⟩⟩
theorem ti184 : (Tryz.prog.info? 184).map (fun i=>(i.size,i.bytes,i.zero))=some (1,24,some (zval false [.slice []])):=by kernel_rfl
instance tyI184 : TyI Tryz.prog 184 false 1 24 [.slice []] where
 desc:=⟨_,Tryz.underlying184,rfl⟩
 info:=by
  obtain⟨i,h1,h2⟩:=Option.map_eq_some_iff.1 ti184
  simp only[Prod.mk.injEq]at h2
  exact⟨i,h1,h2.1,h2.2.1,h2.2.2⟩
 zc:=rfl
 zl:=rfl
 z1:=fun h=>by first|rfl|cases h
instance : SlcI Tryz.prog 184 77:=⟨Tryz.underlying184⟩
theorem ti185 : (Tryz.prog.info? 185).map (fun i=>(i.size,i.bytes,i.zero))=some (1,24,some (zval false [.slice []])):=by kernel_rfl
instance tyI185 : TyI Tryz.prog 185 false 1 24 [.slice []] where
 desc:=⟨_,Tryz.underlying185,rfl⟩
 info:=by
  obtain⟨i,h1,h2⟩:=Option.map_eq_some_iff.1 ti185
  simp only[Prod.mk.injEq]at h2
  exact⟨i,h1,h2.1,h2.2.1,h2.2.2⟩
 zc:=rfl
 zl:=rfl
 z1:=fun h=>by first|rfl|cases h
instance : SlcI Tryz.prog 185 217:=⟨Tryz.underlying185⟩
theorem ti217 : (Tryz.prog.info? 217).map (fun i=>(i.size,i.bytes,i.zero))=some (7,56,some (zval true [.int .i64 0,.int .i64 0,.int .i64 0,.int .u64 0,.int .i64 0,.int .u64 0,.int .i64 0])):=by kernel_rfl
instance tyI217 : TyI Tryz.prog 217 true 7 56 [.int .i64 0,.int .i64 0,.int .i64 0,.int .u64 0,.int .i64 0,.int .u64 0,.int .i64 0] where
 desc:=⟨_,Tryz.underlying217,rfl⟩
 info:=by
  obtain⟨i,h1,h2⟩:=Option.map_eq_some_iff.1 ti217
  simp only[Prod.mk.injEq]at h2
  exact⟨i,h1,h2.1,h2.2.1,h2.2.2⟩
 zc:=rfl
 zl:=rfl
 z1:=fun h=>by first|rfl|cases h
instance : FldI Tryz.prog 217 0 0 3:=⟨⟨_,_,Tryz.underlying217,rfl,rfl,rfl⟩⟩
instance : FldI Tryz.prog 217 1 1 3:=⟨⟨_,_,Tryz.underlying217,rfl,rfl,rfl⟩⟩
instance : FldI Tryz.prog 217 2 2 3:=⟨⟨_,_,Tryz.underlying217,rfl,rfl,rfl⟩⟩
instance : FldI Tryz.prog 217 3 3 77:=⟨⟨_,_,Tryz.underlying217,rfl,rfl,rfl⟩⟩
instance : StructI Tryz.prog 217 [(0,1),(1,1),(2,1),(3,4)]:=⟨⟨_,Tryz.underlying217,by kernel_rfl⟩⟩
theorem ti227 : (Tryz.prog.info? 227).map (fun i=>(i.size,i.bytes,i.zero))=some (1,4,some (zval false [.int .u32 0])):=by kernel_rfl
instance tyI227 : TyI Tryz.prog 227 false 1 4 [.int .u32 0] where
 desc:=⟨_,Tryz.underlying227,rfl⟩
 info:=by
  obtain⟨i,h1,h2⟩:=Option.map_eq_some_iff.1 ti227
  simp only[Prod.mk.injEq]at h2
  exact⟨i,h1,h2.1,h2.2.1,h2.2.2⟩
 zc:=rfl
 zl:=rfl
 z1:=fun h=>by first|rfl|cases h
instance : IntI Tryz.prog 227 .u32:=⟨Tryz.underlying227⟩
theorem ti228 : (Tryz.prog.info? 228).map (fun i=>(i.size,i.bytes,i.zero))=some (4,16,some (zval true [.int .u32 0,.int .u32 0,.int .u32 0,.int .u32 0])):=by kernel_rfl
instance tyI228 : TyI Tryz.prog 228 true 4 16 [.int .u32 0,.int .u32 0,.int .u32 0,.int .u32 0] where
 desc:=⟨_,Tryz.underlying228,rfl⟩
 info:=by
  obtain⟨i,h1,h2⟩:=Option.map_eq_some_iff.1 ti228
  simp only[Prod.mk.injEq]at h2
  exact⟨i,h1,h2.1,h2.2.1,h2.2.2⟩
 zc:=rfl
 zl:=rfl
 z1:=fun h=>by first|rfl|cases h
instance : ArrI Tryz.prog 228 4 227:=⟨Tryz.underlying228⟩
instance : SlcI Tryz.prog 255 227:=⟨Tryz.underlying255⟩
theorem ti260 : (Tryz.prog.info? 260).map (fun i=>(i.size,i.bytes,i.zero))=some (16,64,some (zval true [.int .u32 0,.int .u32 0,.int .u32 0,.int .u32 0,.int .u32 0,.int .u32 0,.int .u32 0,.int .u32 0,.int .u32 0,.int .u32 0,.int .u32 0,.int .u32 0,.int .u32 0,.int .u32 0,.int .u32 0,.int .u32 0])):=by kernel_rfl
instance tyI260 : TyI Tryz.prog 260 true 16 64 [.int .u32 0,.int .u32 0,.int .u32 0,.int .u32 0,.int .u32 0,.int .u32 0,.int .u32 0,.int .u32 0,.int .u32 0,.int .u32 0,.int .u32 0,.int .u32 0,.int .u32 0,.int .u32 0,.int .u32 0,.int .u32 0] where
 desc:=⟨_,Tryz.underlying260,rfl⟩
 info:=by
  obtain⟨i,h1,h2⟩:=Option.map_eq_some_iff.1 ti260
  simp only[Prod.mk.injEq]at h2
  exact⟨i,h1,h2.1,h2.2.1,h2.2.2⟩
 zc:=rfl
 zl:=rfl
 z1:=fun h=>by first|rfl|cases h
instance : ArrI Tryz.prog 260 16 227:=⟨Tryz.underlying260⟩
theorem ti261 : (Tryz.prog.info? 261).map (fun i=>(i.size,i.bytes,i.zero))=some (64,256,some (zval true [.int .u32 0,.int .u32 0,.int .u32 0,.int .u32 0,.int .u32 0,.int .u32 0,.int .u32 0,.int .u32 0,.int .u32 0,.int .u32 0,.int .u32 0,.int .u32 0,.int .u32 0,.int .u32 0,.int .u32 0,.int .u32 0,.int .u32 0,.int .u32 0,.int .u32 0,.int .u32 0,.int .u32 0,.int .u32 0,.int .u32 0,.int .u32 0,.int .u32 0,.int .u32 0,.int .u32 0,.int .u32 0,.int .u32 0,.int .u32 0,.int .u32 0,.int .u32 0,.int .u32 0,.int .u32 0,.int .u32 0,.int .u32 0,.int .u32 0,.int .u32 0,.int .u32 0,.int .u32 0,.int .u32 0,.int .u32 0,.int .u32 0,.int .u32 0,.int .u32 0,.int .u32 0,.int .u32 0,.int .u32 0,.int .u32 0,.int .u32 0,.int .u32 0,.int .u32 0,.int .u32 0,.int .u32 0,.int .u32 0,.int .u32 0,.int .u32 0,.int .u32 0,.int .u32 0,.int .u32 0,.int .u32 0,.int .u32 0,.int .u32 0,.int .u32 0])):=by kernel_rfl
instance tyI261 : TyI Tryz.prog 261 true 64 256 [.int .u32 0,.int .u32 0,.int .u32 0,.int .u32 0,.int .u32 0,.int .u32 0,.int .u32 0,.int .u32 0,.int .u32 0,.int .u32 0,.int .u32 0,.int .u32 0,.int .u32 0,.int .u32 0,.int .u32 0,.int .u32 0,.int .u32 0,.int .u32 0,.int .u32 0,.int .u32 0,.int .u32 0,.int .u32 0,.int .u32 0,.int .u32 0,.int .u32 0,.int .u32 0,.int .u32 0,.int .u32 0,.int .u32 0,.int .u32 0,.int .u32 0,.int .u32 0,.int .u32 0,.int .u32 0,.int .u32 0,.int .u32 0,.int .u32 0,.int .u32 0,.int .u32 0,.int .u32 0,.int .u32 0,.int .u32 0,.int .u32 0,.int .u32 0,.int .u32 0,.int .u32 0,.int .u32 0,.int .u32 0,.int .u32 0,.int .u32 0,.int .u32 0,.int .u32 0,.int .u32 0,.int .u32 0,.int .u32 0,.int .u32 0,.int .u32 0,.int .u32 0,.int .u32 0,.int .u32 0,.int .u32 0,.int .u32 0,.int .u32 0,.int .u32 0] where
 desc:=⟨_,Tryz.underlying261,rfl⟩
 info:=by
  obtain⟨i,h1,h2⟩:=Option.map_eq_some_iff.1 ti261
  simp only[Prod.mk.injEq]at h2
  exact⟨i,h1,h2.1,h2.2.1,h2.2.2⟩
 zc:=rfl
 zl:=rfl
 z1:=fun h=>by first|rfl|cases h
instance : ArrI Tryz.prog 261 64 227:=⟨Tryz.underlying261⟩
theorem ti263 : (Tryz.prog.info? 263).map (fun i=>(i.size,i.bytes,i.zero))=some (16,128,some (zval true [.int .i64 0,.int .i64 0,.int .i64 0,.int .i64 0,.int .i64 0,.int .i64 0,.int .i64 0,.int .i64 0,.int .i64 0,.int .i64 0,.int .i64 0,.int .i64 0,.int .i64 0,.int .i64 0,.int .i64 0,.int .i64 0])):=by kernel_rfl
instance tyI263 : TyI Tryz.prog 263 true 16 128 [.int .i64 0,.int .i64 0,.int .i64 0,.int .i64 0,.int .i64 0,.int .i64 0,.int .i64 0,.int .i64 0,.int .i64 0,.int .i64 0,.int .i64 0,.int .i64 0,.int .i64 0,.int .i64 0,.int .i64 0,.int .i64 0] where
 desc:=⟨_,Tryz.underlying263,rfl⟩
 info:=by
  obtain⟨i,h1,h2⟩:=Option.map_eq_some_iff.1 ti263
  simp only[Prod.mk.injEq]at h2
  exact⟨i,h1,h2.1,h2.2.1,h2.2.2⟩
 zc:=rfl
 zl:=rfl
 z1:=fun h=>by first|rfl|cases h
instance : ArrI Tryz.prog 263 16 3:=⟨Tryz.underlying263⟩
instance : EqI Tryz.prog 32 [1,1]:=⟨by kernel_rfl,⟨_,Tryz.underlying32⟩,by kernel_rfl⟩
instance : EqI Tryz.prog 73 [1,1,1,1,1,0]:=⟨by kernel_rfl,⟨_,Tryz.underlying73⟩,by kernel_rfl⟩
instance : EqI Tryz.prog 77 [1,1,1,1]:=⟨by kernel_rfl,⟨_,Tryz.underlying77⟩,by kernel_rfl⟩
instance : EqI Tryz.prog 102 [1,1]:=⟨by kernel_rfl,⟨_,Tryz.underlying102⟩,by kernel_rfl⟩
instance : EqI Tryz.prog 128 [1,1,1,1]:=⟨by kernel_rfl,⟨_,Tryz.underlying128⟩,by kernel_rfl⟩
instance : EqI Tryz.prog 168 [1,1]:=⟨by kernel_rfl,⟨_,Tryz.underlying168⟩,by kernel_rfl⟩
end Go.Proofs.YtcdhlofhhcgohaaGreat
