/- Maps of one's own whose keys and values are numbers. -/
import Derived.MapKept
import Derived.Test.YtkppkgahdoglpaavbGo
import Derived.WideMake
namespace Go.Proofs.Ytkppkgahdoglpaa
open Go.RowKit
def mapE (k k' : IntKind) (es : List (Int × Int)) : List (V × V) := es.map fun p => (.int k p.1, .int k' p.2)
section
variable {P : Program} {e : Operand → D} {m : Mem} {dst : Option Tmp} {ty : TypeId} {pos : String} {af : Array Edge} {gd : Option (Nat × Bool)} {x y z : Operand} {t kt et : TypeId}
theorem S_mkMap {k k' : IntKind} (g : Nat) (hg : m.at g = .gone) : SStep P ⟨dst, .makeMap t none, ty, pos, af, gd⟩ e m [] (.mp g) [(g, .mapb kt et (mapE k k' []))] := by
  intro C m' a next Q hag hm hx hn
  have hg' : m'.at g = .gone := (hag g (by simp)).trans hg
  have hblk : (C.w.alloc (.map #[] 0)).heap[C.w.heap.size]? = some (.map #[] 0) := heap_alloc_new C.w _
  have hst : Step C m' (C.set g (some C.w.heap.size) (C.w.alloc (.map #[] 0))) ((g, .mapb kt et (mapE k k' [])) :: m') := by
    refine Step.fresh hm hg' (Grew.alloc C.w _) (fun b' hb' => by injection hb' with hb'; omega) (fun hd _ => ?_)
    exact ⟨_, rfl, #[], 0, hblk, rfl, rfl, by simp [mapE]⟩
  refine wp_of_value (v := .map (some C.w.heap.size)) (w' := C.w.alloc (.map #[] 0)) (by simp [execOp, run_makeMap_plain]) (hn _ _ hst ?_)
  exact ⟨kt, et, mapE k k' [], C.w.heap.size, Mem.at_cons_same _ _ _, by rw [Cf.set_same], rfl⟩
end
end Go.Proofs.Ytkppkgahdoglpaa
