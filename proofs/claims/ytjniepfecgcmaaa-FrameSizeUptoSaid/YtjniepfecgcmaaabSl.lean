/- Slices of such rows that are data, told in what they hold. -/
import Derived.Test.YtjniepfecgcmaaabNil
namespace Go.Proofs.Ytjniepfecgcmaaa
open Go.RowKit
theorem tail_eq {α : Type} {us : List α} {l : Nat} : (us.drop l).take (us.length - l) = us.drop l := List.take_of_length_le (by simp)
theorem ne_self {α : Type} (a : α) {d : Decidable (a ≠ a)} : decide (a ≠ a) = false := decide_eq_false (fun h => h rfl)
theorem eq_self {α : Type} (a : α) {d : Decidable (a = a)} : decide (a = a) = true := decide_eq_true rfl
section
variable {P : Program} {e : Operand → D} {m : Mem} {dst : Option Tmp} {ty : TypeId} {pos : String} {af : Array Edge} {gd : Option (Nat × Bool)} {x y : Operand} {t : TypeId}
theorem S_slM {α : Type} {f : α → List V} {us : List α} {n agg : Bool} {el s by_ l h : Nat} {zs : List V} {lo hi : Option Operand} (us' : List α) [hu : SlcI P t el] [ht : TyI P el agg s by_ zs] [hf : CellsI f s] (h1 : e x = .dat n (.slice (us.map f)))
    (hlo : BndD (lo.map e) 0 l) (hhi : BndD (hi.map e) us.length h) (hle : l ≤ h) (hhl : h ≤ us.length) (hq : (us.drop l).take (h - l) = us') :
    SStep P ⟨dst, .slice t x lo hi none, ty, pos, af, gd⟩ e m [] (.dat n (.slice (us'.map f))) [] := by
  have hl : (us.map f).length = us.length := by simp
  have := S_slice (P := P) (m := m) (t := t) (el := el) (by_ := by_) (zs := zs) (agg := agg) (dst := dst) (ty := ty) (pos := pos) (af := af) (gd := gd) h1 hlo (by rw [hl]; exact hhi) hle (by rw [hl]; exact hhl) (map_len us)
  rw [← List.map_drop, ← List.map_take, hq] at this
  exact this
theorem S_bs {n : Bool} {l : List UInt8} {s el : TypeId} [hu : SlcI P s el] (he : P.underlying el = some (.int .u8)) (ht : P.underlying t = some .string) (h : e x = .dat n (.slice (l.map byteV))) :
    SStep P ⟨dst, .convert s t x, ty, pos, af, gd⟩ e m [] (.dat true (.str l)) [] := S_bytes_str he ht h
end
end Go.Proofs.Ytjniepfecgcmaaa
