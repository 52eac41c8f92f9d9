/- Slices of such rows that are data, told in what they hold. -/
import Derived.Test.YtjniepfecgcmaaabNil
namespace Go.Proofs.Ytjniepfecgcmaaa
open Go.RowKit
theorem whole_eq {α : Type} {f : α → List V} {us : List α} {n : Nat} (h : us.length = n) : ((us.map f).drop 0).take n = us.map f := by
  subst h; simp [List.take_of_length_le]
theorem tail_eq {α : Type} {us : List α} {l : Nat} : (us.drop l).take (us.length - l) = us.drop l := List.take_of_length_le (by simp)
theorem ne_self {α : Type} (a : α) {d : Decidable (a ≠ a)} : decide (a ≠ a) = false := decide_eq_false (fun h => h rfl)
theorem eq_self {α : Type} (a : α) {d : Decidable (a = a)} : decide (a = a) = true := decide_eq_true rfl
/-- Such a row that is handed back alone, as data. -/
theorem fnF_own {P : Program} {f : FuncId} {ds : List V} {sz len : Nat} {xs : List (List V)} (h : FnG P f (ds.map (.dat false)) [] (.own 1000 0 0 len) [(1000, .row 0 false true sz xs)]) (hl : len = xs.length) : FnF P f ds (.slice xs) := by
  subst hl
  refine ⟨h.1, fun S w vs hS hr => ?_⟩
  have hc := h.2 ⟨fun _ => none, S, fun _ => False, w⟩ vs
    ⟨fun g => trivial, fun g g' b (h : Box.gone ≠ Box.gone) => absurd rfl h, fun g b (h : false = true) => by (cases h), hS, fun b (h : False) => h.elim⟩ (by simp [hr.1])
    (fun j d v h1 h2 => by
      rw [List.getElem?_map] at h1
      cases hd : ds[j]? with
      | none => rw [hd] at h1; cases h1
      | some x =>
        rw [hd] at h1
        injection h1 with h1
        subst h1
        exact hr.2 j x v hd h2)
  refine Calls.mono hc ?_
  rintro e w' ⟨v, C', rfl, rfl, hx, hm, hv⟩
  have hz : Env.at [(0, D.own 1000 0 0 xs.length)] 0 = .own 1000 0 0 xs.length := look_same _ _ _ _
  obtain ⟨C1, e1, h1, x1⟩ := Wk_freeze (env := [(0, .own 1000 0 0 xs.length)]) (mem := [(1000, .row 0 false true sz xs)]) (n := 1) 1000 (fun kt et es h => by rw [Mem.at_cons_same] at h; cases h) C' ⟨#[v], []⟩
    ⟨hm, rfl, rfl, fun t => by
      match t with
      | 0 => rw [show (St.mk [(0, D.own 1000 0 0 xs.length)] [(1000, Box.row 0 false true sz xs)] 1).env = [(0, D.own 1000 0 0 xs.length)] from rfl, hz]; exact hv
      | t + 1 => exact trivial⟩
  have hv1 := h1.env 0
  rw [show (St.mk [(0, D.own 1000 0 0 xs.length)] ((1000, frzBox (Mem.at [(1000, Box.row 0 false true sz xs)] 1000)) :: [(1000, Box.row 0 false true sz xs)]) 1).env = [(0, D.own 1000 0 0 xs.length)] from rfl, hz] at hv1
  have hr1 := asV_ok (n := true) (x := .slice xs) h1.mem (fun _ _ => rfl) (by
    show asV ((1000, frzBox (Mem.at [(1000, Box.row 0 false true sz xs)] 1000)) :: [(1000, Box.row 0 false true sz xs)]) _ = _
    simp [asV, asV0, Mem.at_cons_same, frzBox]) hv1
  refine ⟨v, rfl, ⟨hx.os, hx.tape, hx.output, hx.size, fun k hk => hx.keep k hk (fun g hg => by simp [Mem.at, look, Box.mut] at hg)⟩, ?_⟩
  have hxx := hx.trans x1
  rw [← e1]
  refine Rd.mono hr1 (fun b hb => ?_) (fun _ _ => rfl)
  refine ⟨?_, h1.mem.sdom b (h1.mem.ns b hb)⟩
  rcases hxx.supN b hb with k1 | k1 | ⟨g0, k1, _⟩
  · exact k1.elim
  · exact k1
  · simp [Mem.at, look, Box.mut] at k1
section
variable {P : Program} {e : Operand → D} {m : Mem} {dst : Option Tmp} {ty : TypeId} {pos : String} {af : Array Edge} {gd : Option (Nat × Bool)} {x y : Operand} {t : TypeId}
theorem S_slM {α : Type} {f : α → List V} {us : List α} {n agg : Bool} {el s by_ l h : Nat} {zs : List V} {lo hi : Option Operand} (us' : List α) [hu : SlcI P t el] [ht : TyI P el agg s by_ zs] [hf : CellsI f s] (h1 : e x = .dat n (.slice (us.map f)))
    (hlo : BndD (lo.map e) 0 l) (hhi : BndD (hi.map e) us.length h) (hle : l ≤ h) (hhl : h ≤ us.length) (hq : (us.drop l).take (h - l) = us') :
    SStep P ⟨dst, .slice t x lo hi none, ty, pos, af, gd⟩ e m [] (.dat n (.slice (us'.map f))) [] := by
  have hl : (us.map f).length = us.length := by simp
  have := S_slice (P := P) (m := m) (t := t) (el := el) (by_ := by_) (zs := zs) (agg := agg) (dst := dst) (ty := ty) (pos := pos) (af := af) (gd := gd) h1 hlo (by rw [hl]; exact hhi) hle (by rw [hl]; exact hhl) (map_len us)
  rw [← List.map_drop, ← List.map_take, hq] at this
  exact this
/-- make, as data at once. -/
theorem S_mkD {α : Type} {f : α → List V} {el s by_ l c : Nat} {agg n1 n2 : Bool} {k1 k2 : IntKind} {zs : List V} {a b : Int} (z : α) [hu : SlcI P t el] [ht : TyI P el agg s by_ zs] (h1 : e x = .dat n1 (.int k1 a)) (h2 : e y = .dat n2 (.int k2 b)) (ha : a = (l : Int)) (hb : b = (c : Int)) (hlc : l ≤ c)
    (hby : c * (by_ + 1) ≤ 140737488355328) (hfz : f z = zs) :
    SStep P ⟨dst, .makeSlice t x y, ty, pos, af, gd⟩ e m [] (.dat true (.slice ((List.replicate l z).map f))) [] := by
  intro C m' ac next Q hag hm hx hn
  have g1 := rd_int (by have := hx x (by simp [Op.operands]); rwa [h1] at this)
  have g2 := rd_int (by have := hx y (by simp [Op.operands]); rwa [h2] at this)
  obtain ⟨i, hi, hsz, hbt, hz⟩ := ht.info
  have hb1 : c * by_ ≤ 140737488355328 := Nat.le_trans (Nat.mul_le_mul_left _ (Nat.le_succ _)) hby
  have hb2 : c ≤ 140737488355328 := by
    have : c * 1 ≤ c * (by_ + 1) := Nat.mul_le_mul_left _ (by omega)
    omega
  have hrun := run_make (P := P) C.w t el i _ hu.out hi hz k1 k2 l c (by omega) (by omega) (by
    rw [hbt]
    have : ((by_ * c : Nat) : Int) ≤ 281474976710656 := by rw [Nat.mul_comm]; omega
    rwa [Int.natCast_mul] at this) (by omega)
  simp only [Int.toNat_natCast, hsz] at hrun
  have hexec : (execOp ac.eval ⟨dst, .makeSlice t x y, ty, pos, af, gd⟩).run P C.w = .ok (.value (.slice (some ⟨C.w.heap.size, 0, none⟩) l c)) (C.w.alloc (.cells (madeCells (zval agg zs).cells (c * s)) el)) := by
    simp [execOp, g1, g2, ha, hb, hrun]
  have hblk : (C.w.alloc (.cells (madeCells (zval agg zs).cells (c * s)) el)).heap[C.w.heap.size]? = some (.cells (madeCells (zval agg zs).cells (c * s)) el (0, 0)) := heap_alloc_new C.w _
  have hz0 := zcells ht
  have hzl := ht.zl
  have hzc := ht.zc
  rw [List.all_eq_true] at hzc
  have hrep : ∀ (i : Nat) (e : List V), ((List.replicate l z).map f)[i]? = some e → i < l ∧ e = zs := fun i e h => by
    rw [List.map_replicate, hfz, List.getElem?_replicate] at h
    split at h
    · injection h with h; exact ⟨by assumption, h.symm⟩
    · cases h
  have hst := step_dat (w := C.w.alloc (.cells (madeCells (zval agg zs).cells (c * s)) el)) (fun k => k = C.w.heap.size) hm (Grew.alloc C.w _)
    (fun k hk => by subst hk; exact ⟨Nat.le_refl _, (Array.getElem?_eq_some_iff.1 hblk).1⟩)
  refine wp_of_value hexec (hn _ _ hst ?_)
  have hcell : ∀ (i j : Nat) (e : List V) (d : V), ((List.replicate l z).map f)[i]? = some e → e[j]? = some d →
      (C.w.alloc (.cells (madeCells (zval agg zs).cells (c * s)) el)).cell? ⟨C.w.heap.size, 0 + i * s + j, none⟩ = some d.val ∧ V.isC d = true := fun i j e d h1 h2 => by
    obtain ⟨hil, he⟩ := hrep i e h1
    rw [he] at h2
    have hj : j < s := by rw [← hzl]; exact (List.getElem?_eq_some_iff.1 h2).1
    rw [cell_of_arr hblk, Nat.zero_add, madeCells_get (Nat.lt_of_lt_of_le (idx_lt hil hj) (Nat.mul_le_mul_right _ hlc)), hz0]
    simp only [List.size_toArray, List.length_map, hzl, idx_mod hj]
    have : (zs.map V.val).toArray[j]! = d.val := by simp [h2]
    rw [this]
    exact ⟨rfl, hzc d (List.mem_of_getElem? h2)⟩
  have hlen : ((List.replicate l z).map f).length = l := by simp
  have := Rd.slice (S := (C.put (fun k => k = C.w.heap.size) (C.w.alloc (.cells (madeCells (zval agg zs).cells (c * s)) el))).D true) (w := C.w.alloc (.cells (madeCells (zval agg zs).cells (c * s)) el))
    ((List.replicate l z).map f) C.w.heap.size 0 c s (fun i j => ((((List.replicate l z).map f)[i]?.getD [])[j]?.getD .undef).val) (by rw [hlen]; exact hlc) (by unfold maxLen; omega)
    (fun i e h => by rw [(hrep i e h).2, hzl])
    (fun i j e d h1 h2 => isC_one (hcell i j e d h1 h2).2) (fun _ => .inr rfl)
    (fun i j e d h1 h2 => by rw [h1, Option.getD_some, h2, Option.getD_some]; exact (hcell i j e d h1 h2).1)
    (fun i j e d h1 h2 => by rw [h1, Option.getD_some, h2, Option.getD_some]; exact val_rd (hcell i j e d h1 h2).2)
  rw [hlen] at this
  exact this
theorem S_bs {n : Bool} {l : List UInt8} {s el : TypeId} [hu : SlcI P s el] (he : P.underlying el = some (.int .u8)) (ht : P.underlying t = some .string) (h : e x = .dat n (.slice (l.map byteV))) :
    SStep P ⟨dst, .convert s t x, ty, pos, af, gd⟩ e m [] (.dat true (.str l)) [] := S_bytes_str he ht h
end
end Go.Proofs.Ytjniepfecgcmaaa
