/- Slices of such rows that are data, told in what they hold. -/
import Derived.Test.YtpdoplmnedpdaaabNil
namespace Go.Proofs.Ytpdoplmnedpdaaa
open Go.RowKit
theorem whole_eq {α : Type} {f : α → List V} {us : List α} {n : Nat} (h : us.length = n) : ((us.map f).drop 0).take n = us.map f := by
  subst h; simp [List.take_of_length_le]
theorem tail_eq {α : Type} {us : List α} {l : Nat} : (us.drop l).take (us.length - l) = us.drop l := List.take_of_length_le (by simp)
theorem ne_self {α : Type} (a : α) {d : Decidable (a ≠ a)} : decide (a ≠ a) = false := decide_eq_false (fun h => h rfl)
theorem eq_self {α : Type} (a : α) {d : Decidable (a = a)} : decide (a = a) = true := decide_eq_true rfl
/-- Such a row that is handed back alone, as data. -/
theorem fnF_own {P : Program} {f : FuncId} {ds : List V} {sz len : Nat} {xs : List (List V)} (h : FnG P f (ds.map (.dat false)) [] (.own 1000 0 0 len) [(1000, .row 0 false true sz xs)]) (hl : len = xs.length) : FnF P f ds (.slice xs) := by
  subst hl
  refine ⟨h.1, fun S w vs hS hr => ?_⟩
  have hc := h.2 ⟨fun _ => none, S, fun _ => False, w⟩ vs
    ⟨fun g => trivial, fun g g' b (h : Box.gone ≠ Box.gone) => absurd rfl h, fun g b (h : false = true) => by (cases h), hS, fun b (h : False) => h.elim⟩ (by simp [hr.1])
    (fun j d v h1 h2 => by
      rw [List.getElem?_map] at h1
      cases hd : ds[j]? with
      | none => rw [hd] at h1; cases h1
      | some x =>
        rw [hd] at h1
        injection h1 with h1
        subst h1
        exact hr.2 j x v hd h2)
  refine Calls.mono hc ?_
  rintro e w' ⟨v, C', rfl, rfl, hx, hm, hv⟩
  have hz : Env.at [(0, D.own 1000 0 0 xs.length)] 0 = .own 1000 0 0 xs.length := look_same _ _ _ _
  obtain ⟨C1, e1, h1, x1⟩ := Wk_freeze (env := [(0, .own 1000 0 0 xs.length)]) (mem := [(1000, .row 0 false true sz xs)]) (n := 1) 1000 (fun kt et es h => by rw [Mem.at_cons_same] at h; cases h) C' ⟨#[v], []⟩
    ⟨hm, rfl, rfl, fun t => by
      match t with
      | 0 => rw [show (St.mk [(0, D.own 1000 0 0 xs.length)] [(1000, Box.row 0 false true sz xs)] 1).env = [(0, D.own 1000 0 0 xs.length)] from rfl, hz]; exact hv
      | t + 1 => exact trivial⟩
  have hv1 := h1.env 0
  rw [show (St.mk [(0, D.own 1000 0 0 xs.length)] ((1000, frzBox (Mem.at [(1000, Box.row 0 false true sz xs)] 1000)) :: [(1000, Box.row 0 false true sz xs)]) 1).env = [(0, D.own 1000 0 0 xs.length)] from rfl, hz] at hv1
  have hr1 := asV_ok (n := true) (x := .slice xs) h1.mem (fun _ _ => rfl) (by
    show asV ((1000, frzBox (Mem.at [(1000, Box.row 0 false true sz xs)] 1000)) :: [(1000, Box.row 0 false true sz xs)]) _ = _
    simp [asV, asV0, Mem.at_cons_same, frzBox]) hv1
  refine ⟨v, rfl, ⟨hx.os, hx.tape, hx.output, hx.size, fun k hk => hx.keep k hk (fun g hg => by simp [Mem.at, look, Box.mut] at hg)⟩, ?_⟩
  have hxx := hx.trans x1
  rw [← e1]
  refine Rd.mono hr1 (fun b hb => ?_) (fun _ _ => rfl)
  refine ⟨?_, h1.mem.sdom b (h1.mem.ns b hb)⟩
  rcases hxx.supN b hb with k1 | k1 | ⟨g0, k1, _⟩
  · exact k1.elim
  · exact k1
  · simp [Mem.at, look, Box.mut] at k1
/-- Cells that are data, all of them. -/
class DatI {α : Type} (f : α → D) : Prop where
  out : ∀ a, ∃ n x, f a = .dat n x
theorem listLe_map {α : Type} {f : α → D} [hf : DatI f] {s e : Mem} {ρ : Nat → Option Nat} : ∀ us : List α, listLe s e ρ (us.map f) (us.map f)
  | [] => trivial
  | a :: r => by
    obtain ⟨n, x, h⟩ := hf.out a
    refine ⟨?_, listLe_map r⟩
    show slotLe s e ρ (f a) (f a)
    rw [h]
    exact ⟨n, rfl, .inl rfl⟩
section
variable {P : Program} {e : Operand → D} {m : Mem} {dst : Option Tmp} {ty : TypeId} {pos : String} {af : Array Edge} {gd : Option (Nat × Bool)} {x y : Operand} {t : TypeId}
theorem S_slM {α : Type} {f : α → List V} {us : List α} {n agg : Bool} {el s by_ l h : Nat} {zs : List V} {lo hi : Option Operand} (us' : List α) [hu : SlcI P t el] [ht : TyI P el agg s by_ zs] [hf : CellsI f s] (h1 : e x = .dat n (.slice (us.map f)))
    (hlo : BndD (lo.map e) 0 l) (hhi : BndD (hi.map e) us.length h) (hle : l ≤ h) (hhl : h ≤ us.length) (hq : (us.drop l).take (h - l) = us') :
    SStep P ⟨dst, .slice t x lo hi none, ty, pos, af, gd⟩ e m [] (.dat n (.slice (us'.map f))) [] := by
  have hl : (us.map f).length = us.length := by simp
  have := S_slice (P := P) (m := m) (t := t) (el := el) (by_ := by_) (zs := zs) (agg := agg) (dst := dst) (ty := ty) (pos := pos) (af := af) (gd := gd) h1 hlo (by rw [hl]; exact hhi) hle (by rw [hl]; exact hhl) (map_len us)
  rw [← List.map_drop, ← List.map_take, hq] at this
  exact this
/-- make, as data at once. -/
theorem S_mkD {α : Type} {f : α → List V} {el s by_ l c : Nat} {agg n1 n2 : Bool} {k1 k2 : IntKind} {zs : List V} {a b : Int} (z : α) [hu : SlcI P t el] [ht : TyI P el agg s by_ zs] (h1 : e x = .dat n1 (.int k1 a)) (h2 : e y = .dat n2 (.int k2 b)) (ha : a = (l : Int)) (hb : b = (c : Int)) (hlc : l ≤ c)
    (hby : c * (by_ + 1) ≤ 140737488355328) (hfz : f z = zs) :
    SStep P ⟨dst, .makeSlice t x y, ty, pos, af, gd⟩ e m [] (.dat true (.slice ((List.replicate l z).map f))) [] := by
  intro C m' ac next Q hag hm hx hn
  have g1 := rd_int (by have := hx x (by simp [Op.operands]); rwa [h1] at this)
  have g2 := rd_int (by have := hx y (by simp [Op.operands]); rwa [h2] at this)
  obtain ⟨i, hi, hsz, hbt, hz⟩ := ht.info
  have hb1 : c * by_ ≤ 140737488355328 := Nat.le_trans (Nat.mul_le_mul_left _ (Nat.le_succ _)) hby
  have hb2 : c ≤ 140737488355328 := by
    have : c * 1 ≤ c * (by_ + 1) := Nat.mul_le_mul_left _ (by omega)
    omega
  have hrun := run_make (P := P) C.w t el i _ hu.out hi hz k1 k2 l c (by omega) (by omega) (by
    rw [hbt]
    have : ((by_ * c : Nat) : Int) ≤ 281474976710656 := by rw [Nat.mul_comm]; omega
    rwa [Int.natCast_mul] at this) (by omega)
  simp only [Int.toNat_natCast, hsz] at hrun
  have hexec : (execOp ac.eval ⟨dst, .makeSlice t x y, ty, pos, af, gd⟩).run P C.w = .ok (.value (.slice (some ⟨C.w.heap.size, 0, none⟩) l c)) (C.w.alloc (.cells (madeCells (zval agg zs).cells (c * s)) el)) := by
    simp [execOp, g1, g2, ha, hb, hrun]
  have hblk : (C.w.alloc (.cells (madeCells (zval agg zs).cells (c * s)) el)).heap[C.w.heap.size]? = some (.cells (madeCells (zval agg zs).cells (c * s)) el (0, 0)) := heap_alloc_new C.w _
  have hz0 := zcells ht
  have hzl := ht.zl
  have hzc := ht.zc
  rw [List.all_eq_true] at hzc
  have hrep : ∀ (i : Nat) (e : List V), ((List.replicate l z).map f)[i]? = some e → i < l ∧ e = zs := fun i e h => by
    rw [List.map_replicate, hfz, List.getElem?_replicate] at h
    split at h
    · injection h with h; exact ⟨by assumption, h.symm⟩
    · cases h
  have hst := step_dat (w := C.w.alloc (.cells (madeCells (zval agg zs).cells (c * s)) el)) (fun k => k = C.w.heap.size) hm (Grew.alloc C.w _)
    (fun k hk => by subst hk; exact ⟨Nat.le_refl _, (Array.getElem?_eq_some_iff.1 hblk).1⟩)
  refine wp_of_value hexec (hn _ _ hst ?_)
  have hcell : ∀ (i j : Nat) (e : List V) (d : V), ((List.replicate l z).map f)[i]? = some e → e[j]? = some d →
      (C.w.alloc (.cells (madeCells (zval agg zs).cells (c * s)) el)).cell? ⟨C.w.heap.size, 0 + i * s + j, none⟩ = some d.val ∧ V.isC d = true := fun i j e d h1 h2 => by
    obtain ⟨hil, he⟩ := hrep i e h1
    rw [he] at h2
    have hj : j < s := by rw [← hzl]; exact (List.getElem?_eq_some_iff.1 h2).1
    rw [cell_of_arr hblk, Nat.zero_add, madeCells_get (Nat.lt_of_lt_of_le (idx_lt hil hj) (Nat.mul_le_mul_right _ hlc)), hz0]
    simp only [List.size_toArray, List.length_map, hzl, idx_mod hj]
    have : (zs.map V.val).toArray[j]! = d.val := by simp [h2]
    rw [this]
    exact ⟨rfl, hzc d (List.mem_of_getElem? h2)⟩
  have hlen : ((List.replicate l z).map f).length = l := by simp
  have := Rd.slice (S := (C.put (fun k => k = C.w.heap.size) (C.w.alloc (.cells (madeCells (zval agg zs).cells (c * s)) el))).D true) (w := C.w.alloc (.cells (madeCells (zval agg zs).cells (c * s)) el))
    ((List.replicate l z).map f) C.w.heap.size 0 c s (fun i j => ((((List.replicate l z).map f)[i]?.getD [])[j]?.getD .undef).val) (by rw [hlen]; exact hlc) (by unfold maxLen; omega)
    (fun i e h => by rw [(hrep i e h).2, hzl])
    (fun i j e d h1 h2 => isC_one (hcell i j e d h1 h2).2) (fun _ => .inr rfl)
    (fun i j e d h1 h2 => by rw [h1, Option.getD_some, h2, Option.getD_some]; exact (hcell i j e d h1 h2).1)
    (fun i j e d h1 h2 => by rw [h1, Option.getD_some, h2, Option.getD_some]; exact val_rd (hcell i j e d h1 h2).2)
  rw [hlen] at this
  exact this
theorem S_bs {n : Bool} {l : List UInt8} {s el : TypeId} [hu : SlcI P s el] (he : P.underlying el = some (.int .u8)) (ht : P.underlying t = some .string) (h : e x = .dat n (.slice (l.map byteV))) :
    SStep P ⟨dst, .convert s t x, ty, pos, af, gd⟩ e m [] (.dat true (.str l)) [] := S_bytes_str he ht h
theorem S_compl {n : Bool} {k : IntKind} {a : Int} (h : e x = .dat n (.int k a)) : SStep P ⟨dst, .unOp .xor t x, ty, pos, af, gd⟩ e m [] (.dat true (.int k (k.xorI (if k.signed then -1 else k.max) a))) [] :=
  .pure fun C m' ac _ _ hx => by
    have h1 := hx x (by simp [Op.operands]); rw [h] at h1
    exact ⟨.int k (k.xorI (if k.signed then -1 else k.max) a), by simp [execOp, rd_int h1, Op.unary, Op.intBits, IntKind.xorI], mk_int⟩
theorem splice_set {cs : List D} {off : Nat} {d : D} (h : off < cs.length) : splice cs off [d] = cs.set off d := by
  apply List.ext_getElem?
  intro j
  rw [splice_get (by simp only [List.length_singleton]; omega), List.getElem?_set]
  simp only [List.length_singleton]
  by_cases hj : off = j
  · subst hj
    rw [if_pos ⟨Nat.le_refl _, by omega⟩, if_pos rfl, if_pos h, Nat.sub_self]; rfl
  · rw [if_neg (by omega), if_neg hj]
/-- A store into such an array. -/
theorem S_storeA {α : Type} {f : α → D} {us : List α} {a : α} {nw : Bool} {by_ g off : Nat} {zs : List V} [ht : TyI P t false 1 by_ zs] (h : e x = .ptr g off) (hm : m.at g = .cells false nw (us.map f))
    (hd : (e y).cells = some [f a]) (hok : okCells [f a] = true) (hlt : off < us.length) :
    SStep P ⟨none, .store t x y, ty, pos, af, gd⟩ e m [g] .any [(g, .cells false nw ((us.set off a).map f))] := by
  have := S_store (P := P) (t := t) (m := m) (ty := ty) (pos := pos) (af := af) (gd := gd) h hm hd hok rfl (Nat.ble_eq_true_of_le (by rw [List.length_map]; omega))
  rw [splice_set (by simpa using hlt), ← List.map_set] at this
  exact this
/-- []byte of a constant string: a literal row that is marked beyond its end. -/
theorem S_cvt {g ver len el : Nat} {nw : Bool} {xs : List (List V)} [hu : SlcI P t el] (he : P.underlying el = some (.int .u8)) (h1 : e x = .own g ver 0 len) (hmg : m.at g = .row ver false nw 1 xs) (hl : Nat.blt 0 len = true) :
    SStep P ⟨dst, .convert t t x, ty, pos, af, gd⟩ e m [g] (.own g ver 0 len) [(g, .row ver false nw 1 xs)] := by
  intro C m' a next Q ha hm hx hn
  have g1 := hx x (by simp [Op.operands]); rw [h1] at g1
  have g0 := g1
  have hmg' : m'.at g = .row ver false nw 1 xs := (ha g (.inl (by simp))).trans hmg
  obtain ⟨ver', frz', nw', sz', xs', hat, _, _, hv0⟩ := g1
  rw [hmg'] at hat
  injection hat with e1 e2 e3 e4 e5
  subst e1 e2 e3 e4 e5
  obtain ⟨_, hv⟩ := hv0 rfl
  have hbox := hm.box g
  rw [hmg'] at hbox
  cases hi : C.ι g with
  | none =>
    rw [hi] at hv
    obtain ⟨_, _, hl0⟩ := hv
    subst hl0
    cases hl
  | some b =>
    rw [hi] at hv hbox
    obtain ⟨cap, arr, T, fz, q1, q2, _, _, _⟩ := hv
    obtain ⟨arr2, T2, fz2, k1, k2, k3, k4, k5, k6, _⟩ := hbox
    rw [q2] at k1
    injection k1 with k1
    injection k1 with p1 p2 p3
    subst p1 p2 p3
    have hshape : C.w.shape? b = some (T, arr.size) := by simp [World.shape?, q2]
    have hrun : (convert t t (a.eval x)).run P C.w = .ok (a.eval x) (C.w.freeze ⟨b, arr.size, none⟩ 1) := by
      rw [q1]
      simp [convert, run_under hu.out, run_under he, markStringish, hshape]
    have hheap : (C.w.freeze ⟨b, arr.size, none⟩ 1).heap[b]? = some (.cells arr T (if fz.1 == fz.2 then (arr.size, arr.size + 1) else (min fz.1 arr.size, max fz.2 (arr.size + 1)))) := by
      simp [World.freeze, Array.getElem?_modify, q2]
    have hloose : Loose 1 arr (if fz.1 == fz.2 then (arr.size, arr.size + 1) else (min fz.1 arr.size, max fz.2 (arr.size + 1))) := by
      by_cases hz : fz.1 = fz.2
      · simp only [hz, beq_self_eq_true, if_true]
        exact ⟨fun i hi h => by simp only at h; omega, Nat.le_succ _, .inl rfl⟩
      · have hz' : (fz.1 == fz.2) = false := by simpa using hz
        have h2 := k2.2.1
        have h3 : arr.size ≤ fz.1 := Nat.le_of_not_lt (fun h => k2.1 fz.1 h ⟨Nat.le_refl _, by omega⟩)
        simp only [hz', Bool.false_eq_true, if_false]
        refine ⟨fun i hi h => ?_, ?_, .inl rfl⟩
        · simp only at h; omega
        · simp only; omega
    have hst := row_write (w' := C.w.freeze ⟨b, arr.size, none⟩ 1) (arr' := arr) hm hmg' hi rfl q2 hheap rfl rfl rfl rfl (by simp [World.freeze]) (fun k hk => by
        simp only [World.freeze]
        rw [if_neg (by decide)]
        rw [Array.getElem?_modify, if_neg (fun h => hk h.symm)])
      (fun hd => ⟨arr, T, _, hheap, hloose, k3, k4, k5, fun i j e' d c h1 h2 h3 => hd _ _ _ (k6 i j e' d c h1 h2 h3), fun h => by cases h⟩)
    exact wp_of_value (v := a.eval x) (w' := C.w.freeze ⟨b, arr.size, none⟩ 1) (by simp [execOp, hrun]) (hn _ _ hst (hst.slot _ _ g0))
end
end Go.Proofs.Ytpdoplmnedpdaaa
