/- Calls that change a row of the caller's in its place: no slot of it is lost. Steps of code that keep all slots (DWS), contracts (FnI), the call. -/
import Derived.Test.YtkppkgahdoglpaatbGo
namespace Go.Proofs.Ytkppkgahdoglpaa
open Go.RowKit
theorem whole_eq {α : Type} {f : α → List V} {us : List α} {n : Nat} (h : us.length = n) : ((us.map f).drop 0).take n = us.map f := by
  subst h; simp [List.take_of_length_le]
theorem tail_eq {α : Type} {us : List α} {l : Nat} : (us.drop l).take (us.length - l) = us.drop l := List.take_of_length_le (by simp)
theorem fnF_own {P : Program} {f : FuncId} {ds : List V} {sz len : Nat} {xs : List (List V)} (h : FnG P f (ds.map (.dat false)) [] (.own 1000 0 0 len) [(1000, .row 0 false true sz xs)]) (hl : len = xs.length) : FnF P f ds (.slice xs) := by
  subst hl
  refine ⟨h.1, fun S w vs hS hr => ?_⟩
  have hc := h.2 ⟨fun _ => none, S, fun _ => False, w⟩ vs
    ⟨fun g => trivial, fun g g' b (h : Box.gone ≠ Box.gone) => absurd rfl h, fun g b (h : false = true) => by (cases h), hS, fun b (h : False) => h.elim⟩ (by simp [hr.1])
    (fun j d v h1 h2 => by
      rw [List.getElem?_map] at h1
      cases hd : ds[j]? with
      | none => rw [hd] at h1; cases h1
      | some x =>
        rw [hd] at h1
        injection h1 with h1
        subst h1
        exact hr.2 j x v hd h2)
  refine Calls.mono hc ?_
  rintro e w' ⟨v, C', rfl, rfl, hx, hm, hv⟩
  have hz : Env.at [(0, D.own 1000 0 0 xs.length)] 0 = .own 1000 0 0 xs.length := look_same _ _ _ _
  obtain ⟨C1, e1, h1, x1⟩ := Wk_freeze (env := [(0, .own 1000 0 0 xs.length)]) (mem := [(1000, .row 0 false true sz xs)]) (n := 1) 1000 (fun kt et es h => by rw [Mem.at_cons_same] at h; cases h) C' ⟨#[v], []⟩
    ⟨hm, rfl, rfl, fun t => by
      match t with
      | 0 => rw [show (St.mk [(0, D.own 1000 0 0 xs.length)] [(1000, Box.row 0 false true sz xs)] 1).env = [(0, D.own 1000 0 0 xs.length)] from rfl, hz]; exact hv
      | t + 1 => exact trivial⟩
  have hv1 := h1.env 0
  rw [show (St.mk [(0, D.own 1000 0 0 xs.length)] ((1000, frzBox (Mem.at [(1000, Box.row 0 false true sz xs)] 1000)) :: [(1000, Box.row 0 false true sz xs)]) 1).env = [(0, D.own 1000 0 0 xs.length)] from rfl, hz] at hv1
  have hr1 := asV_ok (n := true) (x := .slice xs) h1.mem (fun _ _ => rfl) (by
    show asV ((1000, frzBox (Mem.at [(1000, Box.row 0 false true sz xs)] 1000)) :: [(1000, Box.row 0 false true sz xs)]) _ = _
    simp [asV, asV0, Mem.at_cons_same, frzBox]) hv1
  refine ⟨v, rfl, ⟨hx.os, hx.tape, hx.output, hx.size, fun k hk => hx.keep k hk (fun g hg => by simp [Mem.at, look, Box.mut] at hg)⟩, ?_⟩
  have hxx := hx.trans x1
  rw [← e1]
  refine Rd.mono hr1 (fun b hb => ?_) (fun _ _ => rfl)
  refine ⟨?_, h1.mem.sdom b (h1.mem.ns b hb)⟩
  rcases hxx.supN b hb with k1 | k1 | ⟨g0, k1, _⟩
  · exact k1.elim
  · exact k1
  · simp [Mem.at, look, Box.mut] at k1
class DatI {α : Type} (f : α → D) : Prop where
  out : ∀ a, ∃ n x, f a = .dat n x
theorem listLe_map {α : Type} {f : α → D} [hf : DatI f] {s e : Mem} {ρ : Nat → Option Nat} : ∀ us : List α, listLe s e ρ (us.map f) (us.map f)
  | [] => trivial
  | a :: r => by
    obtain ⟨n, x, h⟩ := hf.out a
    refine ⟨?_, listLe_map r⟩
    show slotLe s e ρ (f a) (f a)
    rw [h]
    exact ⟨n, rfl, .inl rfl⟩
section
variable {P : Program} {e : Operand → D} {m : Mem} {dst : Option Tmp} {ty : TypeId} {pos : String} {af : Array Edge} {gd : Option (Nat × Bool)} {x y : Operand} {t : TypeId}
theorem S_slM {α : Type} {f : α → List V} {us : List α} {n agg : Bool} {el s by_ l h : Nat} {zs : List V} {lo hi : Option Operand} (us' : List α) [hu : SlcI P t el] [ht : TyI P el agg s by_ zs] [hf : CellsI f s] (h1 : e x = .dat n (.slice (us.map f)))
    (hlo : BndD (lo.map e) 0 l) (hhi : BndD (hi.map e) us.length h) (hle : l ≤ h) (hhl : h ≤ us.length) (hq : (us.drop l).take (h - l) = us') :
    SStep P ⟨dst, .slice t x lo hi none, ty, pos, af, gd⟩ e m [] (.dat n (.slice (us'.map f))) [] := by
  have hl : (us.map f).length = us.length := by simp
  have := S_slice (P := P) (m := m) (t := t) (el := el) (by_ := by_) (zs := zs) (agg := agg) (dst := dst) (ty := ty) (pos := pos) (af := af) (gd := gd) h1 hlo (by rw [hl]; exact hhi) hle (by rw [hl]; exact hhl) (map_len us)
  rw [← List.map_drop, ← List.map_take, hq] at this
  exact this
theorem S_mkD {α : Type} {f : α → List V} {el s by_ l c : Nat} {agg n1 n2 : Bool} {k1 k2 : IntKind} {zs : List V} {a b : Int} (z : α) [hu : SlcI P t el] [ht : TyI P el agg s by_ zs] (h1 : e x = .dat n1 (.int k1 a)) (h2 : e y = .dat n2 (.int k2 b)) (ha : a = (l : Int)) (hb : b = (c : Int)) (hlc : l ≤ c)
    (hby : c * (by_ + 1) ≤ 140737488355328) (hfz : f z = zs) :
    SStep P ⟨dst, .makeSlice t x y, ty, pos, af, gd⟩ e m [] (.dat true (.slice ((List.replicate l z).map f))) [] := by
  intro C m' ac next Q hag hm hx hn
  have g1 := rd_int (by have := hx x (by simp [Op.operands]); rwa [h1] at this)
  have g2 := rd_int (by have := hx y (by simp [Op.operands]); rwa [h2] at this)
  obtain ⟨i, hi, hsz, hbt, hz⟩ := ht.info
  have hb1 : c * by_ ≤ 140737488355328 := Nat.le_trans (Nat.mul_le_mul_left _ (Nat.le_succ _)) hby
  have hb2 : c ≤ 140737488355328 := by
    have : c * 1 ≤ c * (by_ + 1) := Nat.mul_le_mul_left _ (by omega)
    omega
  have hrun := run_make (P := P) C.w t el i _ hu.out hi hz k1 k2 l c (by omega) (by omega) (by
    rw [hbt]
    have : ((by_ * c : Nat) : Int) ≤ 281474976710656 := by rw [Nat.mul_comm]; omega
    rwa [Int.natCast_mul] at this) (by omega)
  simp only [Int.toNat_natCast, hsz] at hrun
  have hexec : (execOp ac.eval ⟨dst, .makeSlice t x y, ty, pos, af, gd⟩).run P C.w = .ok (.value (.slice (some ⟨C.w.heap.size, 0, none⟩) l c)) (C.w.alloc (.cells (madeCells (zval agg zs).cells (c * s)) el)) := by
    simp [execOp, g1, g2, ha, hb, hrun]
  have hblk : (C.w.alloc (.cells (madeCells (zval agg zs).cells (c * s)) el)).heap[C.w.heap.size]? = some (.cells (madeCells (zval agg zs).cells (c * s)) el (0, 0)) := heap_alloc_new C.w _
  have hz0 := zcells ht
  have hzl := ht.zl
  have hzc := ht.zc
  rw [List.all_eq_true] at hzc
  have hrep : ∀ (i : Nat) (e : List V), ((List.replicate l z).map f)[i]? = some e → i < l ∧ e = zs := fun i e h => by
    rw [List.map_replicate, hfz, List.getElem?_replicate] at h
    split at h
    · injection h with h; exact ⟨by assumption, h.symm⟩
    · cases h
  have hst := step_dat (w := C.w.alloc (.cells (madeCells (zval agg zs).cells (c * s)) el)) (fun k => k = C.w.heap.size) hm (Grew.alloc C.w _)
    (fun k hk => by subst hk; exact ⟨Nat.le_refl _, (Array.getElem?_eq_some_iff.1 hblk).1⟩)
  refine wp_of_value hexec (hn _ _ hst ?_)
  have hcell : ∀ (i j : Nat) (e : List V) (d : V), ((List.replicate l z).map f)[i]? = some e → e[j]? = some d →
      (C.w.alloc (.cells (madeCells (zval agg zs).cells (c * s)) el)).cell? ⟨C.w.heap.size, 0 + i * s + j, none⟩ = some d.val ∧ V.isC d = true := fun i j e d h1 h2 => by
    obtain ⟨hil, he⟩ := hrep i e h1
    rw [he] at h2
    have hj : j < s := by rw [← hzl]; exact (List.getElem?_eq_some_iff.1 h2).1
    rw [cell_of_arr hblk, Nat.zero_add, madeCells_get (Nat.lt_of_lt_of_le (idx_lt hil hj) (Nat.mul_le_mul_right _ hlc)), hz0]
    simp only [List.size_toArray, List.length_map, hzl, idx_mod hj]
    have : (zs.map V.val).toArray[j]! = d.val := by simp [h2]
    rw [this]
    exact ⟨rfl, hzc d (List.mem_of_getElem? h2)⟩
  have hlen : ((List.replicate l z).map f).length = l := by simp
  have := Rd.slice (S := (C.put (fun k => k = C.w.heap.size) (C.w.alloc (.cells (madeCells (zval agg zs).cells (c * s)) el))).D true) (w := C.w.alloc (.cells (madeCells (zval agg zs).cells (c * s)) el))
    ((List.replicate l z).map f) C.w.heap.size 0 c s (fun i j => ((((List.replicate l z).map f)[i]?.getD [])[j]?.getD .undef).val) (by rw [hlen]; exact hlc) (by unfold maxLen; omega)
    (fun i e h => by rw [(hrep i e h).2, hzl])
    (fun i j e d h1 h2 => isC_one (hcell i j e d h1 h2).2) (fun _ => .inr rfl)
    (fun i j e d h1 h2 => by rw [h1, Option.getD_some, h2, Option.getD_some]; exact (hcell i j e d h1 h2).1)
    (fun i j e d h1 h2 => by rw [h1, Option.getD_some, h2, Option.getD_some]; exact val_rd (hcell i j e d h1 h2).2)
  rw [hlen] at this
  exact this
theorem S_bs {n : Bool} {l : List UInt8} {s el : TypeId} [hu : SlcI P s el] (he : P.underlying el = some (.int .u8)) (ht : P.underlying t = some .string) (h : e x = .dat n (.slice (l.map byteV))) :
    SStep P ⟨dst, .convert s t x, ty, pos, af, gd⟩ e m [] (.dat true (.str l)) [] := S_bytes_str he ht h
theorem S_compl {n : Bool} {k : IntKind} {a : Int} (h : e x = .dat n (.int k a)) : SStep P ⟨dst, .unOp .xor t x, ty, pos, af, gd⟩ e m [] (.dat true (.int k (k.xorI (if k.signed then -1 else k.max) a))) [] :=
  .pure fun C m' ac _ _ hx => by
    have h1 := hx x (by simp [Op.operands]); rw [h] at h1
    exact ⟨.int k (k.xorI (if k.signed then -1 else k.max) a), by simp [execOp, rd_int h1, Op.unary, Op.intBits, IntKind.xorI], mk_int⟩
theorem splice_set {cs : List D} {off : Nat} {d : D} (h : off < cs.length) : splice cs off [d] = cs.set off d := by
  apply List.ext_getElem?
  intro j
  rw [splice_get (by simp only [List.length_singleton]; omega), List.getElem?_set]
  simp only [List.length_singleton]
  by_cases hj : off = j
  · subst hj
    rw [if_pos ⟨Nat.le_refl _, by omega⟩, if_pos rfl, if_pos h, Nat.sub_self]; rfl
  · rw [if_neg (by omega), if_neg hj]
theorem S_storeA {α : Type} {f : α → D} {us : List α} {a : α} {nw : Bool} {by_ g off : Nat} {zs : List V} [ht : TyI P t false 1 by_ zs] (h : e x = .ptr g off) (hm : m.at g = .cells false nw (us.map f))
    (hd : (e y).cells = some [f a]) (hok : okCells [f a] = true) (hlt : off < us.length) :
    SStep P ⟨none, .store t x y, ty, pos, af, gd⟩ e m [g] .any [(g, .cells false nw ((us.set off a).map f))] := by
  have := S_store (P := P) (t := t) (m := m) (ty := ty) (pos := pos) (af := af) (gd := gd) h hm hd hok rfl (Nat.ble_eq_true_of_le (by rw [List.length_map]; omega))
  rw [splice_set (by simpa using hlt), ← List.map_set] at this
  exact this
end
end Go.Proofs.Ytkppkgahdoglpaa
namespace Go.Proofs.Ytkppkgahdoglpaa
open Go.RowKit
theorem frz_step {C : Cf} {mem : Mem} (hm : HoldsM C mem) (g : Nat) (hk : ∀ kt et es, mem.at g ≠ .mapb kt et es) : ∃ C', C'.w = C.w ∧ Step C mem C' ((g, frzBox (mem.at g)) :: mem) := by
  let X : Nat → Prop := fun b => (mem.at g).mut = true ∧ C.ι g = some b
  let C' : Cf := { C with S := fun b => C.S b ∨ X b, N := fun b => C.N b ∨ X b }
  have hD : ∀ nw b, C.D nw b → C'.D nw b := fun nw b h => by cases nw <;> exact .inl h
  have hd : ∀ n x v, RdF C n x v → RdF C' n x v := fun n x v h => Rd.mono h (hD n) (fun _ _ => rfl)
  have hat : ∀ g', Mem.at ((g, frzBox (mem.at g)) :: mem) g' = if g = g' then frzBox (mem.at g) else mem.at g' := fun g' => look_cons _ _ _ _ _
  have hs : ∀ d v, RdS C mem d v → RdS C' ((g, frzBox (mem.at g)) :: mem) d v := by
    intro d v h
    cases d with
    | any => trivial
    | nil => exact h
    | dat n x => exact hd n x v h
    | own g' ver lo len =>
      obtain ⟨ver', frz, nw, sz, xs, h1, h2, h3, h4⟩ := h
      by_cases hg : g = g'
      · subst hg
        exact ⟨ver', true, nw, sz, xs, by rw [hat, if_pos rfl, h1]; rfl, h2, h3, h4⟩
      · exact ⟨ver', frz, nw, sz, xs, by rw [hat, if_neg hg]; exact h1, h2, h3, h4⟩
    | ptr g' off =>
      obtain ⟨frz, nw, cs, b, h1, h2, h3⟩ := h
      by_cases hg : g = g'
      · subst hg
        exact ⟨true, nw, cs, b, by rw [hat, if_pos rfl, h1]; rfl, h2, h3⟩
      · exact ⟨frz, nw, cs, b, by rw [hat, if_neg hg]; exact h1, h2, h3⟩
    | rptr g' ver i off =>
      obtain ⟨ver', frz, nw, sz, xs, h1, h2, h3, h4⟩ := h
      by_cases hg : g = g'
      · subst hg
        exact ⟨ver', true, nw, sz, xs, by rw [hat, if_pos rfl, h1]; rfl, h2, h3, h4⟩
      · exact ⟨ver', frz, nw, sz, xs, by rw [hat, if_neg hg]; exact h1, h2, h3, h4⟩
    | mp g' =>
      obtain ⟨kt, et, es, b, h1, h2, h3⟩ := h
      have hg : g ≠ g' := by rintro rfl; exact hk _ _ _ h1
      exact ⟨kt, et, es, b, by rw [hat, if_neg hg]; exact h1, h2, h3⟩
    | sl g' n =>
      obtain ⟨frz, nw, cs, b, cap, h1, h2, h3⟩ := h
      by_cases hg : g = g'
      · subst hg
        exact ⟨true, nw, cs, b, cap, by rw [hat, if_pos rfl, h1]; rfl, h2, h3⟩
      · exact ⟨frz, nw, cs, b, cap, by rw [hat, if_neg hg]; exact h1, h2, h3⟩
    | _ => exact h.elim
  have hmutne : ∀ g', (Mem.at ((g, frzBox (mem.at g)) :: mem) g').mut = true → g ≠ g' ∧ (mem.at g').mut = true := by
    intro g' h
    rw [hat] at h
    by_cases hg : g = g'
    · rw [if_pos hg] at h
      cases hb : mem.at g with
      | mapb kt et es => exact absurd hb (hk _ _ _)
      | _ => rw [hb] at h; simp [frzBox, Box.mut] at h
    · rw [if_neg hg] at h
      exact ⟨hg, h⟩
  have hgone : ∀ g', Mem.at ((g, frzBox (mem.at g)) :: mem) g' ≠ .gone → mem.at g' ≠ .gone := by
    intro g' h
    rw [hat] at h
    by_cases hg : g = g'
    · rw [if_pos hg] at h
      subst hg
      intro h0
      rw [h0] at h
      exact h rfl
    · rwa [if_neg hg] at h
  have hext : Ext C mem C' ((g, frzBox (mem.at g)) :: mem) := by
    refine ⟨rfl, rfl, rfl, Nat.le_refl _, fun _ _ _ => rfl, fun g' b h1 h2 => .inr ⟨g', (hmutne g' h1).2, h2⟩, fun _ h => .inl h, fun _ h => .inl h, fun b hb => ?_, fun b hb => ?_⟩
    · rcases hb with hb | hb
      · exact .inl hb
      · exact .inr (.inr hb)
    · rcases hb with hb | ⟨h1, h2⟩
      · exact .inl hb
      · exact .inr (.inr ⟨g, h1, h2⟩)
  refine ⟨C', rfl, ⟨hext, ⟨fun g' => ?_, fun g1 g2 b h1 h2 => hm.inj g1 g2 b (hgone g1 h1) (hgone g2 h2), fun g' b h1 h2 h3 => ?_, fun b hb => ?_, fun b hb => hb.imp (hm.ns b) id⟩, fun d v h => RdD.of_S hs d v h⟩⟩
  · have h0 := BoxOK.upd (hm.box g') (C' := C') (fun _ _ => rfl) hd hs (fun b h => .inl h) (fun b h => .inl h)
    show BoxOK C' _ (C.ι g') _
    rw [hat]
    by_cases hg : g = g'
    · subst hg
      rw [if_pos rfl]
      cases hb : mem.at g with
      | cells frz nw cs =>
        rw [hb] at h0
        obtain ⟨b, hi, arr, T, fz, h1, h2, h3, h4, h5⟩ := h0
        refine ⟨b, hi, arr, T, fz, h1, h2, h3, h4, fun _ => ?_⟩
        cases frz with
        | true => exact h5 rfl
        | false =>
          have hx : X b := ⟨by rw [hb]; rfl, hi⟩
          cases nw <;> exact .inr hx
      | row ver frz nw sz xs =>
        rw [hb] at h0
        cases hi : C.ι g with
        | none => rw [hi] at h0; exact h0
        | some b =>
          rw [hi] at h0
          obtain ⟨arr, T, fz, h1, h2, h3, h4, h5, h6, h7⟩ := h0
          refine ⟨arr, T, fz, h1, h2, h3, h4, h5, h6, fun _ => ?_⟩
          cases frz with
          | true => exact h7 rfl
          | false => exact .inr ⟨by rw [hb]; rfl, hi⟩
      | mapb kt et es => exact absurd hb (hk _ _ _)
      | gone => trivial
    · rw [if_neg hg]
      exact h0
  · obtain ⟨hg, hmt⟩ := hmutne g' h1
    rcases h3 with h3 | ⟨h3, h4⟩
    · exact hm.sep g' b hmt h2 h3
    · refine hg (hm.inj g g' b ?_ ?_ h4 h2)
      · intro h0
        have h0 : mem.at g = .gone := h0
        rw [h0] at h3; cases h3
      · intro h0
        have h0 : mem.at g' = .gone := h0
        rw [h0] at hmt; cases hmt
  · rcases hb with hb | ⟨h1, h2⟩
    · exact hm.sdom b hb
    · exact BoxOK.lt hm (g := g) (by intro h0; have h0 : mem.at g = .gone := h0; rw [h0] at h1; cases h1) h2
section
variable {P : Program} {e : Operand → D} {m : Mem} {o : Oper} {rd : List Nat} {val : D} {wr : Mem}
theorem S_frz (g : Nat) {bx : Box} (hmg : m.at g = bx) (hk : (match bx with | .mapb _ _ _ => false | _ => true) = true) (h : SStep P o e ((g, frzBox bx) :: m) rd val wr) :
    SStep P o e m (g :: rd) val (wr ++ [(g, frzBox bx)]) := by
  intro C m' a next Q hag hm hxs hn
  have hg' : m'.at g = bx := (hag g (.inl (List.mem_cons.2 (.inl rfl)))).trans hmg
  obtain ⟨C1, e1, h1⟩ := frz_step hm g (fun kt et es h0 => by rw [hg'] at h0; subst h0; cases hk)
  rw [hg'] at h1
  rw [← e1]
  refine h C1 ((g, frzBox bx) :: m') a next Q (fun g' hg'' => ?_) h1.holds (fun x hx' => h1.slot _ _ (hxs x hx')) (fun v C2 h2 hv => ?_)
  · show Mem.at ((g, frzBox bx) :: m') g' = Mem.at ((g, frzBox bx) :: m) g'
    unfold Mem.at
    rw [look_cons, look_cons]
    by_cases he : g = g'
    · rw [if_pos he, if_pos he]
    · rw [if_neg he, if_neg he]
      refine hag g' ?_
      rcases hg'' with h0 | h0
      · exact .inl (List.mem_cons.2 (.inr h0))
      · refine .inr ?_
        rw [List.map_append, List.mem_append]
        exact .inl h0
  · have e2 : wr ++ [(g, frzBox bx)] ++ m' = wr ++ ((g, frzBox bx) :: m') := by simp
    refine hn v C2 ?_ ?_
    · rw [e2]; exact h1.trans h2
    · rw [e2]; exact hv
end
section
variable {P : Program} {ops : Array Oper} {r : List Oper} {env : Env} {mem : Mem} {nt : Nat} {acc : List (List Nat × List Nat)} {K : List (List Nat × List Nat) → St → Prop} {rd : List Nat} {val : D} {wr : Mem}
  {t : Nat} {c : Call} {ty : TypeId} {pos : String} {af : Array Edge}
end
end Go.Proofs.Ytkppkgahdoglpaa
namespace Go.Proofs.Ytkppkgahdoglpaa
open Go.RowKit
def DWS (P : Program) (c : Code) (Q : Exit → St → Prop) (s : St) : Prop :=
  ∀ (C : Cf) (a : Act), Holds C s a → c.wp P (fun e a' w' => ∃ C' s', C'.w = w' ∧ Q e s' ∧ Holds C' s' a' ∧ Step C s.mem C' s'.mem) a C.w
section
variable {P : Program} {Q Q' : Exit → St → Prop} {s s' : St}
theorem DWS_seq {x y : Code} (h : DWS P x (thenQ (DWS P y Q) Q) s) : DWS P (.seq x y) Q s := fun C a hh => by
  refine wp_seq (Code.wp_mono ?_ (h C a hh))
  rintro e a1 w1 ⟨C1, s1, rfl, q1, h1, x1⟩
  cases e with
  | normal => exact Code.wp_mono (fun ex a2 w2 ⟨C2, s2, e2, q2, h2, x2⟩ => ⟨C2, s2, e2, q2, h2, x1.trans x2⟩) (q1 C1 a1 h1)
  | _ => exact ⟨C1, s1, rfl, q1, h1, x1⟩
theorem DWS_region {id : Nat} {l : List Oper} (h : DOps P l.toArray l s [] (fun _ s' => Q .normal s')) : DWS P (.region id l.toArray false) Q s := fun C a hh => by
  obtain ⟨tr, s', hr, hq⟩ := h
  exact wp_region_lit (wpList_of_run l s tr s' C a hr hh (fun C' a' h' x' => ⟨C', s', rfl, hq, h', x'⟩))
theorem DWS_draw {id : Nat} {l : List Oper} (h : DOps P l.toArray l s [] (fun acc s' => chk l acc = true ∧ Q .normal s')) : DWS P (.region id l.toArray true) Q s := fun _C _a hh => draw_wp h hh
end
def FnI (P : Program) (f : FuncId) (ds : List D) (m m' : Mem) : Prop := Callable P f ∧
  ∀ (C : Cf) (vs : Array Value), HoldsM C m → vs.size = ds.length → (∀ (j : Nat) d v, ds[j]? = some d → vs[j]? = some v → RdD C m d v) →
    Calls P f vs C.w fun e w' => ∃ v C', e = .returned v ∧ C'.w = w' ∧ Step C m C' m'
def inB (m : Mem) (g : Nat) : Box → Box
  | .row _ frz nw sz xs => .row (rowVer (m.at g)) frz nw sz xs
  | b => b
def inM (m m' : Mem) : Tr → Mem
  | [] => []
  | (k, g) :: r => (g, inB m g (m'.at k)) :: inM m m' r
def backOK0 (mk' : Mem) : Tr → Prop
  | [] => True
  | (k, _) :: r => (∃ nw sz xs, mk'.at k = .row 0 false nw sz xs) ∧ backOK0 mk' r
theorem backOK0_mem {mk' : Mem} : ∀ {T : Tr}, backOK0 mk' T → ∀ {k g : Nat}, (k, g) ∈ T → ∃ nw sz xs, mk'.at k = .row 0 false nw sz xs
  | (k0, g0) :: _, h, k, g, hm => by
    rcases List.mem_cons.1 hm with e | hm
    · injection e with e1 e2; rw [e1]; exact h.1
    · exact backOK0_mem h.2 hm
theorem inM_at {mk' : Mem} : ∀ (T : Tr) (m : Mem) (g : Nat), Mem.at (inM m mk' T ++ m) g = match toK T g with | some k => inB m g (mk'.at k) | none => m.at g := fun T m g => by
  have key : ∀ (T : Tr) (m0 : Mem), Mem.at (inM m0 mk' T ++ m) g = match toK T g with | some k => inB m0 g (mk'.at k) | none => m.at g := by
    intro T m0
    induction T with
    | nil => rfl
    | cons p r ih =>
      obtain ⟨k, g'⟩ := p
      show look _ ((g', _) :: (inM m0 mk' r ++ m)) g = _
      rw [look_cons]
      simp only [toK]
      by_cases h : g' = g
      · subst h
        rw [if_pos rfl, show Nat.beq g' g' = true by simp]
        rfl
      · rw [if_neg h, nbeqf.2 h]
        exact ih
  exact key T m
section
variable {C C1 : Cf} {m mk mk' : Mem} {T : Tr}
theorem back_stepI (hh : HoldsM C m) (ht : okT T = true) (hl : lentOK m mk T) (hk : keysIn T mk = true) (_hk' : keysIn T mk' = true) (hb' : backOK0 mk' T)
    (hst : Step (lentC C T) mk C1 mk') : Step C m (backC C C1 T) (inM m mk' T ++ m) := by
  have hx := hst.ext
  have h1 := hst.holds
  have hslot := hst.slot
  have hat : ∀ g, Mem.at (inM m mk' T ++ m) g = match toK T g with | some k => inB m g (mk'.at k) | none => m.at g := fun g => inM_at T m g
  have lt : ∀ {g b}, m.at g ≠ .gone → C.ι g = some b → b < C.w.heap.size := fun h i => BoxOK.lt hh h i
  have mutK : ∀ k b, (mk.at k).mut = true → (lentC C T).ι k = some b → ∃ g, toG T k = some g ∧ C.ι g = some b ∧ (m.at g).mut = true := fun k b hm hi => by
    have hkg : mk.at k ≠ .gone := by intro h; rw [h] at hm; cases hm
    obtain ⟨g, hg⟩ := keysIn_ok hk hkg
    have hi : (toG T k).bind C.ι = some b := hi
    rw [hg, Option.bind_some] at hi
    rcases lentOK_mem hl (toG_mem hg) with ⟨q, _⟩ | ⟨ver, nw, sz, xs, _, q⟩
    · exact absurd q hkg
    · exact ⟨g, hg, hi, by rw [q]; rfl⟩
  have keepS : ∀ b, C.S b → C1.w.heap[b]? = C.w.heap[b]? := fun b hb => hx.keep b (hh.sdom b hb) (fun k hm hi => by
    obtain ⟨g, _, i, mu⟩ := mutK k b hm hi
    exact hh.sep g b mu i hb)
  have keepG : ∀ g b, toK T g = none → m.at g ≠ .gone → C.ι g = some b → C1.w.heap[b]? = C.w.heap[b]? := fun g b hg hgo hi => hx.keep b (lt hgo hi) (fun k hm hik => by
    obtain ⟨g', e1, i, mu⟩ := mutK k b hm hik
    have : m.at g' ≠ .gone := by intro h; rw [h] at mu; cases mu
    have := hh.inj g g' b hgo this hi i
    subst this
    rw [(toGK ht).1 e1] at hg
    cases hg)
  have hd : ∀ n x v, RdF C n x v → RdF (backC C C1 T) n x v := fun n x v h => by
    cases n
    · exact Rd.mono h hx.sS keepS
    · exact Rd.mono h hx.sN (fun b hb => keepS b (hh.ns b hb))
  have hs : ∀ d v, RdS C m d v → RdS (backC C C1 T) (inM m mk' T ++ m) d v := by
    intro d v h
    cases d with
    | any => trivial
    | nil => exact h
    | grd b d => exact h.elim
    | aggd cs => exact h.elim
    | fnd _ _ => exact h.elim
    | dat n x => exact hd n x v h
    | own g ver lo len =>
      obtain ⟨ver', frz, nw, sz, xs, e1, e2, e3, e4⟩ := h
      cases hg : toK T g with
      | none =>
        refine ⟨ver', frz, nw, sz, xs, by rw [hat, hg]; exact e1, e2, e3, fun hv => ?_⟩
        obtain ⟨q1, q2⟩ := e4 hv
        refine ⟨q1, ?_⟩
        show OwnV C1.w sz (match toK T g with | some k => C1.ι k | none => C.ι g) lo len v
        rw [hg]
        unfold OwnV at *
        cases hi : C.ι g with
        | none => simp only [hi] at q2 ⊢; exact q2
        | some b =>
          simp only [hi] at q2 ⊢
          obtain ⟨cap, arr, T', fz, p1, p2, p3⟩ := q2
          exact ⟨cap, arr, T', fz, p1, (keepG g b hg (by rw [e1]; simp) hi).trans p2, p3⟩
      | some k =>
        rcases lentOK_mem hl (toK_mem hg) with ⟨_, q⟩ | ⟨ver2, nw2, sz2, xs2, q1, q2⟩
        · rw [e1] at q; cases q
        · rw [e1] at q2
          injection q2 with p1 p2 p3 p4 p5
          subst p1 p2 p3 p4 p5
          obtain ⟨nw1, sz1, xs1, f1⟩ := backOK0_mem hb' (toK_mem hg)
          refine ⟨ver', false, nw1, sz1, xs1, by rw [hat, hg]; simp only [f1, inB, e1, rowVer], e2, e3, fun hv => ?_⟩
          obtain ⟨r1, r2⟩ := e4 hv
          have hr0 : RdD (lentC C T) mk (.own k 0 lo len) v := ⟨0, false, nw, sz, xs, q1, Nat.le_refl _, e3, fun _ => ⟨r1, by
            show OwnV C.w sz ((toG T k).bind C.ι) lo len v
            rw [(toGK ht).2 hg]
            exact r2⟩⟩
          obtain ⟨w1, _, _, _, _, g1, _, _, g4⟩ := hslot _ _ hr0
          rw [f1] at g1
          injection g1 with z1 z2 z3 z4 z5
          subst z1 z2 z3 z4 z5
          obtain ⟨s1, s2⟩ := g4 rfl
          refine ⟨s1, ?_⟩
          show OwnV C1.w sz1 (match toK T g with | some k => C1.ι k | none => C.ι g) lo len v
          rw [hg]
          exact s2
    | ptr g off =>
      obtain ⟨frz, nw, cs, b, e1, e2, e3⟩ := h
      cases hg : toK T g with
      | none => exact ⟨frz, nw, cs, b, by rw [hat, hg]; exact e1, by show (match toK T g with | some k => C1.ι k | none => C.ι g) = _; rw [hg]; exact e2, e3⟩
      | some k =>
        rcases lentOK_mem hl (toK_mem hg) with ⟨_, q⟩ | ⟨_, _, _, _, _, q⟩ <;> rw [e1] at q <;> cases q
    | rptr g ver i off =>
      obtain ⟨ver', frz, nw, sz, xs, e1, e2, e3, e4⟩ := h
      cases hg : toK T g with
      | none =>
        refine ⟨ver', frz, nw, sz, xs, by rw [hat, hg]; exact e1, e2, e3, fun hv => ?_⟩
        obtain ⟨q1, b, q2, q3⟩ := e4 hv
        exact ⟨q1, b, by show (match toK T g with | some k => C1.ι k | none => C.ι g) = _; rw [hg]; exact q2, q3⟩
      | some k =>
        rcases lentOK_mem hl (toK_mem hg) with ⟨_, q⟩ | ⟨ver2, nw2, sz2, xs2, q1, q2⟩
        · rw [e1] at q; cases q
        · rw [e1] at q2
          injection q2 with p1 p2 p3 p4 p5
          subst p1 p2 p3 p4 p5
          obtain ⟨nw1, sz1, xs1, f1⟩ := backOK0_mem hb' (toK_mem hg)
          refine ⟨ver', false, nw1, sz1, xs1, by rw [hat, hg]; simp only [f1, inB, e1, rowVer], e2, e3, fun hv => ?_⟩
          obtain ⟨r1, b, r2, r3⟩ := e4 hv
          have hr0 : RdD (lentC C T) mk (.rptr k 0 i off) v := ⟨0, false, nw, sz, xs, q1, Nat.le_refl _, e3, fun _ => ⟨r1, b, by
            show (toG T k).bind C.ι = some b
            rw [(toGK ht).2 hg]
            exact r2, r3⟩⟩
          obtain ⟨w1, _, _, _, _, g1, _, _, g4⟩ := hslot _ _ hr0
          rw [f1] at g1
          injection g1 with z1 z2 z3 z4 z5
          subst z1 z2 z3 z4 z5
          obtain ⟨s1, b2, s2, s3⟩ := g4 rfl
          refine ⟨s1, b2, ?_, s3⟩
          show (match toK T g with | some k => C1.ι k | none => C.ι g) = _
          rw [hg]
          exact s2
    | mp g =>
      obtain ⟨kt, et, es, b, e1, e2, e3⟩ := h
      cases hg : toK T g with
      | none => exact ⟨kt, et, es, b, by rw [hat, hg]; exact e1, by show (match toK T g with | some k => C1.ι k | none => C.ι g) = _; rw [hg]; exact e2, e3⟩
      | some k =>
        rcases lentOK_mem hl (toK_mem hg) with ⟨_, q⟩ | ⟨_, _, _, _, _, q⟩ <;> rw [e1] at q <;> cases q
    | sl g n =>
      obtain ⟨frz, nw, cs, b, cap, e1, e2, e3⟩ := h
      cases hg : toK T g with
      | none => exact ⟨frz, nw, cs, b, cap, by rw [hat, hg]; exact e1, by show (match toK T g with | some k => C1.ι k | none => C.ι g) = _; rw [hg]; exact e2, e3⟩
      | some k =>
        rcases lentOK_mem hl (toK_mem hg) with ⟨_, q⟩ | ⟨_, _, _, _, _, q⟩ <;> rw [e1] at q <;> cases q
  have ownB : ∀ k b, (mk'.at k).mut = true → C1.ι k = some b → C.w.heap.size ≤ b ∨ ∃ g, (m.at g).mut = true ∧ C.ι g = some b ∧ toK T g ≠ none := fun k b hm hi => by
    rcases hx.own k b hm hi with q | ⟨k0, q1, q2⟩
    · exact .inl q
    · obtain ⟨g, e1, e2, e3⟩ := mutK k0 b q1 q2
      exact .inr ⟨g, e3, e2, by rw [(toGK ht).1 e1]; simp⟩
  have mutR : ∀ g k, toK T g = some k → (mk'.at k).mut = true := fun g k hg => by
    obtain ⟨nw1, sz1, xs1, f1⟩ := backOK0_mem hb' (toK_mem hg)
    rw [f1]; rfl
  have cross : ∀ g g' k b, toK T g = some k → toK T g' = none → m.at g' ≠ .gone → C1.ι k = some b → C.ι g' = some b → False := fun g g' k b hg hg' hgo i1 i2 => by
    rcases ownB k b (mutR g k hg) i1 with q | ⟨g0, q1, q2, q3⟩
    · have := lt hgo i2; omega
    · have hne : m.at g0 ≠ .gone := by intro h; rw [h] at q1; cases q1
      have := hh.inj g0 g' b hne hgo q2 i2
      subst this
      exact q3 hg'
  refine ⟨⟨hx.os, hx.tape, hx.output, hx.size, fun b hb hn => hx.keep b hb (fun k hm hi => ?_), fun g b h2 h3 => ?_, hx.sS, hx.sN, hx.supS, fun b hb => ?_⟩, ⟨fun g => ?_, fun g g' b h2 h3 i1 i2 => ?_, fun g b h2 h3 h4 => ?_, h1.sdom, h1.ns⟩, RdD.of_S hs⟩
  · obtain ⟨g, _, e2, e3⟩ := mutK k b hm hi
    exact hn g e3 e2
  · rw [hat] at h2
    have h3 : (match toK T g with | some k => C1.ι k | none => C.ι g) = some b := h3
    cases hg : toK T g with
    | none => rw [hg] at h2 h3; exact .inr ⟨g, h2, h3⟩
    | some k =>
      rw [hg] at h3
      rcases ownB k b (mutR g k hg) h3 with q | ⟨g0, q1, q2, _⟩
      · exact .inl q
      · exact .inr ⟨g0, q1, q2⟩
  · rcases hx.supN b hb with q | q | ⟨k, q1, q2⟩
    · exact .inl q
    · exact .inr (.inl q)
    · obtain ⟨g, _, e2, e3⟩ := mutK k b q1 q2
      exact .inr (.inr ⟨g, e3, e2⟩)
  · rw [hat]
    show BoxOK _ _ (match toK T g with | some k => C1.ι k | none => C.ι g) _
    cases hg : toK T g with
    | none =>
      by_cases hgo : m.at g = .gone
      · simp only [hgo]; trivial
      · exact BoxOK.upd (hh.box g) (fun b hb => keepG g b hg hgo hb) hd hs hx.sS hx.sN
    | some k =>
      obtain ⟨nw1, sz1, xs1, f1⟩ := backOK0_mem hb' (toK_mem hg)
      have hb := h1.box k
      rw [f1] at hb
      simp only [f1, inB]
      cases hi : C1.ι k with
      | none => rw [hi] at hb; exact hb
      | some b => rw [hi] at hb; exact hb
  · rw [hat] at h2 h3
    have i1 : (match toK T g with | some k => C1.ι k | none => C.ι g) = some b := i1
    have i2 : (match toK T g' with | some k => C1.ι k | none => C.ι g') = some b := i2
    cases hg : toK T g with
    | none =>
      cases hg' : toK T g' with
      | none =>
        rw [hg] at h2 i1
        rw [hg'] at h3 i2
        exact hh.inj g g' b h2 h3 i1 i2
      | some k' =>
        rw [hg] at h2 i1
        rw [hg'] at i2
        exact (cross g' g k' b hg' hg h2 i2 i1).elim
    | some k =>
      cases hg' : toK T g' with
      | none =>
        rw [hg] at i1
        rw [hg'] at h3 i2
        exact (cross g g' k b hg hg' h3 i1 i2).elim
      | some k' =>
        rw [hg] at i1
        rw [hg'] at i2
        have hm : mk'.at k ≠ .gone := by intro h; have := mutR g k hg; rw [h] at this; cases this
        have hm' : mk'.at k' ≠ .gone := by intro h; have := mutR g' k' hg'; rw [h] at this; cases this
        have := h1.inj k k' b hm hm' i1 i2
        subst this
        have q1 := (toGK ht).2 hg
        have q2 := (toGK ht).2 hg'
        rw [q1] at q2
        injection q2
  · have h3 : (match toK T g with | some k => C1.ι k | none => C.ι g) = some b := h3
    have h4 : C1.S b := h4
    rw [hat] at h2
    cases hg : toK T g with
    | some k =>
      rw [hg] at h3
      exact h1.sep k b (mutR g k hg) h3 h4
    | none =>
      rw [hg] at h2 h3
      have hgo : m.at g ≠ .gone := by intro h; rw [h] at h2; cases h2
      rcases hx.supS b h4 with q | q
      · exact hh.sep g b h2 h3 q
      · rcases hx.supN b q with q | q | ⟨k0, q1, q2⟩
        · exact hh.sep g b h2 h3 (hh.ns b q)
        · have q : C.w.heap.size ≤ b := q
          have := lt hgo h3; omega
        · obtain ⟨g0, e1, e2, e3⟩ := mutK k0 b q1 q2
          have hne : m.at g0 ≠ .gone := by intro h; rw [h] at e3; cases e3
          have := hh.inj g0 g b hne hgo e2 h3
          subst this
          rw [(toGK ht).1 e1] at hg
          cases hg
end
section
variable {P : Program} {e : Operand → D} {m : Mem} {dst : Option Tmp} {ty : TypeId} {pos : String} {af : Array Edge} {gd : Option (Nat × Bool)} {x y : Operand} {t : TypeId}
theorem S_callI {f : FuncId} {args : Array Operand} {ats : Array TypeId} {ds : List D} {ver sz sz' : Nat} {nw nw' : Bool} {xs xs' : List (List V)} (g : Nat) (hc : FnI P f ds [(1000, .row 0 false nw sz xs)] [(1000, .row 0 false nw' sz' xs')])
    (ha : lendL m [(1000, g)] (args.toList.map e) = some ds) (hmg : m.at g = .row ver false nw sz xs) :
    SStep P ⟨dst, .call { callee := .value (.func f), args := args, argTypes := ats }, ty, pos, af, gd⟩ e m ((args.toList.map e).flatMap (refs m)) .any [(g, .row ver false nw' sz' xs')] := by
  intro C m' a next Q hag hm hx hn
  have hmg' : m'.at g = .row ver false nw sz xs := (hag g (.inr (by simp))).trans hmg
  have ht : okT [(1000, g)] = true := rfl
  have hl : lentOK m' [(1000, .row 0 false nw sz xs)] [(1000, g)] := ⟨.inr ⟨ver, nw, sz, xs, rfl, hmg'⟩, trivial⟩
  have hagT : ∀ g', g' ∈ (args.toList.map e).flatMap (refs m) ∨ g' ∈ ([(1000, g)] : Tr).map (·.2) → m'.at g' = m.at g' := fun g' hg => by
    rcases hg with hg | hg
    · exact hag g' (.inl hg)
    · exact hag g' (.inr (by simpa using hg))
  obtain ⟨hlen, hall⟩ := lendL_ok hm ht hl (args.toList.map e) ds hagT ha
  have hrun : (execOp a.eval ⟨dst, .call { callee := .value (.func f), args := args, argTypes := ats }, ty, pos, af, gd⟩).run P C.w = .ok (.enter f (args.map a.eval)) C.w := by
    have hev : a.eval (.func f) = .func (.func f) #[] #[] := rfl
    simp only [execOp, resolve, hev, Deferred.ofValue, Sem.run_bind, Sem.run_pure, Result.andThen_ok, invoke, run_callFunc hc.1]
    simp
  unfold Oper.wp
  rw [hrun]
  show Calls P f (args.map a.eval) C.w _
  refine (hc.2 (lentC C [(1000, g)]) (args.map a.eval) (lent_holds hm ht hl rfl) (by rw [hlen]; simp) ?_).mono ?_
  · intro j d v hd hv
    simp only [Array.getElem?_map, Option.map_eq_some_iff] at hv
    obtain ⟨o, ho, rfl⟩ := hv
    have ho' : (args.toList.map e)[j]? = some (e o) := by simp [ho]
    exact hall j (e o) d _ ho' hd (hx o (by simp only [Op.operands, Call.operands]; exact Array.mem_append.2 (.inr (Array.mem_of_getElem? ho))))
  · rintro e' w' ⟨v, C1, rfl, rfl, hst⟩
    have h2 := back_stepI hm ht hl rfl rfl ⟨⟨nw', sz', xs', rfl⟩, trivial⟩ hst
    have e1 : inM m' [(1000, .row 0 false nw' sz' xs')] [(1000, g)] = [(g, .row ver false nw' sz' xs')] := by
      have : Mem.at [(1000, Box.row 0 false nw' sz' xs')] 1000 = .row 0 false nw' sz' xs' := rfl
      simp [inM, inB, hmg', rowVer, this]
    rw [e1] at h2
    exact hn v (backC C C1 [(1000, g)]) h2 trivial
end
end Go.Proofs.Ytkppkgahdoglpaa
