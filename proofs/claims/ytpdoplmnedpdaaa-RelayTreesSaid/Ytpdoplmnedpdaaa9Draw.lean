/- The D-machine, part 6: operations that make memory or write it (but append and calls). -/
import Derived.Test.Ytpdoplmnedpdaaa5Mem
import Derived.Laws.MakeOwn
import Derived.Tactics
namespace Go.Proofs.Ytpdoplmnedpdaaa
open Go.RowKit

/-- A zero, or a constant, in a cell. -/
def V.zD : V → D
  | .slice [] => .nil
  | x => .dat true x
theorem val_ok {C : Cf} {m : Mem} {x : V} (h : x.isC = true) : RdS C m x.zD x.val := by
  cases x with
  | bool b => exact Rd.bool b
  | int k n => exact Rd.int k n
  | str s => exact Rd.str s
  | slice xs => cases xs with
    | nil => rfl
    | cons a l => simp [V.isC] at h
  | _ => simp [V.isC] at h
theorem val_rd {S : Nat → Prop} {w : World} {x : V} (h : x.isC = true) : Rd S w x x.val := by
  cases x with
  | bool b => exact Rd.bool b
  | int k n => exact Rd.int k n
  | str s => exact Rd.str s
  | slice xs => cases xs with
    | nil => exact Rd.nil
    | cons a l => simp [V.isC] at h
  | _ => simp [V.isC] at h
theorem val_one {x : V} (h : x.isC = true) : x.val.cells = #[x.val] := by
  cases x <;> simp [V.isC] at h <;> rfl
theorem isC_one {x : V} (h : x.isC = true) : x.one = true := by
  cases x <;> simp [V.isC] at h <;> rfl
theorem isC_flat {x : V} (h : x.isC = true) : Flat x := by
  cases x with
  | bool b => exact .bool b
  | int k n => exact .int k n
  | str s => exact .str s
  | slice xs => cases xs with
    | nil => exact .nil
    | cons a l => simp [V.isC] at h
  | _ => simp [V.isC] at h

section
variable {P : Program}
theorem zcells {t : TypeId} {agg : Bool} {s by_ : Nat} {z : List V} (h : TyI P t agg s by_ z) : (zval agg z).cells = (z.map V.val).toArray := by
  cases agg with
  | true => rfl
  | false =>
    have hs := h.z1 rfl
    have hl := h.zl
    have hc := h.zc
    subst hs
    match z, hl, hc with
    | [c], _, hc =>
      simp only [List.all_cons, List.all_nil, Bool.and_true] at hc
      simp [zval, val_one hc]
theorem zero_cell {C : Cf} {m : Mem} {t : TypeId} {agg : Bool} {s by_ : Nat} {z : List V} (h : TyI P t agg s by_ z) (j : Nat) (d : D) (c : Value)
    (hd : (z.map V.zD)[j]? = some d) (hc : (z.map V.val).toArray[j]? = some c) : RdS C m d c := by
  simp only [List.getElem?_map, Option.map_eq_some_iff, List.getElem?_toArray] at hd hc
  obtain ⟨x, hx, rfl⟩ := hd
  obtain ⟨x', hx', rfl⟩ := hc
  rw [hx] at hx'
  injection hx' with hx'
  subst hx'
  have := h.zc
  rw [List.all_eq_true] at this
  exact val_ok (this x (List.mem_of_getElem? hx))
theorem run_zero {t : TypeId} {agg : Bool} {s by_ : Nat} {z : List V} (h : TyI P t agg s by_ z) (w : World) : (zeroValue t).run P w = .ok (zval agg z) w := by
  obtain ⟨i, hi, _, _, hz⟩ := h.info
  simp [zeroValue, typeInfo, program, Sem.run, hi, hz]
end

theorem loose0 {s : Nat} (arr : Array Value) : Loose s arr (0, 0) := ⟨fun i _ h => by simp at h, Nat.le_refl _, .inr rfl⟩

/-- The cells of a value that a slot holds. -/
def D.cells : D → Option (List D)
  | .dat n (.agg vs) => some (vs.map (.dat n))
  | .dat n x => bif x.one then some [.dat n x] else none
  | .aggd cs => some cs
  | .nil => some [.nil]
  | .own g v lo len => some [.own g v lo len]
  | .ptr g o => some [.ptr g o]
  | .rptr g v i o => some [.rptr g v i o]
  | .mp g => some [.mp g]
  | .sl g n => some [.sl g n]
  | _ => none
theorem rd_one_cells {S : Nat → Prop} {w : World} {x : V} {v : Value} (h : Rd S w x v) (h1 : x.one = true) : v.cells = #[v] ∧ v.oneCell' = true := by
  cases h <;> first | exact ⟨rfl, rfl⟩ | simp [V.one] at h1
theorem cells_ok {C : Cf} {m : Mem} {d : D} {v : Value} {cs : List D} (h : RdD C m d v) (hc : d.cells = some cs) :
    v.cells.size = cs.length ∧ ∀ (j : Nat) dj c, cs[j]? = some dj → v.cells[j]? = some c → RdS C m dj c := by
  have one : ∀ {d : D}, RdS C m d v → v.cells = #[v] → v.cells.size = [d].length ∧ ∀ (j : Nat) dj c, [d][j]? = some dj → v.cells[j]? = some c → RdS C m dj c := by
    intro d hr hv
    rw [hv]
    refine ⟨rfl, fun j dj c h1 h2 => ?_⟩
    cases j with
    | zero => simp at h1 h2; subst h1; subst h2; exact hr
    | succ j => simp at h1
  cases d with
  | dat n x =>
    by_cases hx : ∃ vs, x = .agg vs
    · obtain ⟨vs, rfl⟩ := hx
      simp only [D.cells, Option.some.injEq] at hc
      subst hc
      have h' : Rd (C.D n) C.w (.agg vs) v := h
      cases h' with
      | agg _ us hl hr =>
        refine ⟨by simp [Value.cells, hl], fun j dj c h1 h2 => ?_⟩
        simp only [List.getElem?_map, Option.map_eq_some_iff] at h1
        obtain ⟨x, hx, rfl⟩ := h1
        exact hr j x c hx h2
    · have hone : x.one = true ∧ cs = [.dat n x] := by
        cases x <;> simp_all [D.cells, V.one]
      obtain ⟨h1, rfl⟩ := hone
      have h' : Rd (C.D n) C.w x v := h
      exact one h (rd_one_cells h' h1).1
  | aggd ds =>
    obtain ⟨vs, rfl, hl, hr⟩ := h
    simp only [D.cells, Option.some.injEq] at hc
    subst hc
    exact ⟨hl, hr⟩
  | nil =>
    simp only [D.cells, Option.some.injEq] at hc
    subst hc
    have hv : v = .slice none 0 0 := h
    subst hv
    exact one (d := .nil) rfl rfl
  | own g ver lo len =>
    simp only [D.cells, Option.some.injEq] at hc
    subst hc
    obtain ⟨_, _, _, _, _, _, _, ⟨a, l, c, hv⟩, _⟩ := id h
    exact one (d := .own g ver lo len) h (by rw [hv]; rfl)
  | ptr g o =>
    simp only [D.cells, Option.some.injEq] at hc
    subst hc
    obtain ⟨_, _, _, b, _, _, hv⟩ := id h
    exact one (d := .ptr g o) h (by rw [hv]; rfl)
  | rptr g ver i o =>
    simp only [D.cells, Option.some.injEq] at hc
    subst hc
    obtain ⟨_, _, _, _, _, _, _, ⟨a, hv⟩, _⟩ := id h
    exact one (d := .rptr g ver i o) h (by rw [hv]; rfl)
  | mp g =>
    simp only [D.cells, Option.some.injEq] at hc
    subst hc
    obtain ⟨_, _, _, b, _, _, hv⟩ := id h
    exact one (d := .mp g) h (by rw [hv]; rfl)
  | sl g n =>
    simp only [D.cells, Option.some.injEq] at hc
    subst hc
    obtain ⟨_, _, _, b, cap, _, _, hv, _⟩ := id h
    exact one (d := .sl g n) h (by rw [hv]; rfl)
  | _ => simp [D.cells] at hc

/-- A new block of cells, as a box. -/
theorem step_cells {C : Cf} {m : Mem} {g : Nat} {w : World} {cs : List D} {arr : Array Value} {T : TypeId} (hm : HoldsM C m) (hg : m.at g = .gone) (hw : Grew C.w w) (hs : w.heap.size = C.w.heap.size)
    (hl : arr.size = cs.length) (hr : ∀ (j : Nat) d c, cs[j]? = some d → arr[j]? = some c → RdS C m d c) :
    Step C m (C.set g (some C.w.heap.size) (w.alloc (.cells arr T))) ((g, .cells false true cs) :: m) := by
  have hb : (w.alloc (.cells arr T)).heap[C.w.heap.size]? = some (.cells arr T (0, 0)) := by
    rw [← hs]; exact heap_alloc_new w _
  refine Step.fresh hm hg (hw.trans (Grew.alloc _ _)) (fun b hb => by injection hb with hb; omega) (fun hd hsl => ?_)
  exact ⟨_, rfl, arr, T, (0, 0), hb, loose0 arr, hl, fun j d c h1 h2 => hsl _ _ (hr j d c h1 h2), fun h => by cases h⟩

/-- A new block of cells, as a row. -/
theorem step_row {C : Cf} {m : Mem} {g : Nat} {w : World} {arr : Array Value} {T : TypeId} {fz : Nat × Nat} {sz : Nat} {nw : Bool} {xs : List (List V)} (hm : HoldsM C m) (hg : m.at g = .gone) (hw : Grew C.w w) (b : Nat) (hbn : C.w.heap.size ≤ b)
    (hb : w.heap[b]? = some (.cells arr T fz)) (hfz : Loose sz arr fz) (hl : xs.length * sz ≤ arr.size) (hel : ∀ (i : Nat) (e : List V), xs[i]? = some e → e.length = sz)
    (h1 : ∀ (i j : Nat) (e : List V) (d : V), xs[i]? = some e → e[j]? = some d → d.one = true) (hr : ∀ (i j : Nat) (e : List V) d c, xs[i]? = some e → e[j]? = some d → arr[i * sz + j]? = some c → RdF C nw d c) :
    Step C m (C.set g (some b) w) ((g, .row 0 false nw sz xs) :: m) := by
  refine Step.fresh hm hg hw (fun b' hb' => by injection hb' with hb'; omega) (fun hd _ => ?_)
  exact ⟨arr, T, fz, hb, hfz, hl, hel, h1, fun i j e d c a1 a2 a3 => hd _ _ _ (hr i j e d c a1 a2 a3), fun h => by cases h⟩

/-- A row of no element that is nil. -/
theorem step_virtual {C : Cf} {m : Mem} {g : Nat} {sz : Nat} {nw : Bool} (hm : HoldsM C m) (hg : m.at g = .gone) : Step C m (C.set g none C.w) ((g, .row 0 false nw sz []) :: m) :=
  Step.fresh hm hg (Grew.refl _) (fun b hb => by cases hb) (fun _ _ => rfl)

/-- New blocks that are data at once. -/
def Cf.put (C : Cf) (X : Nat → Prop) (w : World) : Cf := { C with S := fun k => C.S k ∨ X k, N := fun k => C.N k ∨ X k, w := w }
theorem step_dat {C : Cf} {m : Mem} {w : World} (X : Nat → Prop) (hm : HoldsM C m) (hw : Grew C.w w) (hX : ∀ k, X k → C.w.heap.size ≤ k ∧ k < w.heap.size) : Step C m (C.put X w) m := by
  have hlt : ∀ {g' b}, m.at g' ≠ .gone → C.ι g' = some b → b < C.w.heap.size := fun h hi => BoxOK.lt hm h hi
  have hd : ∀ n x v, RdF C n x v → RdF (C.put X w) n x v := fun n x v h => by
    cases n
    · exact Rd.mono h (fun _ h => .inl h) (fun k hk => hw.block k (hm.sdom k hk))
    · exact Rd.mono h (fun _ h => .inl h) (fun k hk => hw.block k (hm.sdom k (hm.ns k hk)))
  have hs : ∀ d v, RdS C m d v → RdS (C.put X w) m d v := by
    intro d v h
    cases d with
    | dat n x => exact hd n x v h
    | own g ver lo len =>
      obtain ⟨ver', frz, nw, sz, xs, hat, hle, hsl, ho⟩ := h
      refine ⟨ver', frz, nw, sz, xs, hat, hle, hsl, fun hv => ?_⟩
      obtain ⟨hl, ho⟩ := ho hv
      refine ⟨hl, ?_⟩
      show OwnV w sz (C.ι g) lo len v
      unfold OwnV at *
      cases hio : C.ι g with
      | none => simp only [hio] at ho ⊢; exact ho
      | some k =>
        simp only [hio] at ho ⊢
        obtain ⟨cap, arr, T, fz, h1, h2, h3⟩ := ho
        exact ⟨cap, arr, T, fz, h1, (hw.block k (Array.getElem?_eq_some_iff.1 h2).1).trans h2, h3⟩
    | _ => exact h
  refine ⟨⟨hw.os, hw.tape, hw.output, hw.size, fun k hk _ => hw.block k hk, fun g' k h1 h2 => .inr ⟨g', h1, h2⟩, fun _ h => .inl h, fun _ h => .inl h, fun k h => ?_, fun k h => ?_⟩, ⟨fun g' => ?_, hm.inj, fun g' k h1 h2 h3 => ?_, fun k hk => ?_, fun k hk => ?_⟩, RdD.of_S hs⟩
  · rcases h with h | h
    · exact .inl h
    · exact .inr (.inr h)
  · rcases h with h | h
    · exact .inl h
    · exact .inr (.inl (hX k h).1)
  · by_cases hgo : m.at g' = .gone
    · rw [hgo]; trivial
    · exact BoxOK.upd (hm.box g') (fun k hk => hw.block k (hlt hgo hk)) hd hs (fun _ h => .inl h) (fun _ h => .inl h)
  · have hgo : m.at g' ≠ .gone := by intro h; rw [h] at h1; simp [Box.mut] at h1
    rcases h3 with h3 | h3
    · exact hm.sep g' k h1 h2 h3
    · have := hlt hgo h2
      have := (hX k h3).1
      omega
  · rcases hk with hk | hk
    · exact Nat.lt_of_lt_of_le (hm.sdom k hk) hw.size
    · exact (hX k hk).2
  · rcases hk with hk | hk
    · exact .inl (hm.ns k hk)
    · exact .inr hk

section
variable {P : Program} {e : Operand → D} {m : Mem} {dst : Option Tmp} {ty : TypeId} {pos : String} {af : Array Edge} {gd : Option (Nat × Bool)} {x y z : Operand} {t : TypeId} {yt : TypeId}

theorem S_alloc {agg : Bool} {s by_ : Nat} {zs : List V} (g : Nat) [ht : TyI P t agg s by_ zs] (hg : m.at g = .gone) :
    SStep P ⟨dst, .alloc t, ty, pos, af, gd⟩ e m [] (.ptr g 0) [(g, .cells false true (zs.map V.zD))] := by
  intro C m' a next Q ha hm _ hn
  have hrun : (execOp a.eval ⟨dst, .alloc t, ty, pos, af, gd⟩).run P C.w = .ok (.value (.pointer (some ⟨C.w.heap.size, 0, none⟩))) (C.w.alloc (.cells (zs.map V.val).toArray t)) := by
    simp [execOp, Instr.alloc, run_zero ht, newVar, newRow, newObj, zcells ht, Sem.run]
  have hg' : m'.at g = .gone := (ha g (by simp)).trans hg
  have hst := step_cells (T := t) (cs := zs.map V.zD) (arr := (zs.map V.val).toArray) hm hg' (Grew.refl C.w) rfl (by simp) (fun j d c h1 h2 => zero_cell ht j d c h1 h2)
  refine wp_of_value hrun (hn _ _ hst ⟨false, true, _, C.w.heap.size, Mem.at_cons_same _ _ _, Cf.set_same _ _ _ _, rfl⟩)
theorem S_box {cs : List D} (g : Nat) (hc : (e x).cells = some cs) (hg : m.at g = .gone) :
    SStep P ⟨dst, .box t x, ty, pos, af, gd⟩ e m [] (.ptr g 0) [(g, .cells false true cs)] := by
  intro C m' a next Q ha hm hx hn
  have hrun : (execOp a.eval ⟨dst, .box t x, ty, pos, af, gd⟩).run P C.w = .ok (.value (.pointer (some ⟨C.w.heap.size, 0, none⟩))) (C.w.alloc (.cells (a.eval x).cells t)) := by
    simp [execOp, Instr.box, newVar, newRow, newObj, Sem.run]
  have hg' : m'.at g = .gone := (ha g (by simp)).trans hg
  obtain ⟨h1, h2⟩ := cells_ok (hx x (by simp [Op.operands])) hc
  have hst := step_cells (T := t) hm hg' (Grew.refl C.w) rfl h1 h2
  refine wp_of_value hrun (hn _ _ hst ⟨false, true, _, C.w.heap.size, Mem.at_cons_same _ _ _, Cf.set_same _ _ _ _, rfl⟩)

/-- Cells written over from off on. -/
def splice (cs : List D) (off : Nat) (ds : List D) : List D := cs.take off ++ (ds ++ cs.drop (off + ds.length))
theorem splice_length {cs : List D} {off : Nat} {ds : List D} (h : off + ds.length ≤ cs.length) : (splice cs off ds).length = cs.length := by
  simp [splice]; omega
theorem splice_get {cs : List D} {off : Nat} {ds : List D} (h : off + ds.length ≤ cs.length) (j : Nat) :
    (splice cs off ds)[j]? = if off ≤ j ∧ j < off + ds.length then ds[j - off]? else cs[j]? := by
  unfold splice
  rw [List.getElem?_append, List.length_take, Nat.min_eq_left (by omega)]
  by_cases h1 : j < off
  · rw [if_pos h1, if_neg (by omega), List.getElem?_take, if_pos h1]
  · rw [if_neg h1, List.getElem?_append]
    by_cases h2 : j < off + ds.length
    · rw [if_pos (by omega), if_pos (by omega)]
    · rw [if_neg (by omega), if_neg (by omega), List.getElem?_drop]
      congr 1
      omega

/-- Cells stored one after the other. -/
theorem run_storeCells {P : Program} {s : Nat} (b : Nat) (T : TypeId) (fz : Nat × Nat) : ∀ (vs : List Value) (i off : Nat) (w : World) (arr : Array Value), w.heap[b]? = some (.cells arr T fz) → Loose s arr fz →
    off + i + vs.length ≤ arr.size → (∀ u, u ∈ vs → u.oneCell' = true) →
    ∃ w' arr', (storeCells ⟨b, off, none⟩ vs i).run P w = .ok () w' ∧ w'.heap[b]? = some (.cells arr' T fz) ∧ arr'.size = arr.size ∧
      (∀ j, arr'[j]? = if off + i ≤ j ∧ j < off + i + vs.length then vs[j - (off + i)]? else arr[j]?) ∧
      w'.os = w.os ∧ w'.tape = w.tape ∧ w'.output = w.output ∧ w'.heap.size = w.heap.size ∧ (∀ k, k ≠ b → w'.heap[k]? = w.heap[k]?)
  | [], i, off, w, arr, h, _, _, _ => ⟨w, arr, by simp [storeCells], h, rfl, fun j => by simp; omega, rfl, rfl, rfl, rfl, fun _ _ => rfl⟩
  | v :: vs, i, off, w, arr, h, hl, hs, h1 => by
    simp only [List.length_cons] at hs
    have hlt : off + i < arr.size := by omega
    have hcell : w.cell? ⟨b, off + i, none⟩ = some arr[off + i] := by rw [cell_of_arr h]; exact Array.getElem?_eq_getElem hlt
    have hfro : w.frozen? ⟨b, off + i, none⟩ = false := by
      have := hl.1 (off + i) hlt
      simp only [World.frozen?, h]
      simp only [Bool.and_eq_false_iff, decide_eq_false_iff_not]
      rcases Decidable.em (fz.1 ≤ off + i) with hh | hh
      · exact .inr (fun h2 => this ⟨hh, h2⟩)
      · exact .inl hh
    have hheap : (w.setCell ⟨b, off + i, none⟩ v).heap[b]? = some (.cells (arr.setIfInBounds (off + i) v) T fz) := by
      simp [World.setCell, Array.getElem?_modify, h]
    obtain ⟨w', arr', hr, g1, g2, g3, g4, g5, g6, g7, g8⟩ := run_storeCells (P := P) b T fz vs (i + 1) off (w.setCell ⟨b, off + i, none⟩ v) (arr.setIfInBounds (off + i) v) hheap
      ⟨fun j hj => hl.1 j (by simpa using hj), hl.2⟩ (by simp; omega) (fun u hu => h1 u (List.mem_cons_of_mem _ hu))
    refine ⟨w', arr', ?_, g1, by simpa using g2, fun j => ?_, g4, g5, g6, by simpa using g7, fun k hk => (g8 k hk).trans (Below.heap_setCell w _ v k hk)⟩
    · simp only [storeCells, Sem.run_bind, aadd, run_store P w _ v .plain (h1 v (List.mem_cons_self ..)), hcell, hfro]
      simpa using hr
    · rw [g3 j]
      by_cases c1 : off + (i + 1) ≤ j ∧ j < off + (i + 1) + vs.length
      · rw [if_pos c1, if_pos (by simp; omega)]
        obtain ⟨q, hq⟩ : ∃ q, j - (off + i) = q + 1 := ⟨j - (off + i) - 1, by omega⟩
        rw [hq, List.getElem?_cons_succ]
        congr 1
        omega
      · rw [if_neg c1]
        by_cases c2 : j = off + i
        · subst c2
          rw [if_pos (by simp)]
          simp [hlt]
        · rw [if_neg (by simp; omega), Array.getElem?_setIfInBounds, if_neg (by omega)]

/-- What is stored: its cells. -/
theorem cells_one {C : Cf} {m : Mem} {d : D} {v : Value} {cs : List D} (h : RdD C m d v) (hc : d.cells = some cs) (h1 : ∀ (n : Bool) (x : V), D.dat n x ∈ cs → x.one = true) (ha : D.any ∉ cs) :
    ∀ u, u ∈ v.cells.toList → u.oneCell' = true := by
  obtain ⟨hs, hr⟩ := cells_ok h hc
  intro u hu
  obtain ⟨j, hj, rfl⟩ := List.mem_iff_getElem.1 hu
  have hj' : j < v.cells.size := by simpa using hj
  have hu' : v.cells[j]? = some v.cells[j] := Array.getElem?_eq_getElem hj'
  have hd : cs[j]? = some (cs[j]'(by omega)) := List.getElem?_eq_getElem (by omega)
  have hmem := List.mem_of_getElem? hd
  have := hr j _ _ hd hu'
  simp only [Array.getElem_toList]
  generalize cs[j]'(by omega) = dj at this hmem
  cases dj with
  | any => exact absurd hmem ha
  | nil => have : v.cells[j] = .slice none 0 0 := this; rw [this]; rfl
  | grd _ _ => exact this.elim
  | aggd _ => exact this.elim
  | dat n x => exact (rd_one_cells (show Rd _ _ x _ from this) (h1 n x hmem)).2
  | own g ver lo len => obtain ⟨_, _, _, _, _, _, _, ⟨_, _, _, hv⟩, _⟩ := this; rw [hv]; rfl
  | ptr g o => obtain ⟨_, _, _, _, _, _, hv⟩ := this; rw [hv]; rfl
  | rptr g ver i o => obtain ⟨_, _, _, _, _, _, _, ⟨_, hv⟩, _⟩ := this; rw [hv]; rfl
  | mp g => obtain ⟨_, _, _, _, _, _, hv⟩ := this; rw [hv]; rfl
  | sl g n => obtain ⟨_, _, _, _, _, _, _, hv, _⟩ := this; rw [hv]; rfl

def okCells (cs : List D) : Bool := cs.all fun d => match d with
  | .dat _ x => x.one
  | .any | .grd _ _ | .aggd _ => false
  | _ => true

theorem run_storeVar {P : Program} {t : TypeId} {agg : Bool} {s by_ : Nat} {zs : List V} (ht : TyI P t agg s by_ zs) (a : Addr) (v : Value) (w : World) (hs : v.cells.size = s) :
    (storeVar t a v).run P w = (storeCells a v.cells.toList).run P w := by
  simp only [storeVar, Sem.run_bind, run_size ht, Result.andThen_ok, hs, ne_eq, not_true_eq_false, if_false]

theorem S_store {agg nw : Bool} {s by_ g off : Nat} {zs : List V} {cs ds : List D} [ht : TyI P t agg s by_ zs] (h : e x = .ptr g off) (hm : m.at g = .cells false nw cs)
    (hd : (e y).cells = some ds) (hok : okCells ds = true) (hl : ds.length = s) (hle : Nat.ble (off + s) cs.length = true) :
    SStep P ⟨none, .store t x y, ty, pos, af, gd⟩ e m [g] .any [(g, .cells false nw (splice cs off ds))] := by
  intro C m' a next Q ha hh hx hn
  have hle := Nat.le_of_ble_eq_true hle
  have g1 := hx x (by simp [Op.operands]); rw [h] at g1
  have g2 := hx y (by simp [Op.operands])
  obtain ⟨frz', nw', cs', b, hat, hi, hv⟩ := g1
  have hmg : m'.at g = .cells false nw cs := (ha g (by simp)).trans hm
  have hb := hh.box g
  rw [hmg] at hb
  obtain ⟨b', hi', arr, T, fz, h1, h2, h3, h4, h5⟩ := hb
  rw [hi] at hi'
  injection hi' with hi'
  subst hi'
  obtain ⟨hcs, hcr⟩ := cells_ok g2 hd
  have hone : ∀ u, u ∈ (a.eval y).cells.toList → u.oneCell' = true := by
    unfold okCells at hok
    rw [List.all_eq_true] at hok
    exact cells_one g2 hd (fun n x hx => hok _ hx) (fun hx => by simpa using hok _ hx)
  obtain ⟨w', arr', hr, q1, q2, q3, q4, q5, q6, q7, q8⟩ := run_storeCells (P := P) b T fz (a.eval y).cells.toList 0 off C.w arr h1 h2 (by simp; omega) hone
  have hlen : (a.eval y).cells.toList.length = ds.length := by simpa using hcs
  have hst : Step C m' { C with w := w' } ((g, .cells false nw (splice cs off ds)) :: m') := by
    refine Step.write hh (by rw [hmg]; rfl) hi q4 q5 q6 q7 q8 ?_ ?_ ?_ ?_ (fun hdd hss => ?_)
    · rintro ver lo len v ⟨_, _, _, _, _, hat', _⟩; rw [hmg] at hat'; cases hat'
    · rintro off' v ⟨frz2, nw2, cs2, b2, hat', hi2, hv2⟩
      exact ⟨false, nw, _, b2, Mem.at_cons_same _ _ _, hi2, hv2⟩
    · rintro ver i off' v ⟨_, _, _, _, _, hat', _⟩; rw [hmg] at hat'; cases hat'
    · rintro v ⟨_, _, _, _, hat', _⟩; rw [hmg] at hat'; cases hat'
    · refine ⟨b, rfl, arr', T, fz, q1, ⟨fun i hi => h2.1 i (by omega), h2.2⟩, by rw [q2, h3, splice_length (by omega)], fun j d c hdj hcj => hss _ _ ?_, fun hf => by cases hf⟩
      rw [splice_get (by omega)] at hdj
      rw [q3 j] at hcj
      simp only [Nat.add_zero, hlen] at hcj
      by_cases hc : off ≤ j ∧ j < off + ds.length
      · rw [if_pos hc] at hdj hcj
        exact hcr _ _ _ hdj (by simpa using hcj)
      · rw [if_neg hc] at hdj hcj
        exact h4 j d c hdj hcj
  refine wp_of_skip (w' := w') ?_ (hn undef _ hst trivial)
  simp only [execOp, hv, Instr.storeAt, Instr.sureAddr, Sem.run_bind, Sem.run_pure, Result.andThen_ok, run_storeVar ht _ _ _ (hcs.trans hl), hr]

/-- Data cells of a value. -/
def D.vcells (m : Mem) (d : D) : Option (Bool × List V) := match d.cells with
  | some cs => asVs m cs
  | none => none
theorem vcells_ok {C : Cf} {m m' : Mem} {d : D} {v : Value} {n : Bool} {vs : List V} (hm : HoldsM C m') (ha : ∀ g, g ∈ refs0 d ∨ (∃ cs, d = .aggd cs ∧ g ∈ cs.flatMap refs0) → m'.at g = m.at g) (h : D.vcells m d = some (n, vs)) (hd : RdD C m' d v) :
    v.cells.size = vs.length ∧ ∀ (j : Nat) x c, vs[j]? = some x → v.cells[j]? = some c → RdF C n x c := by
  unfold D.vcells at h
  cases hc : d.cells with
  | none => simp [hc] at h
  | some cs =>
    simp only [hc] at h
    obtain ⟨h1, h2⟩ := cells_ok hd hc
    have hrefs : ∀ g, g ∈ cs.flatMap refs0 → m'.at g = m.at g := by
      intro g hg
      cases d with
      | dat n x =>
        exfalso
        have : ∀ d', d' ∈ cs → refs0 d' = [] := by
          intro d' hd'
          have hform : ∃ x', d' = .dat n x' := by
            by_cases hx : ∃ us, x = .agg us
            · obtain ⟨us, rfl⟩ := hx
              simp only [D.cells, Option.some.injEq] at hc
              subst hc
              obtain ⟨a, _, rfl⟩ := List.mem_map.1 hd'
              exact ⟨a, rfl⟩
            · have : cs = [.dat n x] := by cases x <;> simp_all [D.cells, V.one]
              subst this
              exact ⟨x, by simpa using hd'⟩
          obtain ⟨x', rfl⟩ := hform
          rfl
        rw [List.mem_flatMap] at hg
        obtain ⟨d', hd', hg'⟩ := hg
        rw [this d' hd'] at hg'
        cases hg'
      | aggd ds => simp only [D.cells, Option.some.injEq] at hc; subst hc; exact ha g (.inr ⟨ds, rfl, hg⟩)
      | nil => simp only [D.cells, Option.some.injEq] at hc; subst hc; exact ha g (.inl (by simpa using hg))
      | own _ _ _ _ => simp only [D.cells, Option.some.injEq] at hc; subst hc; exact ha g (.inl (by simpa using hg))
      | ptr _ _ => simp only [D.cells, Option.some.injEq] at hc; subst hc; exact ha g (.inl (by simpa using hg))
      | rptr _ _ _ _ => simp only [D.cells, Option.some.injEq] at hc; subst hc; exact ha g (.inl (by simpa using hg))
      | mp _ => simp only [D.cells, Option.some.injEq] at hc; subst hc; exact ha g (.inl (by simpa using hg))
      | sl _ _ => simp only [D.cells, Option.some.injEq] at hc; subst hc; exact ha g (.inl (by simpa using hg))
      | _ => simp [D.cells] at hc
    obtain ⟨h3, h4⟩ := asVs_ok hm cs n vs hrefs h
    refine ⟨by omega, fun j x c hx hcv => ?_⟩
    have hj : j < cs.length := by have := (List.getElem?_eq_some_iff.1 hx).1; omega
    have hcs : cs[j]? = some cs[j] := List.getElem?_eq_getElem hj
    exact h4 j cs[j] x c hcs hx (h2 j cs[j] c hcs hcv)
end
end Go.Proofs.Ytpdoplmnedpdaaa

/- The D-machine, part 7: regions in the text's order, code, loops, contracts. -/
namespace Go.Proofs.Ytpdoplmnedpdaaa
open Go.RowKit

structure St where
  env : Env
  mem : Mem
  n : Nat

def constD : Value → D
  | .bool b => .dat true (.bool b)
  | .int k n => .dat true (.int k n)
  | .string s => .dat true (.str s.data.toList)
  | .slice none 0 0 => .nil
  | _ => .any
def ev (s : St) : Operand → D
  | .tmp t => s.env.at t
  | .const v => constD v
  | .func f => .dat true (.fn f [])
  | .global _ => .any
def St.put (s : St) (dst : Option Tmp) (d : D) (wr : Mem) : St :=
  { env := match dst with | some t => (t, d) :: s.env | none => s.env, mem := wr ++ s.mem, n := s.n }

structure Holds (C : Cf) (s : St) (a : Act) : Prop where
  mem : HoldsM C s.mem
  defers : a.defers = []
  size : a.tmps.size = s.n
  env : ∀ t, RdD C s.mem (s.env.at t) (a.tmps.getD t undef)

theorem constD_ok {C : Cf} {m : Mem} (v : Value) : RdD C m (constD v) v := by
  cases v with
  | bool b => exact Rd.bool b
  | int k n => exact Rd.int k n
  | string s =>
    have h : s = ⟨s.data.toList.toArray⟩ := by cases s; simp
    show Rd _ _ (.str s.data.toList) (.string s)
    conv => rhs; rw [h]
    exact Rd.str _
  | slice a l c =>
    cases a with
    | some a => exact trivial
    | none =>
      cases l with
      | succ l => exact trivial
      | zero => cases c with
        | succ c => exact trivial
        | zero => exact (rfl : Value.slice none 0 0 = .slice none 0 0)
  | _ => exact trivial
theorem ev_ok {C : Cf} {s : St} {a : Act} (h : Holds C s a) (x : Operand) : RdD C s.mem (ev s x) (a.eval x) := by
  cases x with
  | tmp t => exact h.env t
  | const v => exact constD_ok v
  | func f => exact Rd.fn f [] #[] rfl (fun j d c h1 _ => by simp at h1)
  | global g => exact trivial

def ung : D → D
  | .grd _ d => ung d
  | d => d
/-- What must hold that a slot may be read. -/
def need : D → Prop
  | .grd b d => b = true ∧ need d
  | _ => True
def needs (s : St) : List Operand → Prop
  | [] => True
  | x :: r => match ev s x with
    | .grd b d => b = true ∧ (match d with | .grd b' d' => b' = true ∧ need d' ∧ needs s r | _ => needs s r)
    | _ => needs s r
theorem ung_ok {C : Cf} {m : Mem} : ∀ {d : D} {v : Value}, RdD C m d v → need d → RdD C m (ung d) v
  | .grd _ d, _, h, hn => ung_ok (d := d) (h.1 hn.1) hn.2
  | .any, _, h, _ | .nil, _, h, _ | .dat _ _, _, h, _ | .own _ _ _ _, _, h, _ | .ptr _ _, _, h, _ | .rptr _ _ _ _, _, h, _ | .mp _, _, h, _ | .sl _ _, _, h, _ | .aggd _, _, h, _ => h
theorem need_of {s : St} : ∀ {l : List Operand}, needs s l → ∀ x, x ∈ l → need (ev s x)
  | [], _, x, hx => by cases hx
  | y :: r, h, x, hx => by
    simp only [needs] at h
    have key : need (ev s y) ∧ needs s r := by
      cases he : ev s y with
      | grd b d =>
        rw [he] at h
        simp only at h
        cases d with
        | grd b' d' => exact ⟨⟨h.1, h.2.1, h.2.2.1⟩, h.2.2.2⟩
        | _ => exact ⟨⟨h.1, trivial⟩, h.2⟩
      | _ => rw [he] at h; exact ⟨trivial, h⟩
    rcases List.mem_cons.1 hx with rfl | hx
    · exact key.1
    · exact need_of key.2 x hx

def guardD (s : St) (ops : Array Oper) (j : Nat) : D := match (ops[j]?).bind (·.dst) with
  | some t => s.env.at t
  | none => .any
/-- When a guard lets by. -/
def guardB (b : Bool) : D → Option Bool
  | .dat _ (.bool c) => some (c == b)
  | .grd q d => match guardB b d with
    | some r => some (q && r)
    | none => none
  | _ => none
theorem guardB_ok {C : Cf} {m : Mem} {b : Bool} : ∀ {d : D} {v : Value} {q : Bool}, guardB b d = some q → RdD C m d v → ((match v with | .bool c => some c | _ => none) == some b) = q
  | .dat n x, v, q, h, hr => by
    cases x with
    | bool c =>
      simp only [guardB, Option.some.injEq] at h
      have := rd_bool hr
      subst this
      rw [← h]
      rfl
    | _ => simp [guardB] at h
  | .grd p d, v, q, h, hr => by
    simp only [guardB] at h
    cases hd : guardB b d with
    | none => simp [hd] at h
    | some r =>
      simp only [hd, Option.some.injEq] at h
      subst h
      cases p with
      | true => simpa using guardB_ok hd (hr.1 rfl)
      | false =>
        have := hr.2 rfl
        subst this
        rfl
  | .any, _, _, h, _ | .nil, _, _, h, _ | .own _ _ _ _, _, _, h, _ | .ptr _ _, _, _, h, _ | .rptr _ _ _ _, _, _, h, _ | .mp _, _, _, h, _ | .sl _ _, _, _, h, _ | .aggd _, _, _, h, _ => by simp [guardB] at h
theorem guard_ok {C : Cf} {s : St} {a : Act} {ops : Array Oper} {o : Oper} {j : Nat} {b q : Bool} (h : Holds C s a) (ho : o.guard = some (j, b)) (hg : guardB b (guardD s ops j) = some q) : Region.wanted o (yielded ops a.tmps) = q := by
  unfold guardD at hg
  simp only [Region.wanted, ho]
  unfold yielded
  cases ht : (ops[j]?).bind (·.dst) with
  | none => rw [ht] at hg; simp [guardB] at hg
  | some t =>
    rw [ht] at hg
    have hg : guardB b (s.env.at t) = some q := hg
    have hr := guardB_ok hg (h.env t)
    rw [Array.getD_eq_getD_getElem?] at hr
    cases hx : a.tmps[t]? with
    | none =>
      rw [hx] at hr
      simp only [Option.bind_some, hx]
      rw [← hr]
      rfl
    | some v =>
      rw [hx] at hr
      simp only [Option.getD_some] at hr
      simp only [Option.bind_some, hx]
      rw [← hr]
      cases v <;> rfl

/-- One operation of a region, with its guard. -/
inductive GStep (P : Program) (ops : Array Oper) (o : Oper) (s : St) : List Nat → D → Mem → Prop
  | plain {rd : List Nat} {val : D} {wr : Mem} (hg : o.guard = none) (h : SStep P o (ev s) s.mem rd val wr) : GStep P ops o s rd val wr
  | on {rd : List Nat} {val : D} {wr : Mem} {j : Nat} {b : Bool} (hg : o.guard = some (j, b)) (hj : guardB b (guardD s ops j) = some true) (h : SStep P o (ev s) s.mem rd val wr) : GStep P ops o s rd val wr
  | off {j : Nat} {b : Bool} (hg : o.guard = some (j, b)) (hj : guardB b (guardD s ops j) = some false) : GStep P ops o s [] .any []
  | may {rd : List Nat} {val : D} {j : Nat} {b q : Bool} (e' : Operand → D) (hg : o.guard = some (j, b)) (hj : guardB b (guardD s ops j) = some q)
      (hn : q = true → ∀ x, x ∈ o.op.operands → ∀ C m v, RdD C m (ev s x) v → RdD C m (e' x) v) (h : q = true → SStep P o e' s.mem rd val []) : GStep P ops o s rd (.grd q val) []

def dOK (s : St) : Option Tmp → Bool
  | some t => Nat.blt t s.n
  | none => true

theorem holds_put {C C' : Cf} {s : St} {a : Act} {dst : Option Tmp} {val : D} {wr : Mem} {v : Value} (h : Holds C s a) (hs : Step C s.mem C' (wr ++ s.mem)) (hv : RdD C' (wr ++ s.mem) val v) (hd : dOK s dst = true) :
    Holds C' (s.put dst val wr) (a.put dst v) := by
  cases dst with
  | none => exact ⟨hs.holds, h.defers, h.size, fun t => hs.slot _ _ (h.env t)⟩
  | some d =>
    have hlt : d < a.tmps.size := by rw [h.size]; simpa [dOK, Nat.blt_eq] using hd
    refine ⟨hs.holds, h.defers, by simpa [Act.put, St.put] using h.size, fun t => ?_⟩
    show RdD C' (wr ++ s.mem) (Env.at ((d, val) :: s.env) t) ((a.put (some d) v).tmps.getD t undef)
    by_cases hdt : d = t
    · subst hdt
      have : (a.put (some d) v).tmps.getD d undef = v := by simp [Act.put, hlt]
      rw [this]
      have h2 : Env.at ((d, val) :: s.env) d = val := look_same _ _ _ _
      rw [h2]; exact hv
    · have : (a.put (some d) v).tmps.getD t undef = a.tmps.getD t undef := by
        simp [Act.put, Array.getElem?_setIfInBounds, hdt]
      rw [this]
      have h2 : Env.at ((d, val) :: s.env) t = s.env.at t := look_other _ _ _ _ _ hdt
      rw [h2]
      exact hs.slot _ _ (h.env t)

/-- The run of a list of operations. -/
def DRun (P : Program) (ops : Array Oper) : List Oper → St → List (List Nat × List Nat) → St → Prop
  | [], s, tr, s' => tr = [] ∧ s' = s
  | o :: r, s, tr, s' => ∃ rd val wr tr', tr = (rd, wr.map (·.1)) :: tr' ∧ dOK s o.dst = true ∧ GStep P ops o s rd val wr ∧ DRun P ops r (s.put o.dst val wr) tr' s'
def DOps (P : Program) (ops : Array Oper) (l : List Oper) (s : St) (acc : List (List Nat × List Nat)) (K : List (List Nat × List Nat) → St → Prop) : Prop :=
  ∃ tr s', DRun P ops l s tr s' ∧ K (tr.reverse ++ acc) s'

theorem dnil {P : Program} {ops : Array Oper} {s : St} {acc : List (List Nat × List Nat)} {K : List (List Nat × List Nat) → St → Prop} (h : K acc s) : DOps P ops [] s acc K :=
  ⟨[], s, ⟨rfl, rfl⟩, h⟩
theorem dstep {P : Program} {ops : Array Oper} {o : Oper} {r : List Oper} {s : St} {acc : List (List Nat × List Nat)} {K : List (List Nat × List Nat) → St → Prop} {rd : List Nat} {val : D} {wr : Mem}
    (hd : dOK s o.dst = true) (hg : GStep P ops o s rd val wr) (k : DOps P ops r (s.put o.dst val wr) ((rd, wr.map (·.1)) :: acc) K) : DOps P ops (o :: r) s acc K := by
  obtain ⟨tr, s', h, hK⟩ := k
  exact ⟨_ :: tr, s', ⟨rd, val, wr, tr, rfl, hd, hg, h⟩, by simpa using hK⟩

section
variable {P : Program} {ops : Array Oper} {r : List Oper} {env : Env} {mem : Mem} {nt : Nat} {acc : List (List Nat × List Nat)} {K : List (List Nat × List Nat) → St → Prop} {rd : List Nat} {val : D} {wr : Mem}
  {t : Nat} {op : Op} {ty : TypeId} {pos : String} {af : Array Edge}
/-- A step that writes no memory. -/
theorem dp (hd : Nat.blt t nt = true) (h : SStep P ⟨some t, op, ty, pos, af, none⟩ (ev ⟨env, mem, nt⟩) mem rd val []) (k : DOps P ops r ⟨(t, val) :: env, mem, nt⟩ ((rd, []) :: acc) K) :
    DOps P ops (⟨some t, op, ty, pos, af, none⟩ :: r) ⟨env, mem, nt⟩ acc K := dstep hd (.plain rfl h) k
/-- A step that makes, or turns, one box. -/
theorem dm {g : Nat} {bx : Box} (hd : Nat.blt t nt = true) (h : SStep P ⟨some t, op, ty, pos, af, none⟩ (ev ⟨env, mem, nt⟩) mem rd val [(g, bx)]) (k : DOps P ops r ⟨(t, val) :: env, (g, bx) :: mem, nt⟩ ((rd, [g]) :: acc) K) :
    DOps P ops (⟨some t, op, ty, pos, af, none⟩ :: r) ⟨env, mem, nt⟩ acc K := dstep hd (.plain rfl h) k
/-- A store. -/
theorem ds {g : Nat} {bx : Box} (h : SStep P ⟨none, op, ty, pos, af, none⟩ (ev ⟨env, mem, nt⟩) mem rd val [(g, bx)]) (k : DOps P ops r ⟨env, (g, bx) :: mem, nt⟩ ((rd, [g]) :: acc) K) :
    DOps P ops (⟨none, op, ty, pos, af, none⟩ :: r) ⟨env, mem, nt⟩ acc K := dstep rfl (.plain rfl h) k
/-- The same, guarded: the guard holds; it does not hold; it may hold. -/
theorem dpOn {j : Nat} {b : Bool} (hd : Nat.blt t nt = true) (hj : guardB b (guardD ⟨env, mem, nt⟩ ops j) = some true) (h : SStep P ⟨some t, op, ty, pos, af, some (j, b)⟩ (ev ⟨env, mem, nt⟩) mem rd val [])
    (k : DOps P ops r ⟨(t, val) :: env, mem, nt⟩ ((rd, []) :: acc) K) : DOps P ops (⟨some t, op, ty, pos, af, some (j, b)⟩ :: r) ⟨env, mem, nt⟩ acc K := dstep hd (.on rfl hj h) k
theorem dmOn {j : Nat} {b : Bool} {g : Nat} {bx : Box} (hd : Nat.blt t nt = true) (hj : guardB b (guardD ⟨env, mem, nt⟩ ops j) = some true) (h : SStep P ⟨some t, op, ty, pos, af, some (j, b)⟩ (ev ⟨env, mem, nt⟩) mem rd val [(g, bx)])
    (k : DOps P ops r ⟨(t, val) :: env, (g, bx) :: mem, nt⟩ ((rd, [g]) :: acc) K) : DOps P ops (⟨some t, op, ty, pos, af, some (j, b)⟩ :: r) ⟨env, mem, nt⟩ acc K := dstep hd (.on rfl hj h) k
theorem dpOff {j : Nat} {b : Bool} (hd : Nat.blt t nt = true) (hj : guardB b (guardD ⟨env, mem, nt⟩ ops j) = some false)
    (k : DOps P ops r ⟨(t, .grd false (.dat true (.bool false))) :: env, mem, nt⟩ (([], []) :: acc) K) : DOps P ops (⟨some t, op, ty, pos, af, some (j, b)⟩ :: r) ⟨env, mem, nt⟩ acc K :=
  dstep hd (.may (fun _ => .any) rfl hj (fun h => by cases h) (fun h => by cases h)) k
theorem dpMay {j : Nat} {b q : Bool} (hd : Nat.blt t nt = true) (hj : guardB b (guardD ⟨env, mem, nt⟩ ops j) = some q) (hn : q = true → needs ⟨env, mem, nt⟩ op.operands.toList)
    (h : q = true → SStep P ⟨some t, op, ty, pos, af, some (j, b)⟩ (fun x => ung (ev ⟨env, mem, nt⟩ x)) mem rd val [])
    (k : DOps P ops r ⟨(t, .grd q val) :: env, mem, nt⟩ ((rd, []) :: acc) K) : DOps P ops (⟨some t, op, ty, pos, af, some (j, b)⟩ :: r) ⟨env, mem, nt⟩ acc K :=
  dstep hd (.may _ rfl hj (fun hq x hx C m v hv => ung_ok hv (need_of (hn hq) x (by simpa using hx))) h) k
theorem dpickAnd {j : Nat} {b q p c n1 n2 n3 : Bool} {x y z : Operand} (hd : Nat.blt t nt = true) (hj : guardB b (guardD ⟨env, mem, nt⟩ ops j) = some q) (h1 : ev ⟨env, mem, nt⟩ x = .grd q (.dat n1 (.bool p))) (h2 : ev ⟨env, mem, nt⟩ y = .grd (q && (p == true)) (.dat n2 (.bool c))) (h3 : ev ⟨env, mem, nt⟩ z = .dat n3 (.bool false))
    (k : DOps P ops r ⟨(t, .grd q (.dat true (.bool (p && c)))) :: env, mem, nt⟩ (([], []) :: acc) K) : DOps P ops (⟨some t, .pick x y z, ty, pos, af, some (j, b)⟩ :: r) ⟨env, mem, nt⟩ acc K :=
  dstep hd (.may _ rfl hj (fun _ _ _ _ _ _ hv => hv) (fun hq => S_pick_andG (by rw [h1, hq]) (by rw [h2, hq]) h3)) k
theorem dpickOr {j : Nat} {b q p c n1 n2 n3 : Bool} {x y z : Operand} (hd : Nat.blt t nt = true) (hj : guardB b (guardD ⟨env, mem, nt⟩ ops j) = some q) (h1 : ev ⟨env, mem, nt⟩ x = .grd q (.dat n1 (.bool p))) (h2 : ev ⟨env, mem, nt⟩ y = .dat n2 (.bool true)) (h3 : ev ⟨env, mem, nt⟩ z = .grd (q && (p == false)) (.dat n3 (.bool c)))
    (k : DOps P ops r ⟨(t, .grd q (.dat true (.bool (p || c)))) :: env, mem, nt⟩ (([], []) :: acc) K) : DOps P ops (⟨some t, .pick x y z, ty, pos, af, some (j, b)⟩ :: r) ⟨env, mem, nt⟩ acc K :=
  dstep hd (.may _ rfl hj (fun _ _ _ _ _ _ hv => hv) (fun hq => S_pick_orG (by rw [h1, hq]) h2 (by rw [h3, hq]))) k
end

/-- One guarded operation in the world. -/
theorem gstep_wp {P : Program} {ops : Array Oper} {o : Oper} {s : St} {rd : List Nat} {val : D} {wr : Mem} (hg : GStep P ops o s rd val wr) (hd : dOK s o.dst = true) {C : Cf} {a : Act} (h : Holds C s a)
    {next : Act → World → Prop} {Q : Exit → Act → World → Prop}
    (hn : ∀ C' a', Holds C' (s.put o.dst val wr) a' → Step C s.mem C' (s.put o.dst val wr).mem → next a' C'.w) :
    if Region.wanted o (yielded ops a.tmps) then o.wp P a C.w next Q else next (a.put o.dst undef) C.w := by
  have go : SStep P o (ev s) s.mem rd val wr → o.wp P a C.w next Q := fun hs =>
    hs C s.mem a next Q (fun _ _ => rfl) h.mem (fun x _ => ev_ok h x) (fun v C' hst hv => hn C' _ (holds_put h hst hv hd) hst)
  cases hg with
  | plain hg hs =>
    rw [if_pos (by simp [Region.wanted, hg])]
    exact go hs
  | on hg hj hs =>
    rw [if_pos (guard_ok h hg hj)]
    exact go hs
  | @off j b hg hj =>
    rw [if_neg (by rw [guard_ok h hg hj]; simp)]
    exact hn C _ (holds_put (wr := []) h (Step.refl h.mem) trivial hd) (Step.refl h.mem)
  | @may _ val j b q e' hg hj hnd hs =>
    have hw := guard_ok h hg hj
    cases q with
    | true =>
      rw [if_pos hw]
      exact hs rfl C s.mem a next Q (fun _ _ => rfl) h.mem (fun x hx => hnd rfl x hx C _ _ (ev_ok h x))
        (fun v C' hst hv => hn C' _ (holds_put (wr := []) h hst ⟨fun _ => hv, fun hf => nomatch hf⟩ hd) hst)
    | false =>
      rw [if_neg (by rw [hw]; simp)]
      exact hn C _ (holds_put (wr := []) h (Step.refl h.mem) ⟨(fun hb => nomatch hb), fun _ => rfl⟩ hd) (Step.refl h.mem)

theorem wpList_of_run {P : Program} {ops : Array Oper} {Q : Exit → Act → World → Prop} : ∀ (l : List Oper) (s : St) (tr : List (List Nat × List Nat)) (s' : St) (C : Cf) (a : Act), DRun P ops l s tr s' → Holds C s a →
    (∀ C' a', Holds C' s' a' → Step C s.mem C' s'.mem → Q .normal a' C'.w) → wpList P ops Q l a C.w
  | [], s, tr, s', C, a, ⟨_, hs⟩, h, hQ => by
    subst hs
    exact hQ C a h (Step.refl h.mem)
  | o :: r, s, tr, s', C, a, ⟨rd, val, wr, tr', _, hd, hg, hr⟩, h, hQ => by
    refine wpList_step fun K hK => ?_
    have := gstep_wp (next := K) (Q := Q) hg hd h (fun C' a' h' he => hK _ _ (wpList_of_run r _ tr' s' C' a' hr h' (fun C2 a2 h2 e2 => hQ C2 a2 h2 (he.trans e2))))
    exact this

/-- Code, from a state. -/
def DW (P : Program) (c : Code) (Q : Exit → St → Prop) (s : St) : Prop :=
  ∀ (C : Cf) (a : Act), Holds C s a → c.wp P (fun e a' w' => ∃ C' s', C'.w = w' ∧ Q e s' ∧ Holds C' s' a' ∧ Ext C s.mem C' s'.mem) a C.w

/-- A state may be read as another one, in the same world. -/
def Wk (s s' : St) : Prop := ∀ (C : Cf) (a : Act), Holds C s a → ∃ C', C'.w = C.w ∧ Holds C' s' a ∧ Ext C s.mem C' s'.mem

section
variable {P : Program} {Q Q' : Exit → St → Prop} {s s' : St}
theorem Wk.refl (s : St) : Wk s s := fun C a h => ⟨C, rfl, h, Ext.refl _ _⟩
theorem Wk.trans {s s1 s2 : St} (h : Wk s s1) (k : Wk s1 s2) : Wk s s2 := fun C a hh => by
  obtain ⟨C1, e1, h1, x1⟩ := h C a hh
  obtain ⟨C2, e2, h2, x2⟩ := k C1 a h1
  exact ⟨C2, e2.trans e1, h2, x1.trans x2⟩
theorem DW_weak {c : Code} (h : Wk s s') (k : DW P c Q s') : DW P c Q s := fun C a hh => by
  obtain ⟨C', e, h', x⟩ := h C a hh
  have := k C' a h'
  rw [e] at this
  exact Code.wp_mono (fun ex a2 w2 ⟨C2, s2, e2, q2, h2, x2⟩ => ⟨C2, s2, e2, q2, h2, x.trans x2⟩) this
theorem DW_conseq {c : Code} (h : DW P c Q s) (hq : ∀ e s, Q e s → Q' e s) : DW P c Q' s := fun C a hh =>
  Code.wp_mono (fun ex a2 w2 ⟨C2, s2, e2, q2, h2, x2⟩ => ⟨C2, s2, e2, hq _ _ q2, h2, x2⟩) (h C a hh)
theorem DW_skip (h : Q .normal s) : DW P .skip Q s := fun C a hh => wp_skip ⟨C, s, rfl, h, hh, Ext.refl _ _⟩
theorem DW_exit {id : Nat} (h : Q (.exit id) s) : DW P (.exit id) Q s := fun C a hh => wp_exit ⟨C, s, rfl, h, hh, Ext.refl _ _⟩
theorem DW_ret (h : Q .ret s) : DW P .ret Q s := fun C a hh => wp_ret ⟨C, s, rfl, h, hh, Ext.refl _ _⟩
def thenQ (K : St → Prop) (Q : Exit → St → Prop) : Exit → St → Prop
  | .normal, s => K s
  | e, s => Q e s
theorem DW_seq {x y : Code} (h : DW P x (thenQ (DW P y Q) Q) s) : DW P (.seq x y) Q s := fun C a hh => by
  refine wp_seq (Code.wp_mono ?_ (h C a hh))
  rintro e a1 w1 ⟨C1, s1, rfl, q1, h1, x1⟩
  cases e with
  | normal => exact Code.wp_mono (fun ex a2 w2 ⟨C2, s2, e2, q2, h2, x2⟩ => ⟨C2, s2, e2, q2, h2, x1.trans x2⟩) (q1 C1 a1 h1)
  | _ => exact ⟨C1, s1, rfl, q1, h1, x1⟩
theorem DW_cond_t {c : Operand} {x y : Code} {n : Bool} (hc : ev s c = .dat n (.bool true)) (h : DW P x Q s) : DW P (.cond c x y) Q s := fun C a hh => by
  have he := ev_ok hh c
  rw [hc] at he
  exact wp_cond_true (rd_bool he) (h C a hh)
theorem DW_cond_f {c : Operand} {x y : Code} {n : Bool} (hc : ev s c = .dat n (.bool false)) (h : DW P y Q s) : DW P (.cond c x y) Q s := fun C a hh => by
  have he := ev_ok hh c
  rw [hc] at he
  exact wp_cond_false (rd_bool he) (h C a hh)
theorem DW_cond {c : Operand} {x y : Code} {n b : Bool} (hc : ev s c = .dat n (.bool b)) (ht : b = true → DW P x Q s) (hf : b = false → DW P y Q s) : DW P (.cond c x y) Q s := fun C a hh => by
  have he := ev_ok hh c
  rw [hc] at he
  exact wp_cond_split (rd_bool he) (fun h => ht h C a hh) (fun h => hf h C a hh)
def inBlk (id : Nat) (Q : Exit → St → Prop) : Exit → St → Prop
  | .exit id', s => if id' = id then Q .normal s else Q (.exit id') s
  | e, s => Q e s
theorem DW_block {id : Nat} {c : Code} (h : DW P c (inBlk id Q) s) : DW P (.block id c) Q s := fun C a hh => by
  refine wp_block (Code.wp_mono ?_ (h C a hh))
  rintro e a1 w1 ⟨C1, s1, rfl, q1, h1, x1⟩
  cases e with
  | exit id' =>
    simp only [inBlk, Exit.inBlock] at q1 ⊢
    split at q1
    · rename_i hid; rw [if_pos hid]; exact ⟨C1, s1, rfl, q1, h1, x1⟩
    · rename_i hid; rw [if_neg hid]; exact ⟨C1, s1, rfl, q1, h1, x1⟩
  | _ => exact ⟨C1, s1, rfl, q1, h1, x1⟩
theorem DW_region {id : Nat} {l : List Oper} (h : DOps P l.toArray l s [] (fun _ s' => Q .normal s')) : DW P (.region id l.toArray false) Q s := fun C a hh => by
  obtain ⟨tr, s', hr, hq⟩ := h
  exact wp_region_lit (wpList_of_run l s tr s' C a hr hh (fun C' a' h' x' => ⟨C', s', rfl, hq, h', x'.ext⟩))
theorem then_normal {K : St → Prop} (h : K s) : thenQ K Q .normal s := h
theorem then_exit {K : St → Prop} {id : Nat} (h : Q (.exit id) s) : thenQ K Q (.exit id) s := h
theorem then_ret {K : St → Prop} (h : Q .ret s) : thenQ K Q .ret s := h
theorem blk_normal {id : Nat} (h : Q .normal s) : inBlk id Q .normal s := h
theorem blk_ret {id : Nat} (h : Q .ret s) : inBlk id Q .ret s := h
theorem blk_hit {id id' : Nat} (hi : Nat.beq id' id = true) (h : Q .normal s) : inBlk id Q (.exit id') s := by
  have := Nat.eq_of_beq_eq_true hi
  simp only [inBlk, if_pos this]; exact h
theorem blk_miss {id id' : Nat} (hi : Nat.beq id' id = false) (h : Q (.exit id') s) : inBlk id Q (.exit id') s := by
  have : id' ≠ id := by rintro rfl; simp at hi
  simp only [inBlk, if_neg this]; exact h

/-- A loop: its states by a parameter x. -/
def loopQ {X : Type} (inv : X → St) (R : X → Prop) (μ : X → Nat) (x : X) (Q : Exit → St → Prop) : Exit → St → Prop
  | .normal, s => ∃ x', R x' ∧ μ x' < μ x ∧ Wk s (inv x')
  | e, s => Q e s
theorem DW_loop {X : Type} (inv : X → St) (R : X → Prop) (μ : X → Nat) {c : Code} (x0 : X) (h0 : R x0) (hw : Wk s (inv x0))
    (round : ∀ x, R x → DW P c (loopQ inv R μ x Q) (inv x)) : DW P (.loop c) Q s := by
  refine DW_weak hw ?_
  intro C a hh b k cs
  have key : ∀ (n : Nat) (x : X) (C1 : Cf) (a1 : Act), μ x = n → R x → Holds C1 (inv x) a1 →
      ∃ e a' w', (∃ C' s', C'.w = w' ∧ Q e s' ∧ Holds C' s' a' ∧ Ext C1 (inv x).mem C' s'.mem) ∧ Arrives P (lone (b.at a1 (.code c :: .inLoop c :: k)) cs C1.w) b k cs e a' w' := by
    intro n
    induction n using Nat.strongRecOn with
    | _ n ih =>
      intro x C1 a1 hn hR h1
      obtain ⟨e, a2, w2, ⟨C2, s2, rfl, q2, h2, x2⟩, harr⟩ := round x hR C1 a1 h1 b (.inLoop c :: k) cs
      cases e with
      | normal =>
        obtain ⟨x', hR', hlt, hwk⟩ := q2
        obtain ⟨C3, e3, h3, x3⟩ := hwk C2 a2 h2
        obtain ⟨e4, a4, w4, ⟨C4, s4, hw4, q4, h4, x4⟩, harr4⟩ := ih (μ x') (hn ▸ hlt) x' C3 a2 rfl hR' h3
        rw [e3] at harr4
        exact ⟨e4, a4, w4, ⟨C4, s4, hw4, q4, h4, (x2.trans x3).trans x4⟩, .of_steps (Steps.trans harr (.one step_inLoop)) harr4⟩
      | exit id => exact ⟨_, a2, _, ⟨C2, s2, rfl, q2, h2, x2⟩, .pass (x := .inLoop c) rfl (fun _ _ => .inl (by simp)) harr⟩
      | goto l => exact ⟨_, a2, _, ⟨C2, s2, rfl, q2, h2, x2⟩, .pass (x := .inLoop c) rfl (fun _ _ => .inl (by simp)) harr⟩
      | ret => exact ⟨_, a2, _, ⟨C2, s2, rfl, q2, h2, x2⟩, .pass (x := .inLoop c) rfl (fun _ _ => .inl (by simp)) harr⟩
      | panic ch => exact ⟨_, a2, _, ⟨C2, s2, rfl, q2, h2, x2⟩, .pass (x := .inLoop c) rfl (fun _ _ => .inl (by simp)) harr⟩
      | outgrown => exact ⟨_, a2, _, ⟨C2, s2, rfl, q2, h2, x2⟩, .pass (x := .inLoop c) rfl (fun _ _ => .inl (by simp)) harr⟩
  obtain ⟨e, a', w', hq, harr⟩ := key _ x0 C a rfl h0 hh
  exact ⟨e, a', w', hq, .of_steps (.one step_loop) harr⟩
theorem loop_again {X : Type} {inv : X → St} {R : X → Prop} {μ : X → Nat} {x : X} (x' : X) (hR : R x') (hm : μ x' < μ x) (hw : Wk s (inv x')) : loopQ inv R μ x Q .normal s := ⟨x', hR, hm, hw⟩
theorem loop_exit {X : Type} {inv : X → St} {R : X → Prop} {μ : X → Nat} {x : X} {id : Nat} (h : Q (.exit id) s) : loopQ inv R μ x Q (.exit id) s := h
theorem loop_ret {X : Type} {inv : X → St} {R : X → Prop} {μ : X → Nat} {x : X} (h : Q .ret s) : loopQ inv R μ x Q .ret s := h
end

/-- Values that read as a list of data. -/
def RdL (S : Nat → Prop) (w : World) (ds : List V) (vs : Array Value) : Prop := vs.size = ds.length ∧ ∀ (j : Nat) d c, ds[j]? = some d → vs[j]? = some c → Rd S w d c
def newB (w w' : World) : Nat → Prop := fun b => w.heap.size ≤ b ∧ b < w'.heap.size
/-- THE CONTRACT: called with values that read as ds, the function returns what reads as r, out of new memory alone, and leaves all that was as it was. -/
def Callable (P : Program) (f : FuncId) : Prop := ∃ fn, P.funcs[f]? = some fn ∧ fn.body.isNone = false ∧ (fn.name == "runtime.NumGoroutine") = false
def FnF (P : Program) (f : FuncId) (ds : List V) (r : V) : Prop := Callable P f ∧
  ∀ (S : Nat → Prop) (w : World) (vs : Array Value), (∀ b, S b → b < w.heap.size) → RdL S w ds vs →
    Calls P f vs w fun e w' => ∃ v, e = .returned v ∧ Below w.heap.size w w' ∧ Rd (newB w w') w' r v

/-- The slots with which a function begins. -/
def envOf : Nat → List V → Env
  | _, [] => []
  | i, d :: r => (i, .dat false d) :: envOf (i + 1) r
theorem envOf_at : ∀ (ds : List V) (i t : Nat), Env.at (envOf i ds) t = if i ≤ t then (match ds[t - i]? with | some d => .dat false d | none => .any) else .any
  | [], i, t => by simp [envOf, Env.at, look]
  | d :: r, i, t => by
    have ih := envOf_at r (i + 1) t
    by_cases h : i = t
    · subst h
      rw [if_pos (Nat.le_refl _), Nat.sub_self]
      exact look_same _ _ _ _
    · have : Env.at (envOf i (d :: r)) t = Env.at (envOf (i + 1) r) t := look_other _ _ _ _ _ h
      rw [this, ih]
      by_cases h2 : i + 1 ≤ t
      · rw [if_pos h2, if_pos (by omega)]
        obtain ⟨q, hq⟩ : ∃ q, t - i = q + 1 := ⟨t - i - 1, by omega⟩
        rw [hq, List.getElem?_cons_succ, show t - (i + 1) = q by omega]
      · rw [if_neg h2, if_neg (by omega)]

/-- What a function hands back: out of slots or cells. -/
inductive RetOK (P : Program) (s : St) : List ResultVar → List V → Prop
  | nil : RetOK P s [] []
  | tmp {t : Tmp} {n : Bool} {x : V} {rs : List ResultVar} {xs : List V} (h : asV s.mem (s.env.at t) = some (n, x)) (hn : n = true ∨ Flat x) (r : RetOK P s rs xs) : RetOK P s (.tmp t :: rs) (x :: xs)
  | cellA {a : Tmp} {T : TypeId} {sz by_ g : Nat} {zs : List V} {frz nw n : Bool} {cs : List D} {ys : List V} {rs : List ResultVar} {xs : List V} (ht : TyI P T true sz by_ zs) (h : s.env.at a = .ptr g 0) (hm : s.mem.at g = .cells frz nw cs)
      (hc : asVs s.mem cs = some (n, ys)) (hl : Nat.beq cs.length sz = true) (hn : n = true ∨ Flat (.agg ys)) (r : RetOK P s rs xs) : RetOK P s (.cell a T :: rs) (.agg ys :: xs)
  | cellO {a : Tmp} {T : TypeId} {sz by_ g : Nat} {zs : List V} {frz nw n : Bool} {c : D} {y : V} {rs : List ResultVar} {xs : List V} (ht : TyI P T false sz by_ zs) (h : s.env.at a = .ptr g 0) (hm : s.mem.at g = .cells frz nw [c])
      (hc : asV0 s.mem c = some (n, y)) (hn : n = true ∨ Flat y) (r : RetOK P s rs xs) : RetOK P s (.cell a T :: rs) (y :: xs)
def pack : List V → V
  | [x] => x
  | xs => .tuple xs
def retQ (P : Program) (res : List ResultVar) (r : V) : Exit → St → Prop
  | .normal, s => ∃ xs, RetOK P s res xs ∧ pack xs = r
  | .ret, s => ∃ xs, RetOK P s res xs ∧ pack xs = r
  | _, _ => False

def resOne (tmps : Array Value) : ResultVar → Sem Value
  | .tmp t => pure (tmps.getD t undef)
  | .cell a t => do loadVar t (← asAddr (tmps.getD a undef))
def packV : List Value → Value
  | [v] => v
  | vs => .tuple vs.toArray
theorem run_mapM {α : Type} {P : Program} {w : World} (f : α → Sem Value) : ∀ (l : List α) (vs : List Value), vs.length = l.length → (∀ (j : Nat) x v, l[j]? = some x → vs[j]? = some v → (f x).run P w = .ok v w) →
    (l.mapM f).run P w = .ok vs w
  | [], vs, hl, _ => by
    cases vs with
    | nil => simp
    | cons a l => simp at hl
  | x :: l, vs, hl, h => by
    cases vs with
    | nil => simp at hl
    | cons v vs =>
      have h0 := h 0 x v rfl rfl
      have ih := run_mapM f l vs (by simpa using hl) (fun j x v h1 h2 => h (j + 1) x v h1 h2)
      simp [h0, ih]
theorem run_results {P : Program} {w : World} {fn : Func} {tmps : Array Value} (vs : List Value) (hl : vs.length = fn.results.toList.length)
    (h : ∀ (j : Nat) x v, fn.results.toList[j]? = some x → vs[j]? = some v → (resOne tmps x).run P w = .ok v w) :
    (results fn tmps).run P w = .ok (packV vs) w := by
  have he : fn.results.mapM (resOne tmps) = List.toArray <$> fn.results.toList.mapM (resOne tmps) := by
    cases fn.results; simp
  have h1 : results fn tmps = (do let us ← fn.results.mapM (resOne tmps); pure (if h : us.size = 1 then us[0] else .tuple us)) := by
    unfold results
    congr 1
  rw [h1, he]
  simp only [Sem.run_bind, Sem.run_map, run_mapM (resOne tmps) _ vs hl h, Result.andThen_ok, Sem.run_pure]
  match vs with
  | [] => rfl
  | [v] => rfl
  | a :: b :: l => simp [packV]

theorem ret_ok {P : Program} {C : Cf} {s : St} {a : Act} (h : Holds C s a) {rs : List ResultVar} {xs : List V} (hr : RetOK P s rs xs) :
    ∃ vs : List Value, vs.length = rs.length ∧ xs.length = rs.length ∧ (∀ (j : Nat) x v, rs[j]? = some x → vs[j]? = some v → (resOne a.tmps x).run P C.w = .ok v C.w) ∧
      (∀ (j : Nat) x v, xs[j]? = some x → vs[j]? = some v → RdF C true x v) := by
  have flagged : ∀ {n : Bool} {x : V} {v : Value}, RdF C n x v → (n = true ∨ Flat x) → RdF C true x v := by
    intro n x v hv hn
    rcases hn with rfl | hf
    · exact hv
    · exact hv.flat hf
  have glue : ∀ {r : ResultVar} {rs : List ResultVar} {x : V} {xs : List V} {v : Value}, (resOne a.tmps r).run P C.w = .ok v C.w → RdF C true x v →
      (∃ vs : List Value, vs.length = rs.length ∧ xs.length = rs.length ∧ (∀ (j : Nat) x v, rs[j]? = some x → vs[j]? = some v → (resOne a.tmps x).run P C.w = .ok v C.w) ∧ (∀ (j : Nat) x v, xs[j]? = some x → vs[j]? = some v → RdF C true x v)) →
      ∃ vs : List Value, vs.length = (r :: rs).length ∧ (x :: xs).length = (r :: rs).length ∧ (∀ (j : Nat) x v, (r :: rs)[j]? = some x → vs[j]? = some v → (resOne a.tmps x).run P C.w = .ok v C.w) ∧ (∀ (j : Nat) y v, (x :: xs)[j]? = some y → vs[j]? = some v → RdF C true y v) := by
    rintro r rs x xs v h1 h2 ⟨vs, l1, l2, r1, r2⟩
    refine ⟨v :: vs, by simp [l1], by simp [l2], fun j y u hy hu => ?_, fun j y u hy hu => ?_⟩
    · cases j with
      | zero => simp at hy hu; subst hy; subst hu; exact h1
      | succ j => exact r1 j y u (by simpa using hy) (by simpa using hu)
    · cases j with
      | zero => simp at hy hu; subst hy; subst hu; exact h2
      | succ j => exact r2 j y u (by simpa using hy) (by simpa using hu)
  induction hr with
  | nil => exact ⟨[], rfl, rfl, by simp, by simp⟩
  | @tmp t n x rs xs hx hn r ih => exact glue (by rfl) (flagged (asV_ok h.mem (fun _ _ => rfl) hx (h.env t)) hn) ih
  | @cellA t T sz by_ g zs frz nw n cs ys rs xs ht hp hm hc hl hn r ih =>
    have hp' := h.env t
    rw [hp] at hp'
    obtain ⟨frz', nw', cs', b, hat, hi, hv⟩ := hp'
    have hb := h.mem.box g
    rw [hm] at hb hat
    injection hat with e1 e2 e3
    subst e1; subst e2; subst e3
    obtain ⟨b', hi', arr, T', fz, h1, h2, h3, h4, h5⟩ := hb
    rw [hi] at hi'
    injection hi' with hi'
    subst hi'
    have hl := Nat.eq_of_beq_eq_true hl
    obtain ⟨hlen, hall⟩ := asVs_ok h.mem cs n ys (fun _ _ => rfl) hc
    have hcell : ∀ j, j < sz → arr[j]? = some (arr.getD j undef) := fun j hj => by
      have : j < arr.size := by omega
      simp [Array.getElem?_eq_getElem this]
    refine glue (v := .agg ((List.range sz).map fun j => arr.getD j undef).toArray) ?_ (flagged (n := n) ?_ hn) ih
    · simp only [resOne, hv, asAddr, Sem.run_bind, Sem.run_pure, Result.andThen_ok]
      exact run_loadVar_agg ht C.w _ (fun j => arr.getD j undef) (fun j hj => by rw [aadd, cell_of_arr h1, Nat.zero_add]; exact hcell j hj)
    · refine Rd.agg ys _ (by simp; omega) (fun j d c hd hcv => ?_)
      have hj : j < sz := by have := (List.getElem?_eq_some_iff.1 hd).1; omega
      have hce : c = arr.getD j undef := by simpa [hj] using hcv.symm
      subst hce
      have hcs : cs[j]? = some (cs[j]'(by omega)) := List.getElem?_eq_getElem _
      exact hall j _ d _ hcs hd (h4 _ _ _ hcs (hcell j hj))
  | @cellO t T sz by_ g zs frz nw n c y rs xs ht hp hm hc hn r ih =>
    have hp' := h.env t
    rw [hp] at hp'
    obtain ⟨frz', nw', cs', b, hat, hi, hv⟩ := hp'
    have hb := h.mem.box g
    rw [hm] at hb hat
    injection hat with e1 e2 e3
    subst e1; subst e2; subst e3
    obtain ⟨b', hi', arr, T', fz, h1, h2, h3, h4, h5⟩ := hb
    rw [hi] at hi'
    injection hi' with hi'
    subst hi'
    have hlt : 0 < arr.size := by simp at h3; omega
    have hg : arr[0]? = some arr[0] := Array.getElem?_eq_getElem hlt
    refine glue (v := arr[0]) ?_ (flagged (n := n) (asV0_ok h.mem (fun _ _ => rfl) hc (h4 0 c _ rfl hg).rd) hn) ih
    simp only [resOne, hv, asAddr, Sem.run_bind, Sem.run_pure, Result.andThen_ok]
    exact run_loadVar_one ht C.w _ arr[0] (by rw [cell_of_arr h1]; exact hg)

theorem pack_rd {C : Cf} {xs : List V} {vs : List Value} (hl : vs.length = xs.length) (h : ∀ (j : Nat) x v, xs[j]? = some x → vs[j]? = some v → RdF C true x v) :
    RdF C true (pack xs) (packV vs) := by
  match xs, vs, hl with
  | [], [], _ => exact Rd.tuple [] #[] rfl (by simp)
  | [x], [v], _ => exact h 0 x v rfl rfl
  | x :: y :: l, u :: v :: k, hl => exact Rd.tuple _ _ (by simpa using hl) (fun j d c h1 h2 => h j d c h1 (by simpa using h2))

theorem holds_start (S : Nat → Prop) (w : World) (vs : Array Value) (ds : List V) (n : Nat) (hS : ∀ b, S b → b < w.heap.size) (hr : RdL S w ds vs) (hn : ds.length ≤ n) :
    Holds ⟨fun _ => none, S, fun _ => False, w⟩ ⟨envOf 0 ds, [], n⟩ ⟨vs ++ Array.replicate (n - vs.size) undef, []⟩ := by
  refine ⟨⟨fun g => trivial, fun g g' b (h : Box.gone ≠ Box.gone) => absurd rfl h, fun g b (h : false = true) => by (cases h), hS, fun b (h : False) => h.elim⟩, rfl, by simp [hr.1]; omega, fun t => ?_⟩
  rw [envOf_at, if_pos (Nat.zero_le _), Nat.sub_zero]
  cases hd : ds[t]? with
  | none => exact trivial
  | some d =>
    have hlt : t < vs.size := by rw [hr.1]; exact (List.getElem?_eq_some_iff.1 hd).1
    have hv : vs[t]? = some vs[t] := Array.getElem?_eq_getElem hlt
    have : (vs ++ Array.replicate (n - vs.size) undef).getD t undef = vs[t] := by
      rw [Array.getD_eq_getD_getElem?, Array.getElem?_append_left hlt, hv]; rfl
    rw [this]
    exact hr.2 t d _ hd hv

/-- A contract, from the code. -/
theorem fnF_of {P : Program} {f : FuncId} {fn : Func} {c : Code} {ds : List V} {r : V} (hf : P.funcs[f]? = some fn) (hb : fn.body = some c) (hn : Nat.ble ds.length fn.ntmps = true) (hname : (fn.name == "runtime.NumGoroutine") = false)
    (h : DW P c (retQ P fn.results.toList r) ⟨envOf 0 ds, [], fn.ntmps⟩) : FnF P f ds r := by
  refine ⟨⟨fn, hf, by rw [hb]; rfl, hname⟩, ?_⟩
  intro S w vs hS hr
  refine calls_of_wp hf hb ?_
  have h0 := holds_start S w vs ds fn.ntmps hS hr (Nat.le_of_ble_eq_true hn)
  refine Code.wp_mono ?_ (h _ _ h0)
  rintro e a' w' ⟨C', s', rfl, hq, h', hx⟩
  have fin : (∃ xs, RetOK P s' fn.results.toList xs ∧ pack xs = r) → a'.defers = [] ∧ ∃ v, (results fn a'.tmps).run P C'.w = .ok v C'.w ∧
      ∃ v', Ending.returned v = .returned v' ∧ Below w.heap.size w C'.w ∧ Rd (newB w C'.w) C'.w r v' := by
    rintro ⟨xs, hro, rfl⟩
    obtain ⟨us, l1, l2, r1, r2⟩ := ret_ok h' hro
    refine ⟨h'.defers, _, run_results us l1 r1, _, rfl, ⟨hx.os, hx.tape, hx.output, hx.size, fun k hk => hx.keep k hk (fun g hg => by simp [Mem.at, look, Box.mut] at hg)⟩, ?_⟩
    refine Rd.mono (pack_rd (by omega) r2) (fun b hb => ?_) (fun _ _ => rfl)
    refine ⟨?_, h'.mem.sdom b (h'.mem.ns b hb)⟩
    rcases hx.supN b hb with h1 | h1 | ⟨g0, h1, _⟩
    · exact h1.elim
    · exact h1
    · simp [Mem.at, look, Box.mut] at h1
  cases e with
  | normal => exact fin hq
  | ret => exact fin hq
  | _ => exact hq.elim

end Go.Proofs.Ytpdoplmnedpdaaa

/- The D-machine, part 8: calls by contract. -/
namespace Go.Proofs.Ytpdoplmnedpdaaa
open Go.RowKit

/-- Own memory, lent for the time of a call. -/
def asB0 (m : Mem) : D → Option V
  | .dat _ x => some x
  | .nil => some (.slice [])
  | .own g ver lo len => match m.at g with
    | .row ver' _ _ _ xs => bif Nat.beq ver ver' then some (.slice ((xs.drop lo).take len)) else none
    | _ => none
  | _ => none
def asBs (m : Mem) : List D → Option (List V)
  | [] => some []
  | d :: r => match asB0 m d, asBs m r with
    | some x, some xs => some (x :: xs)
    | _, _ => none
def asB (m : Mem) : D → Option V
  | .ptr g off => match m.at g with
    | .cells _ _ cs => match asBs m (cs.drop off) with
      | some xs => bif xs.all V.one then some (.rp xs) else none
      | none => none
    | _ => none
  | .rptr g ver i off => match m.at g with
    | .row ver' _ _ _ xs => bif Nat.beq ver ver' then (match xs[i]? with | some el => some (.rp (el.drop off)) | none => none) else none
    | _ => none
  | .aggd cs => match asBs m cs with
    | some xs => some (.agg xs)
    | none => none
  | d => asB0 m d
def asBL (m : Mem) : List D → Option (List V)
  | [] => some []
  | d :: r => match asB m d, asBL m r with
    | some x, some xs => some (x :: xs)
    | _, _ => none

def Cf.lent (C : Cf) (m : Mem) : Nat → Prop := fun b => C.S b ∨ ∃ g, m.at g ≠ .gone ∧ C.ι g = some b
theorem RdF.lend {C : Cf} {m : Mem} {n : Bool} {x : V} {v : Value} (h : RdF C n x v) (hm : HoldsM C m) : Rd (C.lent m) C.w x v :=
  Rd.mono (h.weak hm) (fun _ h => .inl h) (fun _ _ => rfl)

theorem beq_of {a b : Nat} {c : Bool} (h : Nat.beq a b = c) (hc : c = true) : a = b := Nat.eq_of_beq_eq_true (h.trans hc)

theorem asB0_ok {C : Cf} {m : Mem} {d : D} {v : Value} {x : V} (hm : HoldsM C m) (h : asB0 m d = some x) (hd : RdD C m d v) : Rd (C.lent m) C.w x v := by
  cases d with
  | dat n x' =>
    simp only [asB0, Option.some.injEq] at h
    subst h
    exact RdF.lend (n := n) hd hm
  | nil =>
    simp only [asB0, Option.some.injEq] at h
    subst h
    have hv : v = .slice none 0 0 := hd
    subst hv
    exact Rd.nil
  | own g ver lo len =>
    obtain ⟨ver', frz, nw, sz, xs, hat, _, _, ho⟩ := hd
    simp only [asB0, hat] at h
    cases hb : Nat.beq ver ver' with
    | false => simp [hb] at h
    | true =>
      simp only [hb, cond_true, Option.some.injEq] at h
      subst h
      obtain ⟨hl, ho⟩ := ho (Nat.eq_of_beq_eq_true hb)
      have hbx := hm.box g
      rw [hat] at hbx
      unfold OwnV at ho
      cases hi : C.ι g with
      | none =>
        simp only [hi] at ho
        simp only [BoxOK, hi] at hbx
        obtain ⟨rfl, rfl, rfl⟩ := ho
        subst hbx
        exact Rd.nil
      | some b =>
        simp only [hi] at ho
        simp only [BoxOK, hi] at hbx
        obtain ⟨cap, arr, T, fz, rfl, _, _, hc, hmx⟩ := ho
        obtain ⟨arr', T', fz', h1, h2, h3, h4, h5, h6, h7⟩ := hbx
        refine row_slice (nw := nw) (.inr ⟨g, by rw [hat]; simp, hi⟩) (fun b hb => ?_) ⟨arr', T', fz', h1, h2, h3, h4, h5, h6⟩ hl hc hmx
        cases nw
        · exact .inl hb
        · exact .inl (hm.ns _ hb)
  | _ => simp [asB0] at h

theorem asBs_ok {C : Cf} {m : Mem} (hm : HoldsM C m) : ∀ (ds : List D) (xs : List V), asBs m ds = some xs →
    xs.length = ds.length ∧ ∀ (j : Nat) (d : D) (x : V) (v : Value), ds[j]? = some d → xs[j]? = some x → RdS C m d v → Rd (C.lent m) C.w x v
  | [], xs, h => by
    simp only [asBs, Option.some.injEq] at h
    subst h
    simp
  | d :: r, xs, h => by
    simp only [asBs] at h
    cases h0 : asB0 m d with
    | none => simp [h0] at h
    | some x0 =>
      cases h1 : asBs m r with
      | none => simp [h0, h1] at h
      | some x1 =>
        simp only [h0, h1, Option.some.injEq] at h
        subst h
        obtain ⟨hl, ih⟩ := asBs_ok hm r x1 h1
        refine ⟨by simp [hl], fun j d' x v hd hx hr => ?_⟩
        cases j with
        | zero =>
          simp only [List.getElem?_cons_zero, Option.some.injEq] at hd hx
          subst hd; subst hx
          exact asB0_ok hm h0 hr.rd
        | succ j =>
          simp only [List.getElem?_cons_succ] at hd hx
          exact ih j d' x v hd hx hr

theorem asB_ok {C : Cf} {m : Mem} {d : D} {v : Value} {x : V} (hm : HoldsM C m) (h : asB m d = some x) (hd : RdD C m d v) : Rd (C.lent m) C.w x v := by
  cases d with
  | ptr g off =>
    obtain ⟨frz, nw, cs, b, hat, hi, rfl⟩ := hd
    simp only [asB, hat] at h
    cases hv : asBs m (cs.drop off) with
    | none => simp [hv] at h
    | some xs =>
      simp only [hv] at h
      cases hone : xs.all V.one with
      | false => simp [hone] at h
      | true =>
        simp only [hone, cond_true, Option.some.injEq] at h
        subst h
        have hb := hm.box g
        rw [hat] at hb
        obtain ⟨b', hi', arr, T, fz, h1, h2, h3, h4, h5⟩ := hb
        rw [hi] at hi'
        injection hi' with hi'
        subst hi'
        obtain ⟨hl, hall⟩ := asBs_ok hm (cs.drop off) xs hv
        have hcell : ∀ (j : Nat) (x : V), xs[j]? = some x → ∃ d, (cs.drop off)[j]? = some d ∧ arr[off + j]? = some (arr.getD (off + j) undef) ∧ cs[off + j]? = some d := by
          intro j x hx
          have hj : j < xs.length := (List.getElem?_eq_some_iff.1 hx).1
          have hj2 : j < (cs.drop off).length := by omega
          refine ⟨(cs.drop off)[j], List.getElem?_eq_getElem hj2, ?_, ?_⟩
          · have : off + j < arr.size := by simp at hj2; omega
            simp [Array.getElem?_eq_getElem this]
          · rw [← List.getElem?_drop]; exact List.getElem?_eq_getElem hj2
        refine Rd.rp xs b off (fun j => arr.getD (off + j) undef) (fun j d hd => ?_) (.inr ⟨g, by rw [hat]; simp, hi⟩) (fun j x hx => ?_) (fun j x hx => ?_)
        · rw [List.all_eq_true] at hone
          exact hone d (List.mem_of_getElem? hd)
        · obtain ⟨d, hd, ha', _⟩ := hcell j x hx
          rw [cell_of_arr h1]; exact ha'
        · obtain ⟨d, hd, ha', hd'⟩ := hcell j x hx
          exact hall j d x _ hd hx (h4 _ _ _ hd' ha')
  | rptr g ver i off =>
    obtain ⟨ver', frz, nw, sz, xs, hat, _, _, ho⟩ := hd
    simp only [asB, hat] at h
    cases hbq : Nat.beq ver ver' with
    | false => simp [hbq] at h
    | true =>
      obtain ⟨hil, b, hi, rfl⟩ := ho (Nat.eq_of_beq_eq_true hbq)
      have hel : xs[i]? = some xs[i] := List.getElem?_eq_getElem hil
      simp only [hbq, cond_true, hel, Option.some.injEq] at h
      subst h
      have hb := hm.box g
      rw [hat] at hb
      simp only [BoxOK, hi] at hb
      obtain ⟨arr, T, fz, h1, h2, h3, h4, h5, h6, h7⟩ := hb
      have hcell : ∀ (j : Nat) d, (xs[i].drop off)[j]? = some d → arr[i * sz + off + j]? = some (arr.getD (i * sz + off + j) undef) ∧ RdF C nw d (arr.getD (i * sz + off + j) undef) ∧ d.one = true := by
        intro j d hd
        rw [List.getElem?_drop] at hd
        have hj : off + j < xs[i].length := (List.getElem?_eq_some_iff.1 hd).1
        have := h4 i _ hel
        have hlt : i * sz + (off + j) < arr.size := Nat.lt_of_lt_of_le (idx_lt hil (by omega)) h3
        have hg : arr[i * sz + off + j]? = some (arr.getD (i * sz + off + j) undef) := by
          rw [Nat.add_assoc]
          simp [Array.getElem?_eq_getElem hlt]
        exact ⟨hg, h6 i (off + j) _ d _ hel hd (by rw [← Nat.add_assoc]; exact hg), h5 _ _ _ _ hel hd⟩
      refine Rd.rp _ b _ (fun j => arr.getD (i * sz + off + j) undef) (fun j d hd => (hcell j d hd).2.2) (.inr ⟨g, by rw [hat]; simp, hi⟩) (fun j d hd => ?_) (fun j d hd => (hcell j d hd).2.1.lend hm)
      rw [cell_of_arr h1]; exact (hcell j d hd).1
  | aggd cs =>
    obtain ⟨vs, rfl, hl, hv⟩ := hd
    simp only [asB] at h
    cases hc : asBs m cs with
    | none => simp [hc] at h
    | some xs =>
      simp only [hc, Option.some.injEq] at h
      subst h
      obtain ⟨hl', hall⟩ := asBs_ok hm cs xs hc
      refine Rd.agg xs vs (by omega) (fun j d c hd hcv => ?_)
      have hj : j < cs.length := by have := (List.getElem?_eq_some_iff.1 hd).1; omega
      have hcs : cs[j]? = some cs[j] := List.getElem?_eq_getElem hj
      exact hall j cs[j] d c hcs hd (hv j cs[j] c hcs hcv)
  | dat n x' => exact asB0_ok hm (show asB0 m (.dat n x') = some x from h) hd
  | nil => exact asB0_ok hm (show asB0 m .nil = some x from h) hd
  | own g ver lo len => exact asB0_ok hm (show asB0 m (.own g ver lo len) = some x from h) hd
  | _ => simp [asB, asB0] at h

theorem asBL_ok {C : Cf} {m : Mem} (hm : HoldsM C m) : ∀ (ds : List D) (xs : List V), asBL m ds = some xs →
    xs.length = ds.length ∧ ∀ (j : Nat) (d : D) (x : V) (v : Value), ds[j]? = some d → xs[j]? = some x → RdD C m d v → Rd (C.lent m) C.w x v
  | [], xs, h => by
    simp only [asBL, Option.some.injEq] at h
    subst h
    simp
  | d :: r, xs, h => by
    simp only [asBL] at h
    cases h0 : asB m d with
    | none => simp [h0] at h
    | some x0 =>
      cases h1 : asBL m r with
      | none => simp [h0, h1] at h
      | some x1 =>
        simp only [h0, h1, Option.some.injEq] at h
        subst h
        obtain ⟨hl, ih⟩ := asBL_ok hm r x1 h1
        refine ⟨by simp [hl], fun j d' x v hd hx hr => ?_⟩
        cases j with
        | zero =>
          simp only [List.getElem?_cons_zero, Option.some.injEq] at hd hx
          subst hd; subst hx
          exact asB_ok hm h0 hr
        | succ j =>
          simp only [List.getElem?_cons_succ] at hd hx
          exact ih j d' x v hd hx hr

/-- The boxes that slots name, all through. -/
def refsD (m : Mem) : D → List Nat
  | .grd _ _ => []
  | d => refs m d
theorem asB0_mem {m m' : Mem} {d : D} (h : ∀ g, g ∈ refs0 d → m'.at g = m.at g) : asB0 m' d = asB0 m d := by
  cases d with
  | own g ver lo len => simp only [asB0, h g (by simp [refs0])]
  | _ => rfl
theorem asBs_mem {m m' : Mem} : ∀ {ds : List D}, (∀ g, g ∈ ds.flatMap refs0 → m'.at g = m.at g) → asBs m' ds = asBs m ds
  | [], _ => rfl
  | d :: r, h => by
    simp only [asBs]
    rw [asB0_mem (fun g hg => h g (by simp [hg])), asBs_mem (fun g hg => h g (by simp [hg]))]
theorem asB_mem {m m' : Mem} {d : D} (h : ∀ g, g ∈ refs m d → m'.at g = m.at g) : asB m' d = asB m d := by
  cases d with
  | ptr g off =>
    have h1 := h g (by simp [refs])
    simp only [asB, h1]
    cases hm : m.at g with
    | cells frz nw cs =>
      simp only
      rw [asBs_mem (fun g' hg' => h g' (by simp only [refs, hm]; exact List.mem_cons_of_mem _ hg'))]
    | _ => rfl
  | rptr g ver i off => simp only [asB, h g (by simp [refs, refs0])]
  | aggd cs =>
    simp only [asB]
    rw [asBs_mem (fun g' hg' => h g' (by simpa [refs] using hg'))]
  | own g ver lo len => exact asB0_mem (fun g hg => h g (by simpa [refs] using hg))
  | _ => rfl
theorem asBL_mem {m m' : Mem} : ∀ {ds : List D}, (∀ g, g ∈ ds.flatMap (refs m) → m'.at g = m.at g) → asBL m' ds = asBL m ds
  | [], _ => rfl
  | d :: r, h => by
    simp only [asBL]
    rw [asB_mem (fun g hg => h g (by simp [hg])), asBL_mem (fun g hg => h g (by simp [hg]))]

section
variable {P : Program} {e : Operand → D} {m : Mem} {dst : Option Tmp} {ty : TypeId} {pos : String} {af : Array Edge} {gd : Option (Nat × Bool)} {x y z : Operand} {t : TypeId} {yt : TypeId}

theorem run_callFunc {f : FuncId} (h : Callable P f) (args : Array Value) (w : World) : (callFunc f args).run P w = .ok (.enter f args) w := by
  obtain ⟨fn, h1, h2, h3⟩ := h
  have h3' : ¬ fn.name = "runtime.NumGoroutine" := by simpa using h3
  have h2' : ¬ fn.body = none := by intro h; simp [h] at h2
  simp [callFunc, program, Sem.run, h1, h2', h3']

/-- A call by contract, at operands and captured values. -/
theorem call_step {f : FuncId} {capV : List V} {o : Oper} {ds : List V} {r : V} {es : List D} {cap : Array Value} (hc : FnF P f ds r) (C : Cf) (m' : Mem) (a : Act) (next : Act → World → Prop) (Q : Exit → Act → World → Prop) (hm : HoldsM C m')
    (vs : Array Value) (hl : vs.size = es.length) (hv : ∀ (j : Nat) d v, es[j]? = some d → vs[j]? = some v → RdD C m' d v) (cs : List V) (ha : asBL m' es = some cs) (hds : ds = cs ++ capV)
    (hcap : RdL (C.lent m') C.w capV cap) (hrun : (execOp a.eval o).run P C.w = .ok (.enter f (vs ++ cap)) C.w)
    (hn : ∀ v C', Step C m' C' m' → RdD C' m' (.dat true r) v → next (a.put o.dst v) C'.w) : o.wp P a C.w next Q := by
  obtain ⟨_, hc⟩ := hc
  unfold Oper.wp
  rw [hrun]
  show Calls P f (vs ++ cap) C.w _
  obtain ⟨hlen, hall⟩ := asBL_ok hm es cs ha
  have hsd : ∀ b, C.lent m' b → b < C.w.heap.size := by
    rintro b (hb | ⟨g, h1, h2⟩)
    · exact hm.sdom b hb
    · exact BoxOK.lt hm h1 h2
  have hr : RdL (C.lent m') C.w ds (vs ++ cap) := by
    subst hds
    refine ⟨by simp [hlen, hl, hcap.1], fun j d c hd hcv => ?_⟩
    by_cases hj : j < cs.length
    · rw [List.getElem?_append_left hj] at hd
      rw [Array.getElem?_append_left (by omega)] at hcv
      have hes : es[j]? = some (es[j]'(by omega)) := List.getElem?_eq_getElem (by omega)
      exact hall j _ d c hes hd (hv j _ c hes hcv)
    · rw [List.getElem?_append_right (by omega)] at hd
      rw [Array.getElem?_append_right (by omega)] at hcv
      exact hcap.2 (j - cs.length) d c hd (by rw [show j - cs.length = j - vs.size by omega]; exact hcv)
  refine (hc (C.lent m') C.w (vs ++ cap) hsd hr).mono ?_
  rintro e w' ⟨v, rfl, hb, hrd⟩
  have hg : Grew C.w w' := ⟨hb.os, hb.tape, hb.output, hb.size, hb.block⟩
  have hst := step_dat (newB C.w w') hm hg (fun k hk => hk)
  exact hn v _ hst (Rd.mono hrd (fun _ h => .inr h) (fun _ _ => rfl))

theorem S_call {f : FuncId} {args : Array Operand} {ats : Array TypeId} {ds : List V} {r : V} (hc : FnF P f ds r) (ha : asBL m (args.toList.map e) = some ds) :
    SStep P ⟨dst, .call { callee := .value (.func f), args := args, argTypes := ats }, ty, pos, af, gd⟩ e m ((args.toList.map e).flatMap (refs m)) (.dat true r) [] := by
  intro C m' a next Q hag hm hx hn
  have ha' : asBL m' (args.toList.map e) = some ds := (asBL_mem (fun g hg => hag g (.inl hg))).trans ha
  refine call_step (capV := []) (cap := #[]) hc C m' a next Q hm (args.map a.eval) (by simp) (fun j d v hd hv => ?_) ds ha' (by simp) ⟨rfl, by simp⟩ ?_ hn
  · simp only [List.getElem?_map, Option.map_eq_some_iff] at hd
    obtain ⟨y, hy, rfl⟩ := hd
    simp only [Array.getElem?_map, Option.map_eq_some_iff] at hv
    obtain ⟨y', hy', rfl⟩ := hv
    have : y = y' := by
      rw [Array.getElem?_toList] at hy
      rw [hy] at hy'
      injection hy'
    subst this
    exact hx y (by simp only [Op.operands, Call.operands]; exact Array.mem_append.2 (.inr (Array.mem_of_getElem? hy')))
  · have hev : a.eval (.func f) = .func (.func f) #[] #[] := rfl
    simp only [execOp, resolve, hev, Deferred.ofValue, Sem.run_bind, Sem.run_pure, Result.andThen_ok, invoke, run_callFunc hc.1]
    simp
theorem S_callv {f : FuncId} {n : Bool} {cap : List V} {args : Array Operand} {ats : Array TypeId} {ds : List V} {r : V} (hf : e x = .dat n (.fn f cap)) (ha : asBL m (args.toList.map e) = some ds) (hc : FnF P f (ds ++ cap) r) :
    SStep P ⟨dst, .call { callee := .value x, args := args, argTypes := ats }, ty, pos, af, gd⟩ e m ((args.toList.map e).flatMap (refs m)) (.dat true r) [] := by
  intro C m' a next Q hag hm hx hn
  have ha' : asBL m' (args.toList.map e) = some ds := (asBL_mem (fun g hg => hag g (.inl hg))).trans ha
  have hxf := hx x (by simp [Op.operands, Call.operands])
  rw [hf] at hxf
  generalize hv : a.eval x = v at hxf
  cases hxf with
  | fn _ _ us hl hr =>
    refine call_step (capV := cap) (cap := us) hc C m' a next Q hm (args.map a.eval) (by simp) (fun j d v hd hv => ?_) ds ha' rfl ⟨hl, fun j d c h1 h2 => ?_⟩ ?_ hn
    · simp only [List.getElem?_map, Option.map_eq_some_iff] at hd
      obtain ⟨y, hy, rfl⟩ := hd
      simp only [Array.getElem?_map, Option.map_eq_some_iff] at hv
      obtain ⟨y', hy', rfl⟩ := hv
      have : y = y' := by
        rw [Array.getElem?_toList] at hy
        rw [hy] at hy'
        injection hy'
      subst this
      exact hx y (by simp only [Op.operands, Call.operands]; exact Array.mem_append.2 (.inr (Array.mem_of_getElem? hy')))
    · exact RdF.lend (n := n) (hr j d c h1 h2) hm
    · simp only [execOp, resolve, hv, Deferred.ofValue, Sem.run_bind, Sem.run_pure, Result.andThen_ok, invoke, run_callFunc hc.1]
      simp
end

/-- One result in a slot. -/
theorem ret1 {P : Program} {s : St} {t : Tmp} {n : Bool} {x r : V} (h : asV s.mem (s.env.at t) = some (n, x)) (hn : n = true ∨ Flat x) (he : x = r) : retQ P [.tmp t] r .ret s :=
  ⟨_, .tmp h hn .nil, he⟩
theorem ret2 {P : Program} {s : St} {t u : Tmp} {n n' : Bool} {x y r : V} (h : asV s.mem (s.env.at t) = some (n, x)) (hn : n = true ∨ Flat x) (h' : asV s.mem (s.env.at u) = some (n', y)) (hn' : n' = true ∨ Flat y) (he : .tuple [x, y] = r) : retQ P [.tmp t, .tmp u] r .ret s :=
  ⟨_, .tmp h hn (.tmp h' hn' .nil), he⟩
theorem retN {P : Program} {s : St} {res : List ResultVar} {xs : List V} {r : V} (h : RetOK P s res xs) (he : pack xs = r) : retQ P res r .ret s := ⟨_, h, he⟩
theorem endN {P : Program} {s : St} {res : List ResultVar} {xs : List V} {r : V} (h : RetOK P s res xs) (he : pack xs = r) : retQ P res r .normal s := ⟨_, h, he⟩
end Go.Proofs.Ytpdoplmnedpdaaa

/- The D-machine, part 9: a region that draws its order comes to what the text's order comes to, where no two operations that no edge orders touch the same slot or box. -/
namespace Go.Proofs.Ytpdoplmnedpdaaa
open Go.RowKit

theorem RdS_congr {C : Cf} {m m' : Mem} (h : ∀ g, m.at g = m'.at g) (d : D) (v : Value) (hd : RdS C m d v) : RdS C m' d v := by
  cases d <;> simp only [RdS, ← h] at * <;> exact hd
theorem RdD_congr {C : Cf} {m m' : Mem} (h : ∀ g, m.at g = m'.at g) : ∀ (d : D) (v : Value), RdD C m d v → RdD C m' d v := RdD.of_S (RdS_congr h)
theorem HoldsM_congr {C : Cf} {m m' : Mem} (h : ∀ g, m.at g = m'.at g) (hm : HoldsM C m) : HoldsM C m' := by
  refine ⟨fun g => ?_, fun g g' b h1 h2 => hm.inj g g' b (by rwa [h]) (by rwa [h]), fun g b h1 => hm.sep g b (by rwa [h]), hm.sdom, hm.ns⟩
  rw [← h]
  exact BoxOK.upd (hm.box g) (fun _ _ => rfl) (fun _ _ _ h => h) (RdS_congr h) (fun _ h => h) (fun _ h => h)
/-- Two states that say the same. -/
structure SameSt (s s' : St) : Prop where
  env : ∀ t, s.env.at t = s'.env.at t
  mem : ∀ g, s.mem.at g = s'.mem.at g
  n : s.n = s'.n
theorem Holds_congr {C : Cf} {s s' : St} {a : Act} (h : SameSt s s') (hh : Holds C s a) : Holds C s' a :=
  ⟨HoldsM_congr h.mem hh.mem, hh.defers, hh.size.trans h.n, fun t => by rw [← h.env]; exact RdD_congr h.mem _ _ (hh.env t)⟩
theorem Ext_congr0 {C C' : Cf} {m m1 m' m1' : Mem} (h : ∀ g, m.at g = m1.at g) (h' : ∀ g, m'.at g = m1'.at g) (x : Ext C m C' m') : Ext C m1 C' m1' := by
  refine ⟨x.os, x.tape, x.output, x.size, fun b hb hn => x.keep b hb (fun g hg hi => hn g (by rw [← h]; exact hg) hi), fun g b h1 h2 => ?_, x.sS, x.sN, x.supS, fun b hb => ?_⟩
  · rcases x.own g b (by rw [h']; exact h1) h2 with q | ⟨g0, q1, q2⟩
    · exact .inl q
    · exact .inr ⟨g0, by rw [← h]; exact q1, q2⟩
  · rcases x.supN b hb with q | q | ⟨g0, q1, q2⟩
    · exact .inl q
    · exact .inr (.inl q)
    · exact .inr (.inr ⟨g0, by rw [← h]; exact q1, q2⟩)
theorem Step_congr {C C' : Cf} {m m1 m' m1' : Mem} (h : ∀ g, m.at g = m1.at g) (h' : ∀ g, m'.at g = m1'.at g) (x : Step C m C' m') : Step C m1 C' m1' :=
  ⟨Ext_congr0 h h' x.ext, HoldsM_congr h' x.holds, fun d v hd => RdD_congr h' d v (x.slot d v (RdD_congr (fun g => (h g).symm) d v hd))⟩
theorem Ext_congr {C C' : Cf} {m m1 m' m1' : Mem} (h : ∀ g, m.at g = m1.at g) (h' : ∀ g, m'.at g = m1'.at g) (x : Ext C m C' m') : Ext C m1 C' m1' :=
  ⟨x.os, x.tape, x.output, x.size, fun b hb hn => x.keep b hb (fun g hg => hn g (by rwa [← h])),
    fun g b hg hi => (x.own g b (by rwa [h']) hi).imp id (fun ⟨g0, q1, q2⟩ => ⟨g0, by rwa [← h], q2⟩), x.sS, x.sN, x.supS,
    fun b hb => (x.supN b hb).imp id (Or.imp id (fun ⟨g0, q1, q2⟩ => ⟨g0, by rwa [← h], q2⟩))⟩

theorem SStep.at {P : Program} {o : Oper} {e e' : Operand → D} {m m' : Mem} {rd : List Nat} {val : D} {wr : Mem} (h : SStep P o e m rd val wr)
    (he : ∀ x, x ∈ o.op.operands → e' x = e x) (hm : ∀ g, g ∈ rd ∨ g ∈ wr.map (·.1) → m'.at g = m.at g) : SStep P o e' m' rd val wr :=
  fun C m2 a next Q ha hh hx hn => h C m2 a next Q (fun g hg => (ha g hg).trans (hm g hg)) hh (fun x hxm => by rw [← he x hxm]; exact hx x hxm) hn

def tmpsOf (o : Oper) : List Tmp := o.op.operands.toList.filterMap fun | .tmp t => some t | _ => none
theorem ev_same {s s' : St} (x : Operand) (h : ∀ t, x = .tmp t → s'.env.at t = s.env.at t) : ev s' x = ev s x := by
  cases x with
  | tmp t => exact h t rfl
  | _ => rfl
theorem GStep.at {P : Program} {ops : Array Oper} {o : Oper} {s s' : St} {rd : List Nat} {val : D} {wr : Mem} (h : GStep P ops o s rd val wr) (ht : ∀ t, t ∈ o.looksAt ops → s'.env.at t = s.env.at t)
    (hm : ∀ g, g ∈ rd ∨ g ∈ wr.map (·.1) → s'.mem.at g = s.mem.at g) : GStep P ops o s' rd val wr := by
  have hx : ∀ x, x ∈ o.op.operands → ev s' x = ev s x := fun x hx => ev_same x (fun t e => ht t (by
    subst e
    simp only [Oper.looksAt, List.mem_append, List.mem_filterMap]
    exact .inl ⟨.tmp t, by simpa using hx, rfl⟩))
  have hgd : ∀ j b, o.guard = some (j, b) → guardD s' ops j = guardD s ops j := fun j b hg => by
    unfold guardD
    cases hb : (ops[j]?).bind (·.dst) with
    | none => rfl
    | some t => exact ht t (by simp [Oper.looksAt, hg, hb])
  cases h with
  | plain hg hs => exact .plain hg (hs.at hx hm)
  | @on _ _ _ j b hg hj hs => exact .on hg ((congrArg (guardB b) (hgd _ _ hg)).trans hj) (hs.at hx hm)
  | @off j b hg hj => exact .off hg ((congrArg (guardB b) (hgd _ _ hg)).trans hj)
  | @may _ val j b q e' hg hj hn hs =>
    exact .may e' hg ((congrArg (guardB b) (hgd _ _ hg)).trans hj) (fun hc x hxm C m v hv => hn hc x hxm C m v (by rw [← hx x hxm]; exact hv)) (fun hc => (hs hc).at (fun x hxm => rfl) hm)

/-- What a run did, place by place. -/
structure Done where
  rd : List Nat
  val : D
  wr : Mem
/-- The state behind those of the first k operations that p lists. -/
def upTo (l : List Oper) (f : Nat → Done) (s : St) (p : Nat → Bool) : Nat → St
  | 0 => s
  | k + 1 => if p k = true then (upTo l f s p k).put ((l[k]?).bind (·.dst)) (f k).val (f k).wr else upTo l f s p k

theorem put_env {s : St} {dst : Option Tmp} {d : D} {wr : Mem} (t : Nat) : (s.put dst d wr).env.at t = if dst = some t then d else s.env.at t := by
  cases dst with
  | none => simp [St.put]
  | some u =>
    show Env.at ((u, d) :: s.env) t = _
    unfold Env.at
    rw [look_cons]
    by_cases h : u = t <;> simp [h]
theorem look_append {wr m : Mem} (g : Nat) : Mem.at (wr ++ m) g = if g ∈ wr.map (·.1) then Mem.at wr g else m.at g := by
  induction wr with
  | nil => simp
  | cons p r ih =>
    obtain ⟨k, b⟩ := p
    unfold Mem.at at *
    rw [List.cons_append, look_cons, look_cons, ih]
    by_cases h : k = g
    · simp [h]
    · have h' : g ≠ k := fun e => h e.symm
      simp only [h, if_false, List.map_cons, List.mem_cons, h', false_or]
theorem put_mem {s : St} {dst : Option Tmp} {d : D} {wr : Mem} (g : Nat) : (s.put dst d wr).mem.at g = if g ∈ wr.map (·.1) then Mem.at wr g else s.mem.at g := look_append g

section
variable {l : List Oper} {f : Nat → Done} {s : St}
theorem upTo_n (p : Nat → Bool) : ∀ k, (upTo l f s p k).n = s.n
  | 0 => rfl
  | k + 1 => by
    simp only [upTo]
    split
    · exact upTo_n p k
    · exact upTo_n p k
theorem upTo_env {p q : Nat → Bool} {t : Nat} : ∀ k, (∀ j, j < k → (l[j]?).bind (·.dst) = some t → p j = q j) → (upTo l f s p k).env.at t = (upTo l f s q k).env.at t
  | 0, _ => rfl
  | k + 1, h => by
    have ih := upTo_env k (fun j hj => h j (by omega))
    simp only [upTo]
    by_cases hd : (l[k]?).bind (·.dst) = some t
    · have := h k (by omega) hd
      rw [this]
      split
      · rw [put_env, put_env, if_pos hd, if_pos hd]
      · exact ih
    · have hp : ∀ (c : Bool) (u : St), (if c = true then u.put ((l[k]?).bind (·.dst)) (f k).val (f k).wr else u).env.at t = u.env.at t := by
        intro c u
        split
        · rw [put_env, if_neg hd]
        · rfl
      rw [hp, hp, ih]
theorem upTo_mem {p q : Nat → Bool} {g : Nat} : ∀ k, (∀ j, j < k → g ∈ (f j).wr.map (·.1) → p j = q j) → (upTo l f s p k).mem.at g = (upTo l f s q k).mem.at g
  | 0, _ => rfl
  | k + 1, h => by
    have ih := upTo_mem k (fun j hj => h j (by omega))
    simp only [upTo]
    by_cases hd : g ∈ (f k).wr.map (·.1)
    · have := h k (by omega) hd
      rw [this]
      split
      · rw [put_mem, put_mem, if_pos hd, if_pos hd]
      · exact ih
    · have hp : ∀ (c : Bool) (u : St), (if c = true then u.put ((l[k]?).bind (·.dst)) (f k).val (f k).wr else u).mem.at g = u.mem.at g := by
        intro c u
        split
        · rw [put_mem, if_neg hd]
        · rfl
      rw [hp, hp, ih]
theorem upTo_less {i : Nat} : ∀ k, i ≤ k → upTo l f s (fun j => decide (j < i)) k = upTo l f s (fun _ => true) i
  | 0, h => by
    have : i = 0 := by omega
    subst this
    rfl
  | k + 1, h => by
    by_cases hk : i ≤ k
    · simp only [upTo]
      rw [if_neg (by simp; omega)]
      exact upTo_less k hk
    · have : i = k + 1 := by omega
      subst this
      have aux : ∀ m, m ≤ k + 1 → upTo l f s (fun j => decide (j < k + 1)) m = upTo l f s (fun _ => true) m := by
        intro m
        induction m with
        | zero => intro _; rfl
        | succ m ih =>
          intro hm
          simp only [upTo]
          rw [if_pos (by simp; omega), ih (by omega)]
          simp
      exact aux (k + 1) (Nat.le_refl _)
/-- One more. -/
theorem upTo_add {p : Nat → Bool} {i n : Nat} (hi : i < n) (henv : ∀ t, (l[i]?).bind (·.dst) = some t → ∀ j, i < j → j < n → (l[j]?).bind (·.dst) = some t → p j = false)
    (hmem : ∀ g, g ∈ (f i).wr.map (·.1) → ∀ j, i < j → j < n → g ∈ (f j).wr.map (·.1) → p j = false) :
    SameSt ((upTo l f s p n).put ((l[i]?).bind (·.dst)) (f i).val (f i).wr) (upTo l f s (fun j => decide (j = i) || p j) n) := by
  refine ⟨fun t => ?_, fun g => ?_, by show (upTo l f s p n).n = _; rw [upTo_n, upTo_n]⟩
  · rw [put_env]
    by_cases hd : (l[i]?).bind (·.dst) = some t
    · rw [if_pos hd]
      have aux : ∀ k, i < k → k ≤ n → (upTo l f s (fun j => decide (j = i) || p j) k).env.at t = (f i).val := by
        intro k
        induction k with
        | zero => intro h; omega
        | succ k ih =>
          intro h1 h2
          simp only [upTo]
          by_cases hk : k = i
          · subst hk
            rw [if_pos (by simp), put_env, if_pos hd]
          · have hik : i < k := by omega
            split
            · rename_i hpk
              rw [put_env]
              by_cases hdk : (l[k]?).bind (·.dst) = some t
              · have := henv t hd k hik (by omega) hdk
                simp [hk, this] at hpk
              · rw [if_neg hdk]; exact ih hik (by omega)
            · exact ih hik (by omega)
      exact (aux n hi (Nat.le_refl _)).symm
    · rw [if_neg hd]
      exact upTo_env n (fun j _ hj => by
        have : j ≠ i := by rintro rfl; exact hd hj
        simp [this])
  · rw [put_mem]
    by_cases hd : g ∈ (f i).wr.map (·.1)
    · rw [if_pos hd]
      have aux : ∀ k, i < k → k ≤ n → (upTo l f s (fun j => decide (j = i) || p j) k).mem.at g = Mem.at (f i).wr g := by
        intro k
        induction k with
        | zero => intro h; omega
        | succ k ih =>
          intro h1 h2
          simp only [upTo]
          by_cases hk : k = i
          · subst hk
            rw [if_pos (by simp), put_mem, if_pos hd]
          · have hik : i < k := by omega
            split
            · rename_i hpk
              rw [put_mem]
              by_cases hdk : g ∈ (f k).wr.map (·.1)
              · have := hmem g hd k hik (by omega) hdk
                simp [hk, this] at hpk
              · rw [if_neg hdk]; exact ih hik (by omega)
            · exact ih hik (by omega)
      exact (aux n hi (Nat.le_refl _)).symm
    · rw [if_neg hd]
      exact upTo_mem n (fun j _ hj => by
        have : j ≠ i := by rintro rfl; exact hd hj
        simp [this])
end

/-- A run, place by place. -/
theorem run_places {P : Program} {ops : Array Oper} : ∀ (l : List Oper) (s : St) (tr : List (List Nat × List Nat)) (s' : St), DRun P ops l s tr s' →
    ∃ f : Nat → Done, tr.length = l.length ∧ s' = upTo l f s (fun _ => true) l.length ∧ ∀ (i : Nat) o, l[i]? = some o →
      tr[i]? = some ((f i).rd, (f i).wr.map (·.1)) ∧ dOK s o.dst = true ∧ GStep P ops o (upTo l f s (fun _ => true) i) (f i).rd (f i).val (f i).wr
  | [], s, tr, s', ⟨h1, h2⟩ => ⟨fun _ => ⟨[], .any, []⟩, by simp [h1], h2, by simp⟩
  | o :: r, s, tr, s', ⟨rd, val, wr, tr', h1, h2, h3, h4⟩ => by
    obtain ⟨f, g1, g2, g3⟩ := run_places r _ tr' s' h4
    let F : Nat → Done := fun i => match i with | 0 => ⟨rd, val, wr⟩ | i + 1 => f i
    have hup : ∀ k, upTo (o :: r) F s (fun _ => true) (k + 1) = upTo r f (s.put o.dst val wr) (fun _ => true) k := by
      intro k
      induction k with
      | zero => simp [upTo, F]
      | succ k ih =>
        have e1 : upTo (o :: r) F s (fun _ => true) (k + 1 + 1) = (upTo (o :: r) F s (fun _ => true) (k + 1)).put (((o :: r)[k + 1]?).bind (·.dst)) (F (k + 1)).val (F (k + 1)).wr := by
          simp only [upTo, if_true]
        rw [e1, ih]
        simp only [upTo, if_true, List.getElem?_cons_succ, F]
    refine ⟨F, by simp [h1, g1], ?_, fun i o' hi => ?_⟩
    · rw [g2, List.length_cons, hup]
    · subst h1
      cases i with
      | zero =>
        simp only [List.getElem?_cons_zero, Option.some.injEq] at hi
        subst hi
        exact ⟨rfl, h2, h3⟩
      | succ i =>
        simp only [List.getElem?_cons_succ] at hi ⊢
        obtain ⟨q1, q2, q3⟩ := g3 i o' hi
        refine ⟨q1, q2, ?_⟩
        rw [hup]
        exact q3

/-- What must be so of a region that draws: any two operations that touch the same slot or box are ordered by edges that bind always. -/
def touch (ops : Array Oper) (o : Oper) (x : List Nat × List Nat) (o' : Oper) (x' : List Nat × List Nat) : Bool :=
  (match o'.dst with | some d => (o.looksAt ops).contains d || o.dst == some d | none => false) ||
  (match o.dst with | some d => (o'.looksAt ops).contains d | none => false) ||
  x'.2.any (fun g => x.1.contains g || x.2.contains g) || x.2.any (fun g => x'.1.contains g)
def bef1 (acc : List Nat) (o : Oper) : Nat := o.after.toList.foldl (fun s e => if Region.binds .any e then s ||| 2 ^ e.on ||| acc.getD e.on 0 else s) 0
def bef : List Oper → List Nat → List Nat
  | [], acc => acc
  | o :: r, acc => bef r (acc ++ [bef1 acc o])
def chkOne (ops : Array Oper) (o : Oper) (x : List Nat × List Nat) (b : Nat) : List Oper → List (List Nat × List Nat) → Nat → Bool
  | o' :: r, x' :: y, j => (!touch ops o x o' x' || b.testBit j) && chkOne ops o x b r y (j + 1)
  | _, _, _ => true
def chkAll (ops : Array Oper) (l : List Oper) (tr : List (List Nat × List Nat)) : List Oper → List (List Nat × List Nat) → List Nat → Nat → Bool
  | o :: r, x :: y, b :: c, i => chkOne ops o x b (l.take i) (tr.take i) 0 && chkAll ops l tr r y c (i + 1)
  | _, _, _, _ => true
def topo (ops : Array Oper) (md : Region.Mode) : List Nat → List Nat → Bool
  | _, [] => true
  | seen, i :: r => (match ops[i]? with | some o => o.after.toList.all (fun e => !Region.binds md e || seen.contains e.on) | none => true) && topo ops md (i :: seen) r
def chk (l : List Oper) (acc : List (List Nat × List Nat)) : Bool :=
  chkAll l.toArray l acc.reverse l acc.reverse (bef l []) 0 && topo l.toArray .any [] (List.range l.length) && topo l.toArray .text [] (List.range l.length) &&
    (let q := Region.linearise .gc l.toArray 0; topo l.toArray .gc [] q && (List.range l.length).all (q.contains ·) && q.all (Nat.blt · l.length))

theorem chkOne_ok {ops : Array Oper} {o : Oper} {x : List Nat × List Nat} {b : Nat} : ∀ {r : List Oper} {y : List (List Nat × List Nat)} {j : Nat}, chkOne ops o x b r y j = true →
    ∀ (k : Nat) o' x', r[k]? = some o' → y[k]? = some x' → touch ops o x o' x' = true → b.testBit (j + k) = true
  | [], y, j, _, k, o', x', h1, _, _ => by simp at h1
  | o1 :: r, [], j, _, k, o', x', _, h2, _ => by simp at h2
  | o1 :: r, x1 :: y, j, h, k, o', x', h1, h2, ht => by
    simp only [chkOne, Bool.and_eq_true, Bool.or_eq_true, Bool.not_eq_true'] at h
    cases k with
    | zero =>
      simp only [List.getElem?_cons_zero, Option.some.injEq] at h1 h2
      subst h1; subst h2
      rcases h.1 with h | h
      · rw [h] at ht; cases ht
      · exact h
    | succ k =>
      have := chkOne_ok h.2 k o' x' (by simpa using h1) (by simpa using h2) ht
      rw [show j + (k + 1) = j + 1 + k by omega]
      exact this
theorem chkAll_ok {ops : Array Oper} {l : List Oper} {tr : List (List Nat × List Nat)} : ∀ {r : List Oper} {y : List (List Nat × List Nat)} {c : List Nat} {i : Nat}, chkAll ops l tr r y c i = true →
    ∀ (k : Nat) o x b, r[k]? = some o → y[k]? = some x → c[k]? = some b → chkOne ops o x b (l.take (i + k)) (tr.take (i + k)) 0 = true
  | [], _, _, _, _, k, o, x, b, h1, _, _ => by simp at h1
  | _ :: _, [], _, _, _, k, o, x, b, _, h2, _ => by simp at h2
  | _ :: _, _ :: _, [], _, _, k, o, x, b, _, _, h3 => by simp at h3
  | o1 :: r, x1 :: y, b1 :: c, i, h, k, o, x, b, h1, h2, h3 => by
    simp only [chkAll, Bool.and_eq_true] at h
    cases k with
    | zero =>
      simp only [List.getElem?_cons_zero, Option.some.injEq] at h1 h2 h3
      subst h1; subst h2; subst h3
      exact h.1
    | succ k =>
      have := chkAll_ok h.2 k o x b (by simpa using h1) (by simpa using h2) (by simpa using h3)
      rw [show i + (k + 1) = i + 1 + k by omega]
      exact this

theorem bef1_ok {acc : List Nat} {o : Oper} {j : Nat} (h : (bef1 acc o).testBit j = true) : ∃ e, e ∈ o.after.toList ∧ Region.binds .any e = true ∧ (j = e.on ∨ (acc.getD e.on 0).testBit j = true) := by
  unfold bef1 at h
  have aux : ∀ (es : List Edge) (s0 : Nat), (es.foldl (fun s e => if Region.binds .any e then s ||| 2 ^ e.on ||| acc.getD e.on 0 else s) s0).testBit j = true →
      s0.testBit j = true ∨ ∃ e, e ∈ es ∧ Region.binds .any e = true ∧ (j = e.on ∨ (acc.getD e.on 0).testBit j = true) := by
    intro es
    induction es with
    | nil => intro s0 h; exact .inl h
    | cons e es ih =>
      intro s0 h
      simp only [List.foldl_cons] at h
      rcases ih _ h with h1 | ⟨e', h1, h2⟩
      · split at h1
        · rename_i hb
          simp only [Nat.testBit_or, Bool.or_eq_true] at h1
          rcases h1 with (h1 | h1) | h1
          · exact .inl h1
          · rw [Nat.testBit_two_pow] at h1
            exact .inr ⟨e, List.mem_cons_self .., hb, .inl (by simpa [eq_comm] using h1)⟩
          · exact .inr ⟨e, List.mem_cons_self .., hb, .inr h1⟩
        · exact .inl h1
      · exact .inr ⟨e', List.mem_cons_of_mem _ h1, h2⟩
  rcases aux _ _ h with h | h
  · simp at h
  · exact h
theorem bef_ok : ∀ (l : List Oper) (acc : List Nat) (pre : List Oper), acc.length = pre.length →
    (∀ (i : Nat) b j, acc[i]? = some b → b.testBit j = true → ∃ o e, pre[i]? = some o ∧ e ∈ o.after.toList ∧ Region.binds .any e = true ∧ (j = e.on ∨ (acc.getD e.on 0).testBit j = true)) →
    (bef l acc).length = (pre ++ l).length ∧ ∀ (i : Nat) b j, (bef l acc)[i]? = some b → b.testBit j = true →
      ∃ o e, (pre ++ l)[i]? = some o ∧ e ∈ o.after.toList ∧ Region.binds .any e = true ∧ (j = e.on ∨ ((bef l acc).getD e.on 0).testBit j = true)
  | [], acc, pre, hl, h => ⟨by simp [bef, hl], by simpa [bef] using h⟩
  | o :: r, acc, pre, hl, h => by
    have grow : ∀ (k j : Nat), (acc.getD k 0).testBit j = true → ((acc ++ [bef1 acc o]).getD k 0).testBit j = true := by
      intro k j hk
      rw [List.getD_eq_getElem?_getD] at hk ⊢
      cases hx : acc[k]? with
      | none => rw [hx] at hk; simp at hk
      | some b =>
        rw [hx] at hk
        rw [List.getElem?_append_left (List.getElem?_eq_some_iff.1 hx).1, hx]
        exact hk
    have := bef_ok r (acc ++ [bef1 acc o]) (pre ++ [o]) (by simp [hl]) (fun i b j hb hj => by
      by_cases hi : i < acc.length
      · rw [List.getElem?_append_left hi] at hb
        obtain ⟨o', e, q1, q2, q3, q4⟩ := h i b j hb hj
        refine ⟨o', e, by rw [List.getElem?_append_left (by omega)]; exact q1, q2, q3, q4.imp id (grow _ _)⟩
      · have hi' : i = acc.length := by
          have := (List.getElem?_eq_some_iff.1 hb).1
          simp at this; omega
        subst hi'
        rw [List.getElem?_append_right (Nat.le_refl _), Nat.sub_self] at hb
        simp only [List.getElem?_cons_zero, Option.some.injEq] at hb
        subst hb
        obtain ⟨e, q2, q3, q4⟩ := bef1_ok hj
        exact ⟨o, e, by rw [hl, List.getElem?_append_right (Nat.le_refl _), Nat.sub_self]; rfl, q2, q3, q4.imp id (grow _ _)⟩)
    simpa [bef] using this

theorem topo_ok {ops : Array Oper} {md : Region.Mode} {L : Nat → Bool} : ∀ (q seen : List Nat), topo ops md seen q = true → (∀ i, i ∈ seen → L i = true) → (∃ i, i ∈ q ∧ L i = false) →
    ∃ i, i ∈ q ∧ L i = false ∧ ∀ o, ops[i]? = some o → ∀ e, e ∈ o.after.toList → Region.binds md e = true → L e.on = true
  | [], _, _, _, ⟨i, h, _⟩ => by simp at h
  | i :: r, seen, h, hs, hex => by
    simp only [topo, Bool.and_eq_true] at h
    cases hi : L i with
    | false =>
      refine ⟨i, List.mem_cons_self .., hi, fun o ho e he hb => ?_⟩
      have h1 := h.1
      rw [ho] at h1
      simp only [List.all_eq_true] at h1
      have := h1 e he
      rw [hb] at this
      simp only [Bool.not_true, Bool.false_or, List.contains_iff_mem] at this
      exact hs _ this
    | true =>
      obtain ⟨k, hk, hkl⟩ := hex
      have hkr : k ∈ r := by
        rcases List.mem_cons.1 hk with rfl | hk
        · rw [hi] at hkl; cases hkl
        · exact hk
      obtain ⟨k', q1, q2, q3⟩ := topo_ok r (i :: seen) h.2 (fun j hj => by
        rcases List.mem_cons.1 hj with rfl | hj
        · exact hi
        · exact hs j hj) ⟨k, hkr, hkl⟩
      exact ⟨k', List.mem_cons_of_mem _ q1, q2, q3⟩

theorem binds_any {md : Region.Mode} {e : Edge} (h : Region.binds .any e = true) : Region.binds md e = true := by
  unfold Region.binds at *
  split at h <;> simp_all

theorem touch_dst {ops : Array Oper} {o o' : Oper} {x x' : List Nat × List Nat} {d : Tmp} (hd : o'.dst = some d) (h : d ∈ o.looksAt ops ∨ o.dst = some d) : touch ops o x o' x' = true := by
  unfold touch
  rw [hd]
  rcases h with h | h
  · simp [h]
  · simp [h]
theorem touch_dst' {ops : Array Oper} {o o' : Oper} {x x' : List Nat × List Nat} {d : Tmp} (hd : o.dst = some d) (h : d ∈ o'.looksAt ops) : touch ops o x o' x' = true := by
  unfold touch
  rw [hd]
  simp [h]
theorem touch_wr {ops : Array Oper} {o o' : Oper} {x x' : List Nat × List Nat} {g : Nat} (hg : g ∈ x'.2) (h : g ∈ x.1 ∨ g ∈ x.2) : touch ops o x o' x' = true := by
  unfold touch
  have : x'.2.any (fun g => x.1.contains g || x.2.contains g) = true := by
    rw [List.any_eq_true]
    exact ⟨g, hg, by rcases h with h | h <;> simp [h]⟩
  rw [this]
  simp
theorem touch_wr' {ops : Array Oper} {o o' : Oper} {x x' : List Nat × List Nat} {g : Nat} (hg : g ∈ x.2) (h : g ∈ x'.1) : touch ops o x o' x' = true := by
  unfold touch
  have : x.2.any (fun g => x'.1.contains g) = true := by
    rw [List.any_eq_true]
    exact ⟨g, hg, by simp [h]⟩
  rw [this]
  simp

section
variable {P : Program} {Q : Exit → Act → World → Prop} {l : List Oper} {f : Nat → Done} {s : St} {tr : List (List Nat × List Nat)} {C0 : Cf}

theorem any_of_run (md : Region.Mode)
    (hf : ∀ (i : Nat) o, l[i]? = some o → tr[i]? = some ((f i).rd, (f i).wr.map (·.1)) ∧ dOK s o.dst = true ∧ GStep P l.toArray o (upTo l f s (fun _ => true) i) (f i).rd (f i).val (f i).wr)
    (hc : chkAll l.toArray l tr l tr (bef l []) 0 = true) (q : List Nat) (ht : topo l.toArray md [] q = true) (hq : ∀ i, i < l.length → i ∈ q) (hqn : ∀ i, i ∈ q → i < l.length)
    (hQ : ∀ C' a', Holds C' (upTo l f s (fun _ => true) l.length) a' → Step C0 s.mem C' (upTo l f s (fun _ => true) l.length).mem → Q .normal a' C'.w) :
    ∀ (fuel : Nat) (L : Array Bool) (C : Cf) (a : Act), L.size = l.length → (L.toList.countP (fun b => !b)) ≤ fuel →
      (∀ (i : Nat), L.getD i false = true → ∀ b j, (bef l [])[i]? = some b → b.testBit j = true → L.getD j false = true) →
      Holds C (upTo l f s (fun i => L.getD i false) l.length) a → Step C0 s.mem C (upTo l f s (fun i => L.getD i false) l.length).mem → wpAny P md l.toArray Q fuel L a C.w := by
  obtain ⟨hbl, hbs⟩ := bef_ok l [] [] rfl (by simp)
  simp only [List.nil_append] at hbl hbs
  have hready : ∀ (L : Array Bool) (i : Nat), i ∈ Region.ready md l.toArray L ↔ i < l.length ∧ L.getD i true = false ∧ ∀ o, l[i]? = some o → ∀ e, e ∈ o.after.toList → Region.binds md e = true → L.getD e.on false = true := by
    intro L i
    simp only [Region.ready, List.size_toArray, List.mem_filter, List.mem_range, Bool.and_eq_true, Bool.not_eq_true']
    constructor
    · rintro ⟨h1, h2, h3⟩
      refine ⟨h1, h2, fun o ho e he hb => ?_⟩
      have ho' : l.toArray[i]? = some o := by simpa using ho
      rw [ho'] at h3
      simp only [Option.map_some, Option.getD_some, Array.all_eq_true'] at h3
      have := h3 e (by simpa using he)
      rw [hb] at this
      simpa using this
    · rintro ⟨h1, h2, h3⟩
      refine ⟨h1, h2, ?_⟩
      have ho : l[i]? = some l[i] := List.getElem?_eq_getElem h1
      have ho' : l.toArray[i]? = some l[i] := by simp [ho]
      rw [ho']
      simp only [Option.map_some, Option.getD_some, Array.all_eq_true']
      intro e he
      cases hb : Region.binds md e with
      | false => rfl
      | true => simpa using h3 l[i] ho e (by simpa using he) hb
  have hgd : ∀ (L : Array Bool) (i : Nat), i < L.size → L.getD i true = L.getD i false := fun L i hi => by simp [hi]
  have hall : ∀ (L : Array Bool), L.size = l.length → Region.ready md l.toArray L = [] → ∀ i, i < l.length → L.getD i false = true := by
    intro L hL hr i hi
    rcases Bool.eq_false_or_eq_true (L.getD i false) with h | h
    · exact h
    · obtain ⟨k, k1, k2, k3⟩ := topo_ok (L := fun i => L.getD i false) q [] ht (by simp) ⟨i, hq i hi, h⟩
      have hk := hqn k k1
      have : k ∈ Region.ready md l.toArray L := (hready L k).2 ⟨hk, by rw [hgd L k (by omega)]; exact k2, fun o ho e he hb => k3 o (by simpa using ho) e he hb⟩
      rw [hr] at this
      cases this
  have hsame : ∀ (L : Array Bool), (∀ i, i < l.length → L.getD i false = true) → SameSt (upTo l f s (fun i => L.getD i false) l.length) (upTo l f s (fun _ => true) l.length) :=
    fun L h => ⟨fun t => upTo_env _ (fun j hj _ => h j hj), fun g => upTo_mem _ (fun j hj _ => h j hj), by rw [upTo_n, upTo_n]⟩
  have hfin : ∀ (L : Array Bool) (C : Cf) (a : Act), L.size = l.length → Region.ready md l.toArray L = [] → Holds C (upTo l f s (fun i => L.getD i false) l.length) a → Step C0 s.mem C (upTo l f s (fun i => L.getD i false) l.length).mem → Q .normal a C.w := by
    intro L C a hL hr hh hx
    have hs := hsame L (hall L hL hr)
    exact hQ C a (Holds_congr hs hh) (Step_congr (fun _ => rfl) hs.mem hx)
  intro fuel
  induction fuel with
  | zero =>
    intro L C a hL hcnt _ hh hx
    have h0 : ∀ i, i < l.length → L.getD i true = true := by
      intro i hi
      have := List.countP_eq_zero.1 (Nat.le_zero.1 hcnt)
      have hm : L[i]'(by omega) ∈ L.toList := by simp
      have := this _ hm
      simp only [Bool.not_eq_true, Bool.not_eq_false'] at this
      simp [show i < L.size by omega, this]
    have hr : Region.ready md l.toArray L = [] := by
      rw [List.eq_nil_iff_forall_not_mem]
      intro i hi
      obtain ⟨q1, q2, _⟩ := (hready L i).1 hi
      rw [h0 i q1] at q2
      cases q2
    exact ⟨hr, hfin L C a hL hr hh hx⟩
  | succ fuel ih =>
    intro L C a hL hcnt hdown hh hx
    refine ⟨fun hr => hfin L C a hL hr hh hx, fun i hi => ?_⟩
    obtain ⟨hil, hiL, hie⟩ := (hready L i).1 hi
    have ho : l[i]? = some l[i] := List.getElem?_eq_getElem hil
    obtain ⟨htr, hdok, hg⟩ := hf i l[i] ho
    have hiL' : L.getD i false = false := by rw [← hgd L i (by omega)]; exact hiL
    -- what i hangs on is listed
    have hpre : ∀ b j, (bef l [])[i]? = some b → b.testBit j = true → L.getD j false = true := by
      intro b j hb hj
      obtain ⟨o', e, q1, q2, q3, q4⟩ := hbs i b j hb hj
      rw [ho] at q1
      injection q1 with q1
      subst q1
      have he := hie l[i] ho e q2 (binds_any q3)
      rcases q4 with rfl | q4
      · exact he
      · have hlt : e.on < (bef l []).length := by
          rcases Nat.lt_or_ge e.on (bef l []).length with h | h
          · exact h
          · rw [List.getD_eq_getElem?_getD, List.getElem?_eq_none h] at q4; simp at q4
        have hbe : (bef l [])[e.on]? = some ((bef l []).getD e.on 0) := by
          rw [List.getD_eq_getElem?_getD, List.getElem?_eq_getElem hlt]; rfl
        exact hdown e.on he _ j hbe q4
    have hbi : ∀ k, k < l.length → ∃ b, (bef l [])[k]? = some b := fun k hk => ⟨_, List.getElem?_eq_getElem (by rw [hbl]; exact hk)⟩
    -- two that touch each other are ordered
    have hord : ∀ j k, j < k → k < l.length → ∀ oj ok, l[j]? = some oj → l[k]? = some ok → touch l.toArray ok ((f k).rd, (f k).wr.map (·.1)) oj ((f j).rd, (f j).wr.map (·.1)) = true →
        ∀ b, (bef l [])[k]? = some b → b.testBit j = true := by
      intro j k hjk hk oj ok hj hko htc b hb
      have h1 := chkAll_ok hc k ok _ b hko (hf k ok hko).1 hb
      have := chkOne_ok h1 j oj ((f j).rd, (f j).wr.map (·.1)) (by rw [Nat.zero_add, List.getElem?_take, if_pos hjk]; exact hj) (by rw [Nat.zero_add, List.getElem?_take, if_pos hjk]; exact (hf j oj hj).1) htc
      simpa using this
    -- a writer of what i looks at is listed just if it is ahead of i
    have hlist : ∀ j oj, j < l.length → l[j]? = some oj → j ≠ i → (touch l.toArray l[i] ((f i).rd, (f i).wr.map (·.1)) oj ((f j).rd, (f j).wr.map (·.1)) = true ∧ touch l.toArray oj ((f j).rd, (f j).wr.map (·.1)) l[i] ((f i).rd, (f i).wr.map (·.1)) = true) →
        L.getD j false = decide (j < i) := by
      intro j oj hj hoj hne htc
      rcases Nat.lt_or_gt_of_ne hne with h | h
      · obtain ⟨b, hb⟩ := hbi i hil
        rw [hpre b j hb (hord j i h hil oj l[i] hoj ho htc.1 b hb)]
        simp [h]
      · obtain ⟨b, hb⟩ := hbi j hj
        have hbit := hord i j h hj l[i] oj ho hoj htc.2 b hb
        have : L.getD j false = false := by
          rcases Bool.eq_false_or_eq_true (L.getD j false) with hl' | hl'
          · rw [hdown j hl' b i hb hbit] at hiL'
            cases hiL'
          · exact hl'
        rw [this]
        simp; omega
    have hdstof : ∀ j t, (l[j]?).bind (·.dst) = some t → ∃ oj, l[j]? = some oj ∧ oj.dst = some t ∧ j < l.length := by
      intro j t h
      cases hj : l[j]? with
      | none => rw [hj] at h; cases h
      | some oj => rw [hj] at h; exact ⟨oj, rfl, h, (List.getElem?_eq_some_iff.1 hj).1⟩
    have hgn : GStep P l.toArray l[i] (upTo l f s (fun i => L.getD i false) l.length) (f i).rd (f i).val (f i).wr := by
      refine hg.at (fun t ht' => ?_) (fun g hgm => ?_)
      · rw [← upTo_less l.length (Nat.le_of_lt hil)]
        refine upTo_env _ (fun j hj hd => ?_)
        obtain ⟨oj, hoj, hdj, _⟩ := hdstof j t hd
        by_cases hne : j = i
        · subst hne
          rw [hiL']; simp
        · exact hlist j oj hj hoj hne ⟨touch_dst hdj (.inl ht'), touch_dst' hdj ht'⟩
      · rw [← upTo_less l.length (Nat.le_of_lt hil)]
        refine upTo_mem _ (fun j hj hd => ?_)
        have hoj : l[j]? = some l[j] := List.getElem?_eq_getElem hj
        by_cases hne : j = i
        · subst hne
          rw [hiL']; simp
        · refine hlist j l[j] hj hoj hne ⟨touch_wr (g := g) hd hgm, ?_⟩
          rcases hgm with h | h
          · exact touch_wr' (g := g) hd h
          · exact touch_wr (g := g) h (.inr hd)
    have hsz : (L.setIfInBounds i true).size = l.length := by simpa using hL
    have hget : ∀ j, (L.setIfInBounds i true).getD j false = (decide (j = i) || L.getD j false) := by
      intro j
      by_cases hj : j = i
      · subst hj
        simp [show j < L.size by omega]
      · simp [Array.getElem?_setIfInBounds, Ne.symm hj, hj]
    have hadd : SameSt ((upTo l f s (fun i => L.getD i false) l.length).put ((l[i]?).bind (·.dst)) (f i).val (f i).wr) (upTo l f s (fun j => (L.setIfInBounds i true).getD j false) l.length) := by
      have e : (fun j => (L.setIfInBounds i true).getD j false) = fun j => decide (j = i) || L.getD j false := funext hget
      rw [e]
      refine upTo_add hil (fun t hd j hij hj hdj => ?_) (fun g hg' j hij hj hgj => ?_)
      · obtain ⟨oj, hoj, hdj', _⟩ := hdstof j t hdj
        have hdi : l[i].dst = some t := by rw [ho] at hd; exact hd
        rw [hlist j oj hj hoj (by omega) ⟨touch_dst hdj' (.inr hdi), touch_dst hdi (.inr hdj')⟩]
        simp; omega
      · have hoj : l[j]? = some l[j] := List.getElem?_eq_getElem hj
        rw [hlist j l[j] hj hoj (by omega) ⟨touch_wr (g := g) hgj (.inr hg'), touch_wr (g := g) hg' (.inr hgj)⟩]
        simp; omega
    have hbind : (l[i]?).bind (·.dst) = l[i].dst := by rw [ho]; rfl
    rw [hbind] at hadd
    have hcnt' : ((L.setIfInBounds i true).toList.countP (fun b => !b)) ≤ fuel := by
      have hLl : i < L.toList.length := by simpa [hL] using hil
      have hdec : (L.toList.set i true).countP (fun b => !b) + 1 = L.toList.countP (fun b => !b) := by
        have hx : L.toList[i] = false := by
          have : L.getD i false = L[i]'(by omega) := by simp [show i < L.size by omega]
          rw [this] at hiL'
          simpa using hiL'
        have hpos : 0 < L.toList.countP (fun b => !b) := List.countP_pos_iff.2 ⟨false, hx ▸ List.getElem_mem hLl, rfl⟩
        rw [List.countP_set hLl]
        rw [hx]
        simp only [Bool.not_false, Bool.not_true, if_true, Bool.false_eq_true, if_false]
        omega
      have : (L.setIfInBounds i true).toList = L.toList.set i true := by simp
      rw [this]
      omega
    have hdown' : ∀ (k : Nat), (L.setIfInBounds i true).getD k false = true → ∀ b j, (bef l [])[k]? = some b → b.testBit j = true → (L.setIfInBounds i true).getD j false = true := by
      intro k hk b j hb hj
      rw [hget] at hk ⊢
      by_cases hki : k = i
      · subst hki
        rw [hpre b j hb hj]; simp
      · simp only [hki, decide_false, Bool.false_or] at hk
        rw [hdown k hk b j hb hj]; simp
    show wpOp P l.toArray Q i (wpAny P md l.toArray Q fuel (L.setIfInBounds i true)) a C.w
    have ho' : l.toArray[i]? = some l[i] := by simp [ho]
    have hstep := gstep_wp (Q := Q) (next := wpAny P md l.toArray Q fuel (L.setIfInBounds i true)) hgn (by
      have : dOK (upTo l f s (fun i => L.getD i false) l.length) l[i].dst = dOK s l[i].dst := by
        unfold dOK
        cases l[i].dst <;> simp [upTo_n]
      rw [this]; exact hdok) hh (fun C' a' h' x' => ih _ C' a' hsz hcnt' hdown' (Holds_congr hadd h') (Step_congr (fun _ => rfl) hadd.mem (hx.trans x')))
    unfold wpOp
    rw [ho']
    show if Region.wanted l[i] (yielded l.toArray a.tmps) = true then _ else _
    split
    · rename_i hw; rw [if_pos hw] at hstep; exact .inl hstep
    · rename_i hw; rw [if_neg hw] at hstep; exact hstep

theorem draw_wp {P : Program} {Q : Exit → St → Prop} {s : St} {id : Nat} {l : List Oper} (h : DOps P l.toArray l s [] (fun acc s' => chk l acc = true ∧ Q .normal s')) {C : Cf} {a : Act} (hh : Holds C s a) :
    (Code.region id l.toArray true).wp P (fun e a' w' => ∃ C' s', C'.w = w' ∧ Q e s' ∧ Holds C' s' a' ∧ Step C s.mem C' s'.mem) a C.w := by
  obtain ⟨tr, s', hr, hc, hq⟩ := h
  rw [List.append_nil] at hc
  unfold chk at hc
  rw [List.reverse_reverse] at hc
  simp only [Bool.and_eq_true] at hc
  obtain ⟨⟨⟨c1, c2⟩, c3⟩, ⟨c4, c5⟩, c6⟩ := hc
  obtain ⟨f, g1, rfl, g3⟩ := run_places l s tr s' hr
  have hd : ∀ n x v, RdF C n x v → RdF { C with w := C.w.drew } n x v := fun n x v h => Rd.mono h (fun _ h => h) (fun _ _ => rfl)
  have hs : ∀ d v, RdS C s.mem d v → RdS { C with w := C.w.drew } s.mem d v := by
    intro d v h
    cases d with
    | dat n x => exact hd n x v h
    | _ => exact h
  have hdrew : Holds { C with w := C.w.drew } s a := by
    exact ⟨⟨fun g => BoxOK.upd (hh.mem.box g) (fun _ _ => rfl) hd hs (fun _ h => h) (fun _ h => h), hh.mem.inj, hh.mem.sep, hh.mem.sdom, hh.mem.ns⟩, hh.defers, hh.size, fun t => RdD.of_S hs _ _ (hh.env t)⟩
  have hx0 : Step C s.mem { C with w := C.w.drew } s.mem := ⟨⟨rfl, rfl, rfl, Nat.le_refl _, fun _ _ _ => rfl, fun g b h1 h2 => .inr ⟨g, h1, h2⟩, fun _ h => h, fun _ h => h, fun _ h => .inl h, fun _ h => .inl h⟩, hdrew.mem, RdD.of_S hs⟩
  have h0 : ∀ p : Nat → Bool, (∀ j, p j = false) → SameSt s (upTo l f s p l.length) := by
    intro p hp
    have : ∀ k, upTo l f s p k = s := by
      intro k
      induction k with
      | zero => rfl
      | succ k ih => simp only [upTo, hp, Bool.false_eq_true, if_false, ih]
    rw [this]
    exact ⟨fun _ => rfl, fun _ => rfl, rfl⟩
  have hgo : ∀ (md : Region.Mode) (q : List Nat), topo l.toArray md [] q = true → (∀ i, i < l.length → i ∈ q) → (∀ i, i ∈ q → i < l.length) → ∀ t,
      wpOps P l.toArray (fun e a' w' => ∃ C' s', C'.w = w' ∧ Q e s' ∧ Holds C' s' a' ∧ Step C s.mem C' s'.mem) (Region.linearise md l.toArray t) a C.w.drew := by
    intro md q t1 t2 t3 t
    have hrep : ∀ j, (Array.replicate l.length false).getD j false = false := fun j => by
      rw [Array.getD_eq_getD_getElem?, Array.getElem?_replicate]
      split <;> rfl
    have := any_of_run (C0 := C) (Q := fun e a' w' => ∃ C' s', C'.w = w' ∧ Q e s' ∧ Holds C' s' a' ∧ Step C s.mem C' s'.mem) md g3 c1 q t1 t2 t3 (fun C' a' h' x' => ⟨C', _, rfl, hq, h', x'⟩) l.length
      (Array.replicate l.length false) { C with w := C.w.drew } a (by simp) (by simp [List.countP_replicate]) (fun i hi => by rw [hrep] at hi; cases hi)
      (Holds_congr (h0 _ hrep) hdrew) (Step_congr (fun _ => rfl) (h0 _ hrep).mem hx0)
    have h2 := wpAny_sound l.length t _ a _ this
    have e : Region.linearise md l.toArray t = Region.linearise.go md l.toArray l.length t (Array.replicate l.length false) [] := by
      unfold Region.linearise
      simp
    rw [e]
    exact h2
  refine wp_region_draw fun t => ?_
  show wpOps P l.toArray _ (Region.schedule (P.follows .mixedOrders) l.toArray t) a C.w.drew
  unfold Region.schedule
  split
  · exact hgo .any (List.range l.length) c2 (fun i hi => List.mem_range.2 hi) (fun i hi => List.mem_range.1 hi) t
  · split
    · exact hgo .text (List.range l.length) c3 (fun i hi => List.mem_range.2 hi) (fun i hi => List.mem_range.1 hi) _
    · refine hgo .gc _ c4 (fun i hi => ?_) (fun i hi => ?_) _
      · rw [List.all_eq_true] at c5
        simpa using c5 i (List.mem_range.2 hi)
      · rw [List.all_eq_true] at c6
        have := c6 i hi
        simpa [Nat.blt_eq] using this
theorem DW_draw {P : Program} {Q : Exit → St → Prop} {s : St} {id : Nat} {l : List Oper} (h : DOps P l.toArray l s [] (fun acc s' => chk l acc = true ∧ Q .normal s')) : DW P (.region id l.toArray true) Q s := fun C a hh =>
  Code.wp_mono (fun _ _ _ ⟨C2, s2, e2, q2, h2, x2⟩ => ⟨C2, s2, e2, q2, h2, x2.ext⟩) (draw_wp h hh)
end
end Go.Proofs.Ytpdoplmnedpdaaa
