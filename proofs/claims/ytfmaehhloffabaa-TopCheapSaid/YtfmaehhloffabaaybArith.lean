/- The D-machine, part 11: sums that fit; ends of regions. -/
import Derived.Test.Ytfmaehhloffabaay9Draw
namespace Go.Proofs.Ytfmaehhloffabaa
open Go.RowKit
class StructI (P : Program) (t : TypeId) (pl : outParam (List (Nat × Nat))) : Prop where
  out : ∃ fs, P.underlying t = some (.struct fs) ∧ (fs.toList.map fun f => (f.offset, (P.info? f.type).map (·.size))) = pl.map fun p => (p.1, some p.2)
def fillD (pl : Nat → Option (Nat × Nat)) (e : Operand → D) : List D → List (Nat × Operand) → Option (List D)
  | cs, [] => some cs
  | cs, (i, x) :: r => match pl i, (e x).cells with
    | some (off, size), some ds => bif Nat.beq ds.length size && Nat.ble (off + ds.length) cs.length then fillD pl e (splice cs off ds) r else none
    | _, _ => none
theorem foldl_fill (vs : List Value) : ∀ (k off : Nat) (cs : Array Value), off + k + vs.length ≤ cs.size →
    ((vs.zipIdx k).foldl (fun cs (p : Value × Nat) => cs.setIfInBounds (off + p.2) p.1) cs).size = cs.size ∧
    ∀ j, ((vs.zipIdx k).foldl (fun cs (p : Value × Nat) => cs.setIfInBounds (off + p.2) p.1) cs)[j]? = if off + k ≤ j ∧ j < off + k + vs.length then vs[j - (off + k)]? else cs[j]? := by
  induction vs with
  | nil =>
    intro k off cs h
    refine ⟨rfl, fun j => ?_⟩
    rw [if_neg (by simp)]
    rfl
  | cons v vs ih =>
    intro k off cs h
    simp only [List.length_cons] at h
    have := ih (k + 1) off (cs.setIfInBounds (off + k) v) (by simp; omega)
    simp only [List.zipIdx_cons, List.foldl_cons]
    refine ⟨by rw [this.1]; simp, fun j => ?_⟩
    rw [this.2 j]
    by_cases c1 : off + (k + 1) ≤ j ∧ j < off + (k + 1) + vs.length
    · rw [if_pos c1, if_pos (by simp; omega)]
      obtain ⟨q, hq⟩ : ∃ q, j - (off + k) = q + 1 := ⟨j - (off + k) - 1, by omega⟩
      rw [hq, List.getElem?_cons_succ]
      congr 1
      omega
    · rw [if_neg c1]
      by_cases c2 : j = off + k
      · subst c2
        rw [if_pos (by simp)]
        simp [show off + k < cs.size by omega]
      · rw [if_neg (by simp; omega), Array.getElem?_setIfInBounds, if_neg (by omega)]
theorem fill_ok {C : Cf} {m : Mem} {pl : Nat → Option (Nat × Nat)} {e : Operand → D} {ρ : Operand → Value} : ∀ (parts : List (Nat × Operand)) (cs cs' : List D) (arr : Array Value),
    (∀ i x, (i, x) ∈ parts → RdD C m (e x) (ρ x)) → fillD pl e cs parts = some cs' → arr.size = cs.length → (∀ (j : Nat) d c, cs[j]? = some d → arr[j]? = some c → RdS C m d c) →
    ∃ arr', Instr.fill pl arr (parts.map fun (i, x) => (i, ρ x)) = some arr' ∧ arr'.size = cs'.length ∧ ∀ (j : Nat) d c, cs'[j]? = some d → arr'[j]? = some c → RdS C m d c
  | [], cs, cs', arr, _, h, hl, hr => by
    simp only [fillD, Option.some.injEq] at h
    subst h
    exact ⟨arr, rfl, hl, hr⟩
  | (i, x) :: r, cs, cs', arr, hx, h, hl, hr => by
    simp only [fillD] at h
    cases hp : pl i with
    | none => simp [hp] at h
    | some p =>
      obtain ⟨off, size⟩ := p
      cases hc : (e x).cells with
      | none => simp [hp, hc] at h
      | some ds =>
        simp only [hp, hc] at h
        cases hb : (Nat.beq ds.length size && Nat.ble (off + ds.length) cs.length) with
        | false => simp [hb] at h
        | true =>
          simp only [hb, cond_true] at h
          simp only [Bool.and_eq_true] at hb
          have hsz := Nat.eq_of_beq_eq_true hb.1
          have hle := Nat.le_of_ble_eq_true hb.2
          obtain ⟨h1, h2⟩ := cells_ok (hx i x (by simp)) hc
          obtain ⟨f1, f2⟩ := foldl_fill (ρ x).cells.toList 0 off arr (by simp; omega)
          have hz : (ρ x).cells.zipIdx.foldl (fun cs (c, j) => cs.setIfInBounds (off + j) c) arr = ((ρ x).cells.toList.zipIdx 0).foldl (fun cs (p : Value × Nat) => cs.setIfInBounds (off + p.2) p.1) arr := by
            rw [← Array.foldl_toList, Array.toList_zipIdx]
          obtain ⟨arr', g1, g2, g3⟩ := fill_ok r (splice cs off ds) cs' (((ρ x).cells.toList.zipIdx 0).foldl (fun cs (p : Value × Nat) => cs.setIfInBounds (off + p.2) p.1) arr)
            (fun i' x' hm => hx i' x' (List.mem_cons_of_mem _ hm)) h (by rw [f1, splice_length (by omega)]; exact hl) (fun j d c hd hcv => by
              rw [splice_get (by omega)] at hd
              rw [f2 j] at hcv
              simp only [Nat.add_zero, Array.length_toList, h1] at hcv
              by_cases hj : off ≤ j ∧ j < off + ds.length
              · rw [if_pos hj] at hd hcv
                exact h2 _ _ _ hd (by simpa using hcv)
              · rw [if_neg hj] at hd hcv
                exact hr j d c hd hcv)
          refine ⟨arr', ?_, g2, g3⟩
          simp only [List.map_cons, Instr.fill, hp]
          rw [if_neg (by simp; omega), hz]
          exact g1
def elsV (m : Mem) (e : Operand → D) (s : Nat) : Nat → List (Nat × Operand) → Option (Bool × List (List V))
  | _, [] => some (true, [])
  | k, (i, x) :: r => match D.vcells m (e x), elsV m e s (k + 1) r with
    | some (n, vs), some (n', els) => bif Nat.beq i k && Nat.beq vs.length s && vs.all V.one then some (n && n', vs :: els) else none
    | _, _ => none
section
variable {P : Program} {e : Operand → D} {m : Mem} {dst : Option Tmp} {ty : TypeId} {pos : String} {af : Array Edge} {gd : Option (Nat × Bool)} {x y z : Operand} {t : TypeId} {yt : TypeId}
theorem S_build {s by_ : Nat} {zs : List V} {pl : List (Nat × Nat)} {cs : List D} {parts : Array (Nat × Operand)} [ht : TyI P t true s by_ zs] [hp : StructI P t pl] (h : fillD (pl[·]?) e (zs.map V.zD) parts.toList = some cs) :
    SStep P ⟨dst, .build t parts, ty, pos, af, gd⟩ e m [] (.aggd cs) [] :=
  .pure fun C m' ac _ hh hx => by
    obtain ⟨fs, hu, hpl⟩ := hp.out
    have hmem : ∀ i y, (i, y) ∈ parts.toList → RdD C m' (e y) (ac.eval y) := fun i y hy => hx y (by
      simp only [Op.operands, List.mem_toArray, List.mem_map]
      exact ⟨(i, y), hy, rfl⟩)
    obtain ⟨arr', g1, g2, g3⟩ := fill_ok (ρ := ac.eval) parts.toList _ cs (zs.map V.val).toArray hmem h (by simp) (fun j d c h1 h2 => zero_cell ht j d c h1 h2)
    refine ⟨.agg arr', ?_, ⟨arr', rfl, g2, g3⟩⟩
    have hplaces : ∀ w : World, (fs.mapM fun f => do pure (f.offset, ← sizeOf f.type) : Sem (Array (Nat × Nat))).run P w = .ok pl.toArray w := by
      intro w
      have gen : ∀ (l : List Field) (pl : List (Nat × Nat)), (l.map fun f => (f.offset, (P.info? f.type).map (·.size))) = (pl.map fun p => (p.1, some p.2)) →
          (l.mapM fun f => do pure (f.offset, ← sizeOf f.type) : Sem (List (Nat × Nat))).run P w = .ok pl w := by
        intro l
        induction l with
        | nil => intro pl h; cases pl <;> simp at h ⊢
        | cons f l ih =>
          intro pl h
          cases pl with
          | nil => simp at h
          | cons p pl =>
            simp only [List.map_cons, List.cons.injEq, Prod.mk.injEq] at h
            obtain ⟨⟨h1, h2⟩, h3⟩ := h
            have hsz : (sizeOf f.type).run P w = .ok p.2 w := by
              obtain ⟨i, hi, his⟩ := Option.map_eq_some_iff.1 h2
              simp [sizeOf, typeInfo, program, Sem.run, hi, his]
            have := ih pl h3
            simp only [List.mapM_cons, Sem.run_bind, hsz, Result.andThen_ok, Sem.run_pure, this, h1]
      have he : (fs.mapM fun f => do pure (f.offset, ← sizeOf f.type) : Sem (Array (Nat × Nat))) = List.toArray <$> (fs.toList.mapM fun f => do pure (f.offset, ← sizeOf f.type) : Sem (List (Nat × Nat))) := by
        cases fs; simp
      rw [he, Sem.run_map, gen _ _ hpl]
      rfl
    have hget : (fun i : Nat => pl.toArray[i]?) = fun i : Nat => pl[i]? := funext fun i => List.getElem?_toArray
    show (do pure (Next.value (← Instr.build t (parts.map fun (i, x) => (i, ac.eval x)))) : Sem Next).run P C.w = _
    simp only [Instr.build, Sem.run_bind, run_zero ht, Result.andThen_ok, run_under hu, hplaces, zcells ht, hget, Array.toList_map, g1, Sem.run_pure]
theorem S_buildA {s by_ es eb len el : Nat} {eagg : Bool} {zs ez : List V} {cs : List D} {parts : Array (Nat × Operand)} [ht : TyI P t true s by_ zs] [hu : ArrI P t len el] [he : TyI P el eagg es eb ez] (h : fillD (fun i => some (i * es, es)) e (zs.map V.zD) parts.toList = some cs) :
    SStep P ⟨dst, .build t parts, ty, pos, af, gd⟩ e m [] (.aggd cs) [] :=
  .pure fun C m' ac _ hh hx => by
    have hmem : ∀ i y, (i, y) ∈ parts.toList → RdD C m' (e y) (ac.eval y) := fun i y hy => hx y (by
      simp only [Op.operands, List.mem_toArray, List.mem_map]
      exact ⟨(i, y), hy, rfl⟩)
    obtain ⟨arr', g1, g2, g3⟩ := fill_ok (ρ := ac.eval) parts.toList _ cs (zs.map V.val).toArray hmem h (by simp) (fun j d c h1 h2 => zero_cell ht j d c h1 h2)
    refine ⟨.agg arr', ?_, ⟨arr', rfl, g2, g3⟩⟩
    show (do pure (Next.value (← Instr.build t (parts.map fun (i, x) => (i, ac.eval x)))) : Sem Next).run P C.w = _
    simp only [Instr.build, Sem.run_bind, run_zero ht, Result.andThen_ok, run_under hu.out, run_size he, zcells ht, Array.toList_map, g1, Sem.run_pure]
theorem els_ok {C : Cf} {m' : Mem} {ρ : Operand → Value} {s : Nat} (hm : HoldsM C m') : ∀ (parts : List (Nat × Operand)) (k : Nat) (n : Bool) (els : List (List V)) (arr : Array Value),
    (∀ i x, (i, x) ∈ parts → RdD C m' (e x) (ρ x)) → (∀ i x g, (i, x) ∈ parts → g ∈ refs m (e x) → m'.at g = m.at g) → elsV m e s k parts = some (n, els) → (k + parts.length) * s ≤ arr.size →
    ∃ arr', Instr.fill (fun i => some (i * s, s)) arr (parts.map fun (i, x) => (i, ρ x)) = some arr' ∧ arr'.size = arr.size ∧ els.length = parts.length ∧ (∀ (i : Nat) (el : List V), els[i]? = some el → el.length = s ∧ ∀ (j : Nat) d, el[j]? = some d → d.one = true) ∧
      (∀ j, j < k * s → arr'[j]? = arr[j]?) ∧ ∀ (i j : Nat) el d c, els[i]? = some el → el[j]? = some d → arr'[(k + i) * s + j]? = some c → RdF C n d c
  | [], k, n, els, arr, _, _, h, _ => by
    simp only [elsV, Option.some.injEq, Prod.mk.injEq] at h
    obtain ⟨rfl, rfl⟩ := h
    exact ⟨arr, rfl, rfl, rfl, by simp, fun _ _ => rfl, by simp⟩
  | (i, x) :: r, k, n, els, arr, hx, hrf, h, hsz => by
    simp only [elsV] at h
    cases h1 : D.vcells m (e x) with
    | none => simp [h1] at h
    | some p =>
      obtain ⟨n1, vs⟩ := p
      cases h2 : elsV m e s (k + 1) r with
      | none => simp [h1, h2] at h
      | some q =>
        obtain ⟨n2, els2⟩ := q
        simp only [h1, h2] at h
        cases hb : (Nat.beq i k && Nat.beq vs.length s && vs.all V.one) with
        | false => simp [hb] at h
        | true =>
          simp only [hb, cond_true, Option.some.injEq, Prod.mk.injEq] at h
          obtain ⟨rfl, rfl⟩ := h
          simp only [Bool.and_eq_true] at hb
          obtain ⟨⟨b1, b2⟩, b3⟩ := hb
          have hik := Nat.eq_of_beq_eq_true b1
          have hvs := Nat.eq_of_beq_eq_true b2
          subst hik
          rw [List.all_eq_true] at b3
          obtain ⟨c1, c2⟩ := vcells_ok hm (fun g hg => hrf i x g (by simp) (by
            rcases hg with hg | ⟨cs, hcs, hg⟩
            · cases hex : e x with
              | aggd cs => rw [hex] at hg; simp [refs0] at hg
              | fnd f cs => rw [hex] at hg; simp [refs0] at hg
              | ptr g' off => rw [hex] at hg; simp only [refs0] at hg; simp only [refs]; exact List.mem_cons.2 (.inl (by simpa using hg))
              | _ => rw [hex] at hg; exact hg
            · rw [hcs]; exact hg)) h1 (hx i x (by simp))
          have hsz' : i * s + s ≤ arr.size := by
            have : (i + 1) * s ≤ (i + ((i, x) :: r).length) * s := Nat.mul_le_mul_right _ (by simp)
            rw [Nat.add_mul, Nat.one_mul] at this
            omega
          obtain ⟨f1, f2⟩ := foldl_fill (ρ x).cells.toList 0 (i * s) arr (by simp; omega)
          have hz : (ρ x).cells.zipIdx.foldl (fun cs (c, j) => cs.setIfInBounds (i * s + j) c) arr = ((ρ x).cells.toList.zipIdx 0).foldl (fun cs (p : Value × Nat) => cs.setIfInBounds (i * s + p.2) p.1) arr := by
            rw [← Array.foldl_toList, Array.toList_zipIdx]
          obtain ⟨arr', g1, g2, g3, g4, g5, g6⟩ := els_ok hm r (i + 1) n2 els2 (((ρ x).cells.toList.zipIdx 0).foldl (fun cs (p : Value × Nat) => cs.setIfInBounds (i * s + p.2) p.1) arr)
            (fun i' x' hm' => hx i' x' (List.mem_cons_of_mem _ hm')) (fun i' x' g hm' => hrf i' x' g (List.mem_cons_of_mem _ hm')) h2 (by
              rw [f1]
              simp only [List.length_cons] at hsz
              rw [show i + 1 + r.length = i + (r.length + 1) by omega]
              exact hsz)
          refine ⟨arr', ?_, by rw [g2, f1], by simp [g3], fun k' el hk' => ?_, fun j hj => ?_, fun k' j el d c hk' hd hcv => ?_⟩
          · simp only [List.map_cons, Instr.fill]
            rw [if_neg (by simp; omega), hz]
            exact g1
          · cases k' with
            | zero =>
              simp only [List.getElem?_cons_zero, Option.some.injEq] at hk'
              subst hk'
              exact ⟨hvs, fun j d hd => b3 d (List.mem_of_getElem? hd)⟩
            | succ k' => exact g4 k' el (by simpa using hk')
          · rw [g5 j (by rw [Nat.add_mul]; omega), f2 j, if_neg (by omega)]
          · cases k' with
            | zero =>
              simp only [List.getElem?_cons_zero, Option.some.injEq] at hk'
              subst hk'
              have hj : j < s := by have := (List.getElem?_eq_some_iff.1 hd).1; omega
              rw [Nat.add_zero, g5 _ (by rw [Nat.add_mul, Nat.one_mul]; omega), f2 _, if_pos (by simp; omega)] at hcv
              simp only [Nat.add_zero, Nat.add_sub_cancel_left, Array.getElem?_toList] at hcv
              exact (c2 j d c hd hcv).and hm
            | succ k' =>
              refine (g6 k' j el d c (by simpa using hk') hd ?_).and' hm
              rw [show i + 1 + k' = i + (k' + 1) by omega]
              exact hcv
theorem S_lit {el s by_ len : Nat} {agg n : Bool} {zs : List V} {els : List (List V)} {parts : Array (Nat × Operand)} [hu : SlcI P t el] [ht : TyI P el agg s by_ zs] (h : elsV m e s 0 parts.toList = some (n, els)) (hl : Nat.beq parts.size len = true) (hb : Nat.ble (len * s) 16777216 = true) (hb2 : Nat.ble len 16777216 = true) :
    SStep P ⟨dst, .buildSlice t len parts, ty, pos, af, gd⟩ e m (parts.toList.flatMap fun p => refs m (e p.2)) (.dat n (.slice els)) [] := by
  intro C m' a next Q ha hm hx hn
  have hl := Nat.eq_of_beq_eq_true hl
  have hb := Nat.le_of_ble_eq_true hb
  have hmem : ∀ i y, (i, y) ∈ parts.toList → RdD C m' (e y) (a.eval y) := fun i y hy => hx y (by
    simp only [Op.operands, List.mem_toArray, List.mem_map]
    exact ⟨(i, y), hy, rfl⟩)
  obtain ⟨arr', g1, g2, g3, g4, _, g6⟩ := els_ok (ρ := a.eval) hm parts.toList 0 n els ((Array.range (len * s)).map ((zs.map V.val).toArray[· % (zs.map V.val).toArray.size]!)) hmem
    (fun i y g hy hg => ha g (.inl (List.mem_flatMap.2 ⟨(i, y), hy, hg⟩))) h (by simp [← hl])
  have hlen : els.length = len := by rw [g3]; simpa using hl
  have hrun : (execOp a.eval ⟨dst, .buildSlice t len parts, ty, pos, af, gd⟩).run P C.w = .ok (.value (.slice (some ⟨C.w.heap.size, 0, none⟩) len len)) (C.w.alloc (.cells arr' el)) := by
    show (do pure (Next.value (← Instr.buildSlice t len (parts.map fun (i, x) => (i, a.eval x)))) : Sem Next).run P C.w = _
    simp only [Instr.buildSlice, Sem.run_bind, run_under hu.out, Result.andThen_ok, run_size ht, Array.toList_map]
    have hno : ¬ (len * s > 2 ^ 24) := by omega
    simp only [hno, if_false]
    have g1' : ∀ zz : Array Value, (len * s = 0 ∨ zz = (zs.map V.val).toArray) → Instr.fill (fun i => some (i * s, s)) ((Array.range (len * s)).map (zz[· % zz.size]!)) (parts.toList.map fun (i, x) => (i, a.eval x)) = some arr' := by
      intro zz hz
      rcases hz with hz | hz
      · have e0 : ∀ f : Nat → Value, (Array.range (len * s)).map f = #[] := fun f => by rw [hz]; simp
        rw [← g1, e0, e0]
      · rw [hz]; exact g1
    by_cases h0 : len * s = 0
    · simp only [h0, if_true, Sem.run_bind, Sem.run_pure, Result.andThen_ok]
      have := g1' #[] (.inl h0)
      rw [h0] at this
      simp only [this]
      simp [newRow, newObj, Sem.run]
    · simp only [h0, if_false, Sem.run_bind, run_zero ht, Result.andThen_ok, zcells ht, Sem.run_pure]
      simp only [g1' _ (.inr rfl)]
      simp [newRow, newObj, Sem.run]
  have hsz0 : arr'.size = len * s := by rw [g2]; simp
  have hst := step_dat (w := C.w.alloc (.cells arr' el)) (fun k => k = C.w.heap.size) hm (Grew.alloc _ _) (fun k hk => by subst hk; simp)
  refine wp_of_value hrun (hn _ _ hst ?_)
  have hblk : (C.w.alloc (.cells arr' el)).heap[C.w.heap.size]? = some (.cells arr' el (0, 0)) := heap_alloc_new C.w _
  have hcell : ∀ (i j : Nat) (e' : List V) (d : V), els[i]? = some e' → e'[j]? = some d → arr'[0 + i * s + j]? = some (arr'.getD (i * s + j) undef) ∧ arr'[i * s + j]? = some (arr'.getD (i * s + j) undef) := by
    intro i j e' d hi hj
    have h1 : i < els.length := (List.getElem?_eq_some_iff.1 hi).1
    have h2 : j < s := by have := (List.getElem?_eq_some_iff.1 hj).1; have := (g4 i e' hi).1; omega
    have : i * s + j < arr'.size := by rw [hsz0, ← hlen]; exact idx_lt h1 h2
    simp [Array.getElem?_eq_getElem this]
  have hsl := Rd.slice (S := (C.put (fun k => k = C.w.heap.size) (C.w.alloc (.cells arr' el))).D n) (w := C.w.alloc (.cells arr' el)) els C.w.heap.size 0 len s (fun i j => arr'.getD (i * s + j) undef) (by omega)
    (by unfold maxLen; have := Nat.le_of_ble_eq_true hb2; omega)
    (fun i e' hi => (g4 i e' hi).1) (fun i j e' d hi hj => (g4 i e' hi).2 j d hj) (fun _ => by cases n <;> exact .inr rfl)
    (fun i j e' d hi hj => by rw [cell_of_arr hblk]; exact (hcell i j e' d hi hj).1)
    (fun i j e' d hi hj => by
      have hr := g6 i j e' d _ hi hj (by rw [Nat.zero_add]; exact (hcell i j e' d hi hj).2)
      exact RdF.mono hr hm hst.ext)
  rw [hlen] at hsl
  exact hsl
end
end Go.Proofs.Ytfmaehhloffabaa
namespace Go.Proofs.Ytfmaehhloffabaa
open Go.RowKit
def InK : IntKind → Int → Prop
  | .i8, a => -128 ≤ a ∧ a ≤ 127
  | .i16, a => -32768 ≤ a ∧ a ≤ 32767
  | .i32, a => -2147483648 ≤ a ∧ a ≤ 2147483647
  | .i64, a => -9223372036854775808 ≤ a ∧ a ≤ 9223372036854775807
  | .u8, a => 0 ≤ a ∧ a ≤ 255
  | .u16, a => 0 ≤ a ∧ a ≤ 65535
  | .u32, a => 0 ≤ a ∧ a ≤ 4294967295
  | .u64, a => 0 ≤ a ∧ a ≤ 18446744073709551615
theorem wrap_in {k : IntKind} {a : Int} (h : InK k a) : k.wrap a = a := by
  cases k <;> simp only [InK] at h <;> simp only [IntKind.wrap, IntKind.bits, IntKind.signed] <;> simp <;> omega
section
variable {P : Program} {e : Operand → D} {m : Mem} {dst : Option Tmp} {ty : TypeId} {pos : String} {af : Array Edge} {gd : Option (Nat × Bool)} {x y z : Operand} {t : TypeId} {yt : TypeId}
theorem I_mul {n1 n2 : Bool} {k : IntKind} {a b : Int} (h1 : e x = .dat n1 (.int k a)) (h2 : e y = .dat n2 (.int k b)) (hr : InK k (a * b)) :
    SStep P ⟨dst, .binOp .mul t x y yt, ty, pos, af, gd⟩ e m [] (.dat true (.int k (a * b))) [] := by have := S_mul (P := P) (m := m) (dst := dst) (ty := ty) (pos := pos) (af := af) (gd := gd) (t := t) (yt := yt) h1 h2; rwa [wrap_in hr] at this
theorem I_toInt {n : Bool} {k k' : IntKind} {s : TypeId} {a : Int} [hs : IntI P s k] [ht : IntI P t k'] (h : e x = .dat n (.int k a)) (hr : InK k' a) :
    SStep P ⟨dst, .convert s t x, ty, pos, af, gd⟩ e m [] (.dat true (.int k' a)) [] := by
  have := S_toInt (P := P) (m := m) (dst := dst) (ty := ty) (pos := pos) (af := af) (gd := gd) hs.out ht.out h
  rwa [wrap_in hr] at this
theorem W_toInt {n : Bool} {k k' : IntKind} {s : TypeId} {a : Int} [hs : IntI P s k] [ht : IntI P t k'] (h : e x = .dat n (.int k a)) :
    SStep P ⟨dst, .convert s t x, ty, pos, af, gd⟩ e m [] (.dat true (.int k' (k'.wrap a))) [] := S_toInt hs.out ht.out h
theorem C_toInt {n : Bool} {k k' : IntKind} {s : TypeId} {a b : Int} [hs : IntI P s k] [ht : IntI P t k'] (h : e x = .dat n (.int k a)) (hb : k'.wrap a = b) :
    SStep P ⟨dst, .convert s t x, ty, pos, af, gd⟩ e m [] (.dat true (.int k' b)) [] := by
  subst hb; exact S_toInt hs.out ht.out h
theorem as_int {op : Op} {rd : List Nat} {k : IntKind} {a b : Int} (h : SStep P ⟨dst, op, ty, pos, af, gd⟩ e m rd (.dat true (.int k a)) []) (hb : a = b) : SStep P ⟨dst, op, ty, pos, af, gd⟩ e m rd (.dat true (.int k b)) [] := by
  subst hb; exact h
end
def V.flat0 : V → Bool
  | .bool _ | .int _ _ | .str _ | .undef => true
  | .slice [] => true
  | _ => false
def V.flatB : V → Bool
  | .agg cs => cs.all V.flat0
  | .tuple cs => cs.all fun c => match c with
    | .agg ds => ds.all V.flat0
    | c => c.flat0
  | x => x.flat0
theorem flat0_ok {x : V} (h : x.flat0 = true) : Flat x := by
  cases x with
  | bool b => exact .bool b
  | int k n => exact .int k n
  | str s => exact .str s
  | undef => exact .undef
  | slice xs => cases xs with
    | nil => exact .nil
    | cons a l => simp [V.flat0] at h
  | _ => simp [V.flat0] at h
theorem flat_of {x : V} (h : x.flatB = true) : Flat x := by
  cases x with
  | agg cs =>
    simp only [V.flatB, List.all_eq_true] at h
    exact .agg cs (fun j d hd => flat0_ok (h d (List.mem_of_getElem? hd)))
  | tuple cs =>
    simp only [V.flatB, List.all_eq_true] at h
    refine .tuple cs (fun j d hd => ?_)
    have := h d (List.mem_of_getElem? hd)
    cases d with
    | agg ds =>
      simp only [List.all_eq_true] at this
      exact .agg ds (fun j d hd => flat0_ok (this d (List.mem_of_getElem? hd)))
    | _ => exact flat0_ok this
  | _ => exact flat0_ok h
section
variable {P : Program} {ops : Array Oper} {r : List Oper} {env : Env} {mem : Mem} {nt : Nat} {acc : List (List Nat × List Nat)} {K : List (List Nat × List Nat) → St → Prop} {rd : List Nat} {val : D} {wr : Mem}
  {t : Nat} {op : Op} {ty : TypeId} {pos : String} {af : Array Edge}
theorem dt {bx : Box} (hd : Nat.blt t nt = true) (h : SStep P ⟨some t, op, ty, pos, af, none⟩ (ev ⟨env, mem, nt⟩) mem rd val [(t, bx)]) (k : DOps P ops r ⟨(t, val) :: env, (t, bx) :: mem, nt⟩ ((rd, [t]) :: acc) K) :
    DOps P ops (⟨some t, op, ty, pos, af, none⟩ :: r) ⟨env, mem, nt⟩ acc K := dstep hd (.plain rfl h) k
end
section
variable {P : Program} {ops : Array Oper} {r : List Oper} {env : Env} {mem : Mem} {nt : Nat} {acc : List (List Nat × List Nat)} {K : List (List Nat × List Nat) → St → Prop} {rd : List Nat} {val : D} {wr : Mem}
  {t : Nat} {c : Call} {ty : TypeId} {pos : String} {af : Array Edge}
end
theorem Wd {P : Program} {Q : Exit → St → Prop} {s : St} {l : List Oper} {acc : List (List Nat × List Nat)} (hc : chk l acc = true) (h : Q .normal s) : DOps P l.toArray [] s acc (fun acc s' => chk l acc = true ∧ Q .normal s') := dnil ⟨hc, h⟩
theorem dnilP {P : Program} {ops : Array Oper} {Q : Exit → St → Prop} {s : St} {acc : List (List Nat × List Nat)} (h : Q .normal s) : DOps P ops [] s acc (fun _ s' => Q .normal s') := dnil h
end Go.Proofs.Ytfmaehhloffabaa
