/- Rows that are made; stores into a row; copy; slices of a row; literals as rows; append at nil, and of rows; closures; what is nil. -/
import Derived.Laws.BytesArg
import Derived.Laws.Cover3
import Derived.Laws.IdiomStrings
import Derived.Laws.MakeOwn
import Derived.Test.YtkppkgahdoglpaavbApp
import Derived.Test.YtkppkgahdoglpaavbOwn
namespace Go.Proofs.Ytkppkgahdoglpaa
open Go.RowKit
section
variable {P : Program} {e : Operand → D} {m : Mem} {dst : Option Tmp} {ty : TypeId} {pos : String} {af : Array Edge} {gd : Option (Nat × Bool)} {x y : Operand} {t : TypeId}
def spliceV (cs : List V) (off : Nat) (ds : List V) : List V := cs.take off ++ (ds ++ cs.drop (off + ds.length))
theorem spliceV_length {cs : List V} {off : Nat} {ds : List V} (h : off + ds.length ≤ cs.length) : (spliceV cs off ds).length = cs.length := by
  simp [spliceV]; omega
theorem spliceV_get {cs : List V} {off : Nat} {ds : List V} (h : off + ds.length ≤ cs.length) (j : Nat) :
    (spliceV cs off ds)[j]? = if off ≤ j ∧ j < off + ds.length then ds[j - off]? else cs[j]? := by
  unfold spliceV
  rw [List.getElem?_append, List.length_take, Nat.min_eq_left (by omega)]
  by_cases h1 : j < off
  · rw [if_pos h1, if_neg (by omega), List.getElem?_take, if_pos h1]
  · rw [if_neg h1, List.getElem?_append]
    by_cases h2 : j < off + ds.length
    · rw [if_pos (by omega), if_pos (by omega)]
    · rw [if_neg (by omega), if_neg (by omega), List.getElem?_drop]
      congr 1
      omega
theorem row_write {C : Cf} {m : Mem} {g b ver sz : Nat} {nw nw' : Bool} {xs xs' : List (List V)} {w' : World} {arr arr' : Array Value} {T : TypeId} {fz fz' : Nat × Nat} (hh : HoldsM C m) (hmg : m.at g = .row ver false nw sz xs) (hi : C.ι g = some b)
    (hl : xs'.length = xs.length) (h0 : C.w.heap[b]? = some (.cells arr T fz)) (h1 : w'.heap[b]? = some (.cells arr' T fz')) (h2 : arr'.size = arr.size)
    (q4 : w'.os = C.w.os) (q5 : w'.tape = C.w.tape) (q6 : w'.output = C.w.output) (q7 : w'.heap.size = C.w.heap.size) (q8 : ∀ k, k ≠ b → w'.heap[k]? = C.w.heap[k]?)
    (hbx : (∀ n x v, RdF C n x v → RdF { C with w := w' } n x v) → RowAt { C with w := w' } b false nw' sz xs') :
    Step C m { C with w := w' } ((g, .row ver false nw' sz xs') :: m) := by
  have hat : ∀ {ver1 frz nw1 sz1 xs1}, m.at g = .row ver1 frz nw1 sz1 xs1 → ver1 = ver ∧ frz = false ∧ nw1 = nw ∧ sz1 = sz ∧ xs1 = xs := fun h => by
    rw [hmg] at h
    injection h with e1 e2 e3 e4 e5
    exact ⟨e1.symm, e2.symm, e3.symm, e4.symm, e5.symm⟩
  refine Step.write hh (by rw [hmg]; rfl) hi q4 q5 q6 q7 q8 ?_ ?_ ?_ ?_ (fun hd _ => hbx hd)
  · rintro v0 lo0 len0 u ⟨ver1, frz, nw1, sz1, xs1, h, hle, ha, ho⟩
    obtain ⟨e1, e2, e3, e4, e5⟩ := hat h
    subst e1 e2 e3 e4 e5
    refine ⟨ver1, false, nw', sz1, xs', Mem.at_cons_same _ _ _, hle, ha, fun hv => ?_⟩
    obtain ⟨p1, p2⟩ := ho hv
    refine ⟨by omega, ?_⟩
    show OwnV w' sz1 (C.ι g) lo0 len0 u
    rw [hi] at p2 ⊢
    obtain ⟨cap, arr1, T1, fz1, r1, r2, r3, r4⟩ := p2
    rw [h0] at r2
    injection r2 with r2
    injection r2 with r2 _ _
    subst r2
    exact ⟨cap, arr', T, fz', r1, h1, by rw [h2]; exact r3, r4⟩
  · rintro off v ⟨_, _, _, _, h, _⟩; rw [hmg] at h; cases h
  · rintro v0 i0 off0 u ⟨ver1, frz, nw1, sz1, xs1, h, hle, ha, ho⟩
    obtain ⟨e1, e2, e3, e4, e5⟩ := hat h
    subst e1 e2 e3 e4 e5
    refine ⟨ver1, false, nw', sz1, xs', Mem.at_cons_same _ _ _, hle, ha, fun hv => ?_⟩
    obtain ⟨p1, p2⟩ := ho hv
    exact ⟨by omega, p2⟩
  · rintro v ⟨_, _, _, _, h, _⟩; rw [hmg] at h; cases h
theorem idx_split {i j i' j' s : Nat} (hj : j < s) (hj' : j' < s) : i * s + j = i' * s + j' ↔ i = i' ∧ j = j' := by
  constructor
  · intro h
    have h1 : (i * s + j) / s = i := by rw [Nat.mul_comm, Nat.mul_add_div (by omega)]; rw [Nat.div_eq_of_lt hj]; omega
    have h2 : (i' * s + j') / s = i' := by rw [Nat.mul_comm, Nat.mul_add_div (by omega)]; rw [Nat.div_eq_of_lt hj']; omega
    rw [h] at h1
    have e : i = i' := h1.symm.trans h2
    subst e
    exact ⟨rfl, by omega⟩
  · rintro ⟨rfl, rfl⟩; rfl
theorem S_storeR {agg nw n nf : Bool} {s by_ g ver i off sz : Nat} {zs : List V} {xs : List (List V)} {el vs : List V} [ht : TyI P t agg s by_ zs] (h : e x = .rptr g ver i off) (hmg : m.at g = .row ver false nw sz xs) (he : xs[i]? = some el)
    (hd : D.vcells m (e y) = some (n, vs)) (hnf : nf = n ∨ ∀ d ∈ vs, Flat d) (h1 : vs.all V.one = true) (hl : vs.length = s) (hle : Nat.ble (off + s) el.length = true) :
    SStep P ⟨none, .store t x y, ty, pos, af, gd⟩ e m (g :: refs m (e y)) .any [(g, .row ver false (nw && nf) sz (xs.set i (spliceV el off vs)))] := by
  intro C m' a next Q ha hh hx hn
  have hle := Nat.le_of_ble_eq_true hle
  have g1 := hx x (by simp [Op.operands]); rw [h] at g1
  have g2 := hx y (by simp [Op.operands])
  have hmg' : m'.at g = .row ver false nw sz xs := (ha g (by simp)).trans hmg
  obtain ⟨ver', frz', nw', sz', xs', hat, _, _, hv⟩ := g1
  rw [hmg'] at hat
  injection hat with e1 e2 e3 e4 e5
  subst e1 e2 e3 e4 e5
  obtain ⟨hil, b, hi, hv⟩ := hv rfl
  have hb := hh.box g
  rw [hmg', hi] at hb
  obtain ⟨arr, T, fz, k1, k2, k3, k4, k5, k6, _⟩ := hb
  have hel := k4 i el he
  obtain ⟨c1, c2⟩ := vcells_ok hh (fun g' hg' => ha g' (.inl (List.mem_cons_of_mem _ (by
    rcases hg' with hg' | ⟨cs, hcs, hg'⟩
    · cases hex : e y with
      | aggd cs => rw [hex] at hg'; simp [refs0] at hg'
      | fnd f cs => rw [hex] at hg'; simp [refs0] at hg'
      | ptr g1 off1 => rw [hex] at hg'; simp only [refs0] at hg'; simp only [refs]; exact List.mem_cons.2 (.inl (by simpa using hg'))
      | _ => rw [hex] at hg'; exact hg'
    · rw [hcs]; exact hg')))) hd g2
  have hone : ∀ u, u ∈ (a.eval y).cells.toList → u.oneCell' = true := fun u hu => by
    obtain ⟨j, hj, rfl⟩ := List.mem_iff_getElem.1 hu
    have hj' : j < (a.eval y).cells.size := by simpa using hj
    have hvs : vs[j]? = some (vs[j]'(by omega)) := List.getElem?_eq_getElem (by omega)
    have := c2 j _ _ hvs (Array.getElem?_eq_getElem hj')
    rw [List.all_eq_true] at h1
    exact (rd_one_cells this (h1 _ (List.mem_of_getElem? hvs))).2
  have hlen : (a.eval y).cells.toList.length = s := by simp [c1, hl]
  obtain ⟨w', arr', hr, q1, q2, q3, q4, q5, q6, q7, q8⟩ := run_storeCells (P := P) b T fz (a.eval y).cells.toList 0 (i * sz + off) C.w arr k1 k2 (by
    rw [hlen]
    have : (i + 1) * sz ≤ xs.length * sz := Nat.mul_le_mul_right _ hil
    rw [Nat.add_mul, Nat.one_mul] at this
    omega) hone
  rw [hlen] at q3
  simp only [Nat.add_zero] at q3
  have hst : Step C m' { C with w := w' } ((g, .row ver false (nw && nf) sz (xs.set i (spliceV el off vs))) :: m') := by
    refine row_write hh hmg' hi (by simp) k1 q1 q2 q4 q5 q6 q7 q8 (fun hdd => ?_)
    have hget : ∀ (i' : Nat) (e' : List V), (xs.set i (spliceV el off vs))[i']? = some e' → i' ≠ i ∧ xs[i']? = some e' ∨ i' = i ∧ e' = spliceV el off vs := fun i' e' h' => by
      rw [List.getElem?_set] at h'
      by_cases hii : i = i'
      · rw [if_pos hii] at h'
        split at h'
        · injection h' with h'; exact .inr ⟨hii.symm, h'.symm⟩
        · exfalso; omega
      · rw [if_neg hii] at h'
        exact .inl ⟨fun e => hii e.symm, h'⟩
    have hsl : (spliceV el off vs).length = sz := by rw [spliceV_length (by omega), hel]
    refine ⟨arr', T, fz, q1, ⟨fun j hj => k2.1 j (by omega), k2.2⟩, by rw [q2, List.length_set]; exact k3, fun i' e' h' => ?_, fun i' j e' d h' hd' => ?_, fun i' j e' d c h' hd' hc' => hdd _ _ _ ?_, fun h => by cases h⟩
    · rcases hget i' e' h' with ⟨_, h2⟩ | ⟨rfl, rfl⟩
      · exact k4 i' e' h2
      · exact hsl
    · rcases hget i' e' h' with ⟨_, h2⟩ | ⟨rfl, rfl⟩
      · exact k5 i' j e' d h2 hd'
      · rw [spliceV_get (by omega)] at hd'
        split at hd'
        · rw [List.all_eq_true] at h1
          exact h1 d (List.mem_of_getElem? hd')
        · exact k5 i' j el d he hd'
    · rcases hget i' e' h' with ⟨hne, h2⟩ | ⟨rfl, rfl⟩
      · have hj : j < sz := by rw [← k4 i' e' h2]; exact (List.getElem?_eq_some_iff.1 hd').1
        rw [q3, if_neg] at hc'
        · exact (k6 i' j e' d c h2 hd' hc').and hh
        · rintro ⟨p1, p2⟩
          have := (idx_split (i := i) (j := i' * sz + j - i * sz) (i' := i') (j' := j) (s := sz) (by omega) hj).1 (by omega)
          exact hne this.1.symm
      · have hj : j < sz := by rw [← hsl]; exact (List.getElem?_eq_some_iff.1 hd').1
        rw [spliceV_get (by omega)] at hd'
        rw [q3] at hc'
        by_cases hin : off ≤ j ∧ j < off + vs.length
        · rw [if_pos hin] at hd'
          rw [if_pos (by omega), show i' * sz + j - (i' * sz + off) = j - off by omega, Array.getElem?_toList] at hc'
          have := c2 _ _ _ hd' hc'
          rcases hnf with rfl | hf
          · exact this.and' hh
          · have : RdF C nf d c := RdF.flat this (hf d (List.mem_of_getElem? hd'))
            exact this.and' hh
        · rw [if_neg hin] at hd'
          rw [if_neg (by omega)] at hc'
          exact (k6 i' j el d c he hd' hc').and hh
  refine wp_of_skip (w' := w') ?_ (hn undef _ hst trivial)
  simp only [execOp, hv, Instr.storeAt, Instr.sureAddr, Sem.run_bind, Sem.run_pure, Result.andThen_ok, run_storeVar ht _ _ _ (c1.trans hl), hr]
theorem slcRd_own {C : Cf} {m' : Mem} {g ver lo len s : Nat} {frz nw : Bool} {xs : List (List V)} {v : Value} (hh : HoldsM C m') (hmg : m'.at g = .row ver frz nw s xs) (h : RdD C m' (.own g ver lo len) v) : SlcRd C s nw ((xs.drop lo).take len) v := by
  obtain ⟨ver', frz', nw', sz', xs', hat, _, _, hv⟩ := h
  rw [hmg] at hat
  injection hat with e1 e2 e3 e4 e5
  subst e1 e2 e3 e4 e5
  obtain ⟨hl, ho⟩ := hv rfl
  have hb := hh.box g
  rw [hmg] at hb
  cases hi : C.ι g with
  | none =>
    rw [hi] at ho hb
    obtain ⟨rfl, rfl, rfl⟩ := ho
    exact .inl ⟨by simp, _, _, rfl⟩
  | some b =>
    rw [hi] at ho hb
    obtain ⟨cap, arr, T, fz, rfl, h1, h2, h3, h4⟩ := ho
    obtain ⟨arr', T', fz', k1, k2, k3, k4, k5, k6, _⟩ := hb
    have hlen : ((xs.drop lo).take len).length = len := by simp; omega
    by_cases h0 : len = 0
    · subst h0
      exact .inl ⟨by simp, _, _, rfl⟩
    · refine .inr ⟨fun e => h0 (by rw [← hlen, e]; rfl), b, lo * s, cap, by rw [hlen], fun i j e d q1 q2 => ?_⟩
      have hil : i < len := by rw [← hlen]; exact (List.getElem?_eq_some_iff.1 q1).1
      rw [List.getElem?_take, if_pos hil, List.getElem?_drop] at q1
      have hj : j < s := by rw [← k4 _ e q1]; exact (List.getElem?_eq_some_iff.1 q2).1
      have hlt : (lo + i) * s + j < arr'.size := Nat.lt_of_lt_of_le (idx_lt (by omega) hj) k3
      have hg : arr'[(lo + i) * s + j]? = some arr'[(lo + i) * s + j] := Array.getElem?_eq_getElem hlt
      have hr := k6 _ _ _ _ _ q1 q2 hg
      refine ⟨_, ?_, hr, (rd_one_cells hr (k5 _ _ _ _ q1 q2)).2⟩
      rw [cell_of_arr k1, show lo * s + i * s + j = (lo + i) * s + j by rw [Nat.add_mul]]
      exact hg
theorem S_litO {el s by_ len : Nat} {agg n : Bool} {zs : List V} {els : List (List V)} {parts : Array (Nat × Operand)} (g : Nat) [hu : SlcI P t el] [ht : TyI P el agg s by_ zs] (h : elsV m e s 0 parts.toList = some (n, els)) (hl : Nat.beq parts.size len = true) (hb : Nat.ble (len * s) 16777216 = true) (hb2 : Nat.ble len 16777216 = true) (hg : m.at g = .gone) :
    SStep P ⟨dst, .buildSlice t len parts, ty, pos, af, gd⟩ e m (parts.toList.flatMap fun p => refs m (e p.2)) (.own g 0 0 len) [(g, .row 0 false n s els)] := by
  intro C m' a next Q ha hm hx hn
  have hl := Nat.eq_of_beq_eq_true hl
  have hb := Nat.le_of_ble_eq_true hb
  have hmem : ∀ i y, (i, y) ∈ parts.toList → RdD C m' (e y) (a.eval y) := fun i y hy => hx y (by
    simp only [Op.operands, List.mem_toArray, List.mem_map]
    exact ⟨(i, y), hy, rfl⟩)
  obtain ⟨arr', g1, g2, g3, g4, _, g6⟩ := els_ok (ρ := a.eval) hm parts.toList 0 n els ((Array.range (len * s)).map ((zs.map V.val).toArray[· % (zs.map V.val).toArray.size]!)) hmem
    (fun i y g hy hg => ha g (.inl (List.mem_flatMap.2 ⟨(i, y), hy, hg⟩))) h (by simp [← hl])
  have hlen : els.length = len := by rw [g3]; simpa using hl
  have hrun : (execOp a.eval ⟨dst, .buildSlice t len parts, ty, pos, af, gd⟩).run P C.w = .ok (.value (.slice (some ⟨C.w.heap.size, 0, none⟩) len len)) (C.w.alloc (.cells arr' el)) := by
    show (do pure (Next.value (← Instr.buildSlice t len (parts.map fun (i, x) => (i, a.eval x)))) : Sem Next).run P C.w = _
    simp only [Instr.buildSlice, Sem.run_bind, run_under hu.out, Result.andThen_ok, run_size ht, Array.toList_map]
    have hno : ¬ (len * s > 2 ^ 24) := by omega
    simp only [hno, if_false]
    have g1' : ∀ zz : Array Value, (len * s = 0 ∨ zz = (zs.map V.val).toArray) → Instr.fill (fun i => some (i * s, s)) ((Array.range (len * s)).map (zz[· % zz.size]!)) (parts.toList.map fun (i, x) => (i, a.eval x)) = some arr' := by
      intro zz hz
      rcases hz with hz | hz
      · have e0 : ∀ f : Nat → Value, (Array.range (len * s)).map f = #[] := fun f => by rw [hz]; simp
        rw [← g1, e0, e0]
      · rw [hz]; exact g1
    by_cases h0 : len * s = 0
    · simp only [h0, if_true, Sem.run_bind, Sem.run_pure, Result.andThen_ok]
      have := g1' #[] (.inl h0)
      rw [h0] at this
      simp only [this]
      simp [newRow, newObj, Sem.run]
    · simp only [h0, if_false, Sem.run_bind, run_zero ht, Result.andThen_ok, zcells ht, Sem.run_pure]
      simp only [g1' _ (.inr rfl)]
      simp [newRow, newObj, Sem.run]
  have hsz0 : arr'.size = len * s := by rw [g2]; simp
  have hblk : (C.w.alloc (.cells arr' el)).heap[C.w.heap.size]? = some (.cells arr' el (0, 0)) := heap_alloc_new C.w _
  have hg' : m'.at g = .gone := (ha g (by simp)).trans hg
  have hst := step_row (g := g) (xs := els) (sz := s) (nw := n) hm hg' (Grew.alloc C.w (.cells arr' el)) C.w.heap.size (Nat.le_refl _) hblk (loose0 _)
    (by rw [hsz0, hlen]; exact Nat.le_refl _) (fun i e' hi => (g4 i e' hi).1) (fun i j e' d hi hj => (g4 i e' hi).2 j d hj) (fun i j e' d c hi hj hc => g6 i j e' d c hi hj (by rw [Nat.zero_add]; exact hc))
  refine wp_of_value hrun (hn _ _ hst ?_)
  refine ⟨0, false, n, s, els, Mem.at_cons_same _ _ _, Nat.le_refl _, ⟨_, _, _, rfl⟩, fun _ => ⟨by omega, ?_⟩⟩
  rw [Cf.set_same]
  exact ⟨len, _, el, (0, 0), by simp, hblk, by rw [hsz0]; simp, Nat.le_refl _, by unfold maxLen; have := Nat.le_of_ble_eq_true hb2; omega⟩
inductive AppD (m : Mem) : D → Nat → Bool → List (List V) → Prop
  | dat (n : Bool) (els : List (List V)) (s : Nat) (hel : ∀ e ∈ els, e.length = s) : AppD m (.dat n (.slice els)) s n els
  | nil (s : Nat) : AppD m .nil s true []
  | own (g ver lo len s : Nat) (frz nw : Bool) (xs : List (List V)) (h : m.at g = .row ver frz nw s xs) : AppD m (.own g ver lo len) s nw ((xs.drop lo).take len)
theorem appD_rd {C : Cf} {m m' : Mem} {d : D} {s : Nat} {n : Bool} {els : List (List V)} {v : Value} (hh : HoldsM C m') (hag : ∀ g, g ∈ refs0 d → m'.at g = m.at g) (h : AppD m d s n els) (hr : RdD C m' d v) : SlcRd C s n els v := by
  cases h with
  | dat n els s hel => exact slcRd_dat hr hel
  | nil s => exact .inl ⟨rfl, none, 0, hr⟩
  | own g ver lo len s frz nw xs h => exact slcRd_own hh ((hag g (by simp [refs0])).trans h) hr
theorem S_appendA {g ver len s by_ el : Nat} {agg n nw nf : Bool} {zs : List V} {xs els : List (List V)} [hu : SlcI P t el] [ht : TyI P el agg s by_ zs]
    (h1 : e x = .own g ver 0 len) (hmg : m.at g = .row ver false nw s xs) (h2 : AppD m (e y) s n els) (hlx : len = xs.length) (hel : ∀ e ∈ els, e.length = s ∧ ∀ d ∈ e, d.one = true) (hnf : nf = n ∨ ∀ e ∈ els, ∀ d ∈ e, Flat d) (hs : 0 < s)
    (hb : (len + els.length) * (by_ + 1) ≤ 140737488355328) :
    SStep P ⟨dst, .call { callee := .builtin .append, args := #[x, y], argTypes := #[t, t] }, ty, pos, af, gd⟩ e m (g :: refs0 (e y)) (.own g (ver + 1) 0 (len + els.length)) [(g, .row (ver + 1) false (nw && nf) s (xs ++ els))] := by
  intro C m' a next Q ha hm hx hn
  have g1 := hx x (by simp [Op.operands, Call.operands]); rw [h1] at g1
  have g2 := hx y (by simp [Op.operands, Call.operands])
  exact append_core hu ht hm g1 ((ha g (by simp)).trans hmg) (appD_rd hm (fun g' hg' => ha g' (.inl (List.mem_cons_of_mem _ hg'))) h2 g2) hlx hel hnf hs hb hn
def asVL (m : Mem) : List D → Option (Bool × List V)
  | [] => some (true, [])
  | d :: r => match asV m d, asVL m r with
    | some (n, x), some (n', xs) => some (n && n', x :: xs)
    | _, _ => none
theorem asVL_ok {C : Cf} {m m' : Mem} (hm : HoldsM C m') : ∀ (ds : List D) (n : Bool) (xs : List V), (∀ g, g ∈ ds.flatMap (refs m) → m'.at g = m.at g) → asVL m ds = some (n, xs) →
    xs.length = ds.length ∧ ∀ (j : Nat) (d : D) (x : V) (v : Value), ds[j]? = some d → xs[j]? = some x → RdD C m' d v → RdF C n x v
  | [], n, xs, _, h => by
    simp only [asVL, Option.some.injEq, Prod.mk.injEq] at h
    obtain ⟨rfl, rfl⟩ := h
    simp
  | d :: r, n, xs, ha, h => by
    simp only [asVL] at h
    cases h0 : asV m d with
    | none => simp [h0] at h
    | some p =>
      obtain ⟨n0, x0⟩ := p
      cases h1 : asVL m r with
      | none => simp [h0, h1] at h
      | some q =>
        obtain ⟨n1, x1⟩ := q
        simp only [h0, h1, Option.some.injEq, Prod.mk.injEq] at h
        obtain ⟨rfl, rfl⟩ := h
        obtain ⟨hl, ih⟩ := asVL_ok hm r n1 x1 (fun g hg => ha g (by simp [hg])) h1
        refine ⟨by simp [hl], fun j d' x v hd hx hr => ?_⟩
        cases j with
        | zero =>
          simp only [List.getElem?_cons_zero, Option.some.injEq] at hd hx
          subst hd; subst hx
          exact (asV_ok hm (fun g hg => ha g (by simp [hg])) h0 hr).and hm
        | succ j =>
          simp only [List.getElem?_cons_succ] at hd hx
          exact (ih j d' x v hd hx hr).and' hm
theorem S_makeFunc {f : FuncId} {n : Bool} {caps : Array Operand} {vs : List V} (h : asVL m (caps.toList.map e) = some (n, vs)) :
    SStep P ⟨dst, .makeFunc (.func f) #[] caps, ty, pos, af, gd⟩ e m ((caps.toList.map e).flatMap (refs m)) (.dat n (.fn f vs)) [] :=
  .pure fun C m' a ha hm hx => by
    obtain ⟨hl, hall⟩ := asVL_ok hm _ n vs (fun g hg => ha g hg) h
    refine ⟨.func (.func f) #[] (caps.map a.eval), by simp [execOp, Instr.makeFunc], Rd.fn f vs _ (by simp [hl]) (fun j d c h1 h2 => ?_)⟩
    simp only [Array.getElem?_map, Option.map_eq_some_iff] at h2
    obtain ⟨o, ho, rfl⟩ := h2
    have ho' : (caps.toList.map e)[j]? = some (e o) := by simp [ho]
    refine hall j (e o) d _ ho' h1 (hx o ?_)
    simp only [Op.operands]
    exact Array.mem_append.2 (.inr (Array.mem_of_getElem? ho))
theorem S_index_aggd {n' : Bool} {k : IntKind} {i : Int} {el by_ len : Nat} {zs : List V} {cs : List D} {d : D} [hu : ArrI P t len el] [ht : TyI P el false 1 by_ zs]
    (h1 : e x = .aggd cs) (h2 : e y = .dat n' (.int k i)) (hi : 0 ≤ i) (hc : i < len) (hr : cs[i.toNat]? = some d) :
    SStep P ⟨dst, .index t x y, ty, pos, af, gd⟩ e m [] d [] :=
  .pure fun C m' ac _ hh hx => by
    have g1 := hx x (by simp [Op.operands]); rw [h1] at g1
    have g2 := rd_int (by have := hx y (by simp [Op.operands]); rwa [h2] at this)
    obtain ⟨vs, hv, hl, hrd⟩ := g1
    have hlt : i.toNat < vs.size := by rw [hl]; exact (List.getElem?_eq_some_iff.1 hr).1
    have hg : vs[i.toNat]? = some vs[i.toNat] := Array.getElem?_eq_getElem hlt
    refine ⟨vs[i.toNat], ?_, (hrd _ _ _ hr hg).rd⟩
    have hp : (part el vs (i.toNat * 1)).run P C.w = .ok vs[i.toNat] C.w := by
      simp only [part, Sem.run_bind, run_isAgg ht, Result.andThen_ok, Bool.false_eq_true, if_false, Nat.mul_one, hg, Sem.run_pure]
    simp only [execOp, hv, g2, Instr.index, asIntOf, Sem.run_bind, Sem.run_pure, Result.andThen_ok, run_under hu.out]
    simp only [hi, hc, and_self, if_true, Sem.run_bind, run_size ht, Result.andThen_ok, hp]
theorem S_field_aggd {i off ft by_ : Nat} {zs : List V} {cs : List D} {d : D} [hf : FldI P t i off ft] [ht : TyI P ft false 1 by_ zs] (h : e x = .aggd cs) (hr : cs[off]? = some d) :
    SStep P ⟨dst, .field t x i, ty, pos, af, gd⟩ e m [] d [] :=
  .pure fun C m' ac _ _ hx => by
    have g1 := hx x (by simp [Op.operands]); rw [h] at g1
    obtain ⟨vs, hv, hl, hrd⟩ := g1
    obtain ⟨fs, f, h1, h2, rfl, rfl⟩ := hf.out
    have hlt : f.offset < vs.size := by rw [hl]; exact (List.getElem?_eq_some_iff.1 hr).1
    have hg : vs[f.offset]? = some vs[f.offset] := Array.getElem?_eq_getElem hlt
    refine ⟨vs[f.offset], ?_, (hrd _ _ _ hr hg).rd⟩
    have hp : (part f.type vs f.offset).run P C.w = .ok vs[f.offset] C.w := by
      simp only [part, Sem.run_bind, run_isAgg ht, Result.andThen_ok, Bool.false_eq_true, if_false, hg, Sem.run_pure]
    simp only [execOp, hv, Instr.field, Sem.run_bind, run_under h1, Result.andThen_ok, h2, asAgg, Sem.run_pure, hp]
theorem S_eqNilT {el : Nat} {yt : TypeId} [hu : SlcI P t el] (h : e x = .nil) :
    SStep P ⟨dst, .binOp .eql t x (.const (.slice none 0 0)) yt, ty, pos, af, gd⟩ e m [] (.dat true (.bool true)) [] :=
  .pure fun C m' ac _ _ hx => by
    have hv : ac.eval x = .slice none 0 0 := by have := hx x (by simp [Op.operands]); rwa [h] at this
    refine ⟨.bool true, ?_, mk_bool⟩
    have hq := run_equal_slice_nil (P := P) C.w t el none 0 0 hu.out
    have hb : binOp .eql t (.slice none 0 0) (.slice none 0 0) = (do pure (.bool (← Op.equal t (.slice none 0 0) (.slice none 0 0)))) := rfl
    have he : ac.eval (.const (.slice none 0 0)) = .slice none 0 0 := rfl
    simp [execOp, hv, he, eqGuard, hb, hq]
end
end Go.Proofs.Ytkppkgahdoglpaa
