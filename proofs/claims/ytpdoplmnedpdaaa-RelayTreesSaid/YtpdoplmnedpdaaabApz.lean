/- append onto an own row, of whatever source: of noughts ('append(x, make([]T, n)...)'). -/
import Derived.Test.YtpdoplmnedpdaaabMake
namespace Go.Proofs.Ytpdoplmnedpdaaa
open Go.RowKit

/-- append's two arms, of a source that hands over these cells. -/
def AppRun (P : Program) (w : World) (t t2 ty el : TypeId) (s by_ : Nat) (vy : Value) (k : Nat) (news : List Value) : Prop :=
  (∀ (b len cap : Nat) (arr : Array Value) (T : TypeId) (fz : Nat × Nat), len + k ≤ cap → w.heap[b]? = some (.cells arr T fz) → Loose s arr fz → len * s + k * s ≤ arr.size →
    ∃ w' arr', (Builtin.append_ #[t, t2] ty #[.slice (some ⟨b, 0, none⟩) len cap, vy]).run P w = .ok (.slice (some ⟨b, 0, none⟩) (len + k) cap) w' ∧ w'.heap[b]? = some (.cells arr' T fz) ∧ arr'.size = arr.size ∧
      (∀ j, arr'[j]? = if len * s ≤ j ∧ j < len * s + k * s then news[j - len * s]? else arr[j]?) ∧
      w'.os = w.os ∧ w'.tape = w.tape ∧ w'.output = w.output ∧ w'.heap.size = w.heap.size ∧ (∀ k, k ≠ b → w'.heap[k]? = w.heap[k]?)) ∧
  (∀ (ao : Option Nat) (len cap : Nat) (olds : List Value), (ao = none → len = 0 ∧ cap = 0) → olds.length = len * s → (∀ b, ao = some b → ∀ j u, olds[j]? = some u → w.cell? ⟨b, j, none⟩ = some u) →
    cap < len + k → len + k ≤ maxLen → (len + k) * by_ ≤ 140737488355328 →
    ∃ v' w' b' cap' cur, (Builtin.append_ #[t, t2] ty #[.slice (ao.map fun b => ⟨b, 0, none⟩) len cap, vy]).run P w = .ok v' w' ∧ v' = .slice (some ⟨b', 0, none⟩) (len + k) cap' ∧ w.heap.size ≤ b' ∧ Grew w w' ∧
      w'.heap[b']? = some (.cells cur el (0, 0)) ∧ len + k ≤ cap' ∧ cap' ≤ maxLen ∧ cur.size = cap' * s ∧ cur.toList.take ((len + k) * s) = olds ++ news)

theorem zeroCells_made (z : Array Value) (k : Nat) : Builtin.zeroCells z k = madeCells z (k * z.size) := rfl

section
variable {P : Program}
theorem appRun_zeros {w : World} {t tn ty el : TypeId} {agg : Bool} {s by_ : Nat} {zs : List V} {kn kv : IntKind} (hu : P.underlying t = some (.slice el)) (hn : P.underlying tn = some (.int kn)) (ht : TyI P el agg s by_ zs) (hs : 0 < s) {k : Nat} (hk : 0 < k)
    (hkb : k * (by_ + 1) ≤ 140737488355328) :
    AppRun P w t tn ty el s by_ (.int kv k) k (Builtin.zeroCells (zval agg zs).cells k).toList := by
  obtain ⟨i, hi, hsz, hbt, hz⟩ := ht.info
  have hzs : (zval agg zs).cells.size = s := by rw [zcells ht]; simp [ht.zl]
  have hk1 : k ≤ 140737488355328 := by
    have : k * 1 ≤ k * (by_ + 1) := Nat.mul_le_mul_left _ (by omega)
    omega
  have hk2 : k * by_ ≤ 140737488355328 := Nat.le_trans (Nat.mul_le_mul_left _ (Nat.le_succ _)) hkb
  have hw : IntKind.i64.wrap (k : Int) = k := by rw [IntKind.wrap_i64]; omega
  have hneg : ¬ ((k : Int) < 0) := by omega
  have hns : ¬ (k * i.size = 0) := Nat.mul_ne_zero (by omega) (by omega)
  have hns' : ¬ (k * s = 0) := by rw [← hsz]; exact hns
  have h48i : ¬ (281474976710656 < (k : Int) * (i.bytes : Int)) := by
    rw [← Int.natCast_mul, hbt]
    omega
  have hlen : (Builtin.zeroCells (zval agg zs).cells k).toList.length = k * s := by rw [Array.length_toList, size_zeroCells, hzs]
  have hone : ∀ u ∈ (Builtin.zeroCells (zval agg zs).cells k).toList, u.oneCell' = true := fun u hu' => by
    obtain ⟨j, hj⟩ := List.getElem?_of_mem hu'
    rw [Array.getElem?_toList, zeroCells_made, hzs] at hj
    have hlt : j < k * s := by
      have := (Array.getElem?_eq_some_iff.1 hj).1
      rwa [size_madeCells] at this
    rw [madeCells_get hlt, zcells ht] at hj
    simp only [List.size_toArray, List.length_map, ht.zl, Option.some.injEq] at hj
    have hm : j % s < zs.length := by rw [ht.zl]; exact Nat.mod_lt _ hs
    have hzc := ht.zc
    rw [List.all_eq_true] at hzc
    rw [← hj]
    have : (zs.map V.val).toArray[j % s]! = (zs[j % s]).val := by simp [hm]
    rw [this]
    have hc := hzc zs[j % s] (List.getElem_mem hm)
    cases h : zs[j % s] <;> rw [h] at hc <;> first | rfl | cases hc
  refine ⟨fun b len cap arr T fz hle hb hlo hsz2 => ?_, fun ao len cap olds hnone hol holds hg h63 hby => ?_⟩
  · obtain ⟨w', arr', hr, q1, q2, q3, q4⟩ := run_storeCells (P := P) b T fz (Builtin.zeroCells (zval agg zs).cells k).toList 0 (len * s) w arr hb hlo (by rw [hlen]; omega) hone
    refine ⟨w', arr', ?_, q1, q2, fun j => ?_, q4⟩
    · have e : (⟨b, 0, none⟩ : Addr).add (len * s) = ⟨b, len * s, none⟩ := by rw [aadd, Nat.zero_add]
      have hr' : (storeCells ⟨b, len * s, none⟩ (Builtin.zeroCells (zval agg zs).cells k).toList).run P w = .ok () w' := hr
      simp [Builtin.append_, run_under hu, run_under hn, sizeOf, typeInfo, zeroValue, hi, hz, asInt, asIntOf, hw, hneg, h48i, hle, hsz, e, hr']
      exact fun h0 => absurd h0 hns'
    · rw [q3 j, hlen]; simp
  · have hn' : ¬ (len + k ≤ cap) := by omega
    have h63' : ¬ (9223372036854775807 < ((len : Int) + (k : Int))) := by simp only [maxLen] at h63; omega
    have h48' : ¬ (281474976710656 < Builtin.nextslicecap (len + k) cap * i.bytes) := by
      have := growslice_fits hg hby
      rw [hbt]; omega
    have hfo : ∀ w2 : World, w2.heap = w.heap → (Builtin.firstCells i.size len (.slice (ao.map fun b => (⟨b, 0, none⟩ : Addr)) len cap)).run P w2 = .ok olds.toArray w2 := fun w2 hw2 => by
      cases ao with
      | none =>
        obtain ⟨rfl, rfl⟩ := hnone rfl
        obtain rfl : olds = [] := by cases olds with | nil => rfl | cons _ _ => simp at hol
        exact run_firstCells_none _ _ _ _ _
      | some b => exact run_firstCells_some (P := P) w2 i.size len ⟨b, 0, none⟩ len cap olds (by rw [hsz]; exact hol) (fun j u hj => by
          rw [aadd, Nat.zero_add]
          have := holds b rfl j u hj
          simpa [World.cell?, hw2] using this)
    have hge := grownCap_ge w (len + k) cap el
    have hcm := grownCap_le_maxLen w (len + k) cap el h63
    refine ⟨_, w.drew.alloc (.cells (olds.toArray ++ Builtin.zeroCells (zval agg zs).cells k ++ Builtin.zeroCells (zval agg zs).cells (grownCap w (len + k) cap el - (len + k))) el), w.heap.size, grownCap w (len + k) cap el, _, ?_, rfl, Nat.le_refl _, ?_, heap_alloc_new w.drew _, hge, hcm, ?_, ?_⟩
    · have := hfo w.drew rfl
      simp [Builtin.append_, run_under hu, run_under hn, sizeOf, typeInfo, zeroValue, hi, hz, asInt, asIntOf, hw, hneg, hns, h48i, hn', h63', h48', Question.forced, this, newRow, grownCap]
    · exact ⟨rfl, rfl, rfl, by simp, fun k hk => heap_alloc_old w.drew _ k hk⟩
    · simp only [Array.size_append, List.size_toArray, size_zeroCells, hzs, hol, ← Nat.add_mul]
      congr 1
      omega
    · rw [Array.toList_append, Array.toList_append]
      have : (olds ++ (Builtin.zeroCells (zval agg zs).cells k).toList).length = (len + k) * s := by rw [List.length_append, hol, hlen, Nat.add_mul]
      rw [← this]
      exact List.take_left
end

section
variable {P : Program} {e : Operand → D} {m : Mem} {dst : Option Tmp} {ty : TypeId} {pos : String} {af : Array Edge} {gd : Option (Nat × Bool)} {x y : Operand} {t t2 : TypeId}
/-- append of some cells, at values. -/
theorem append_coreY {g ver len s by_ el : Nat} {nw nf : Bool} {xs els : List (List V)} {C : Cf} {m' : Mem} {a : Act} {next : Act → World → Prop} {Q : Exit → Act → World → Prop}
    (hm : HoldsM C m') (g1 : RdD C m' (.own g ver 0 len) (a.eval x)) (hmg' : m'.at g = .row ver false nw s xs) {news : List Value} (hrun : AppRun P C.w t t2 ty el s by_ (a.eval y) els.length news) (hnl : news.length = els.length * s)
    (hnew : ∀ (i j : Nat) (e : List V) d c, els[i]? = some e → e[j]? = some d → news[i * s + j]? = some c → RdF C nf d c) (hlx : len = xs.length) (hel : ∀ e ∈ els, e.length = s ∧ ∀ d ∈ e, d.one = true)
    (h0 : els ≠ []) (hb : (len + els.length) * (by_ + 1) ≤ 140737488355328)
    (hn : ∀ v C', Step C m' C' ((g, .row (ver + 1) false (nw && nf) s (xs ++ els)) :: m') → RdD C' ((g, .row (ver + 1) false (nw && nf) s (xs ++ els)) :: m') (.own g (ver + 1) 0 (len + els.length)) v → next (a.put dst v) C'.w) :
    Oper.wp P ⟨dst, .call { callee := .builtin .append, args := #[x, y], argTypes := #[t, t2] }, ty, pos, af, gd⟩ a C.w next Q := by
  obtain ⟨hR, hG⟩ := hrun
  obtain ⟨ver', frz', nw', sz', xs', hat, _, _, hv0⟩ := g1
  rw [hmg'] at hat
  injection hat with e1 e2 e3 e4 e5
  subst e1 e2 e3 e4 e5
  obtain ⟨hlen, hv⟩ := hv0 rfl
  clear hv0
  have hb1 : (len + els.length) * by_ ≤ 140737488355328 := Nat.le_trans (Nat.mul_le_mul_left _ (Nat.le_succ _)) hb
  have hb2 : len + els.length ≤ 140737488355328 := by
    have : (len + els.length) * 1 ≤ (len + els.length) * (by_ + 1) := Nat.mul_le_mul_left _ (by omega)
    omega
  have hexec : ∀ {v : Value} {w' : World}, (Builtin.append_ #[t, t2] ty #[a.eval x, a.eval y]).run P C.w = .ok v w' →
      (execOp a.eval ⟨dst, .call { callee := .builtin .append, args := #[x, y], argTypes := #[t, t2] }, ty, pos, af, gd⟩).run P C.w = .ok (.value v) w' := fun h => by
    simp [execOp, resolve, invoke, builtin, h]
  have hbox := hm.box g
  rw [hmg'] at hbox
  have hmpos : 0 < els.length := List.length_pos_iff.2 h0
  have hel' : ∀ (i : Nat) (e : List V), els[i]? = some e → e.length = s := fun i e h => (hel e (List.mem_of_getElem? h)).1
  have honeV : ∀ (i j : Nat) (e : List V) (d : V), els[i]? = some e → e[j]? = some d → d.one = true := fun i j e d q1 q2 => (hel e (List.mem_of_getElem? q1)).2 d (List.mem_of_getElem? q2)
  have happ : ∀ {Z : Type} (f : List V → Prop), (∀ (i : Nat) e, xs[i]? = some e → f e) → (∀ (i : Nat) e, els[i]? = some e → f e) → ∀ (i : Nat) e, (xs ++ els)[i]? = some e → f e := fun {Z} f h1 h2 i e h => by
    by_cases hi : i < xs.length
    · rw [List.getElem?_append_left hi] at h; exact h1 i e h
    · rw [List.getElem?_append_right (by omega)] at h; exact h2 _ e h
  -- the row that results, wherever it lies
  have hdone : ∀ (C' : Cf) (b' : Nat) (arr A : Array Value) (T : TypeId) (fz : Nat × Nat), C'.w.heap[b']? = some (.cells A T fz) → Loose s A fz → (len + els.length) * s ≤ A.size →
      (∀ n x v, RdF C n x v → RdF C' n x v) → (∀ (i j : Nat) (e : List V) d c, xs[i]? = some e → e[j]? = some d → arr[i * s + j]? = some c → RdF C nw d c) → (∀ (i : Nat) (e : List V), xs[i]? = some e → e.length = s) →
      (∀ (i j : Nat) (e : List V) (d : V), xs[i]? = some e → e[j]? = some d → d.one = true) → (∀ k, k < len * s → A[k]? = arr[k]?) → (∀ q, q < els.length * s → A[len * s + q]? = news[q]?) → RowAt C' b' false (nw && nf) s (xs ++ els) := by
    intro C' b' arr A T fz q1 q2 q3 q4 q5 q6 q7 q8 q9
    refine ⟨A, T, fz, q1, q2, by rw [List.length_append, ← hlx]; exact q3, happ (Z := Unit) (fun e => e.length = s) q6 hel', fun i j e d k1 k2 => ?_, row_join hm hlx q5 hnew q6 hel' q8 q9 q4, fun h => by cases h⟩
    exact happ (Z := Unit) (fun e => ∀ (j : Nat) d, e[j]? = some d → d.one = true) (fun i e h j d h2 => q7 i j e d h h2) (fun i e h j d h2 => honeV i j e d h h2) i e k1 j d k2
  have hmove : ∀ {ao : Option Nat} {cap : Nat} {olds : List Value} {arr : Array Value}, a.eval x = .slice (ao.map fun b => ⟨b, 0, none⟩) len cap → (ao = none → len = 0 ∧ cap = 0) → olds.length = len * s →
      (∀ b, ao = some b → ∀ j u, olds[j]? = some u → C.w.cell? ⟨b, j, none⟩ = some u) → (∀ k, k < len * s → olds[k]? = arr[k]?) → cap < len + els.length →
      (∀ (i j : Nat) (e : List V) d c, xs[i]? = some e → e[j]? = some d → arr[i * s + j]? = some c → RdF C nw d c) → (∀ (i : Nat) (e : List V), xs[i]? = some e → e.length = s) →
      (∀ (i j : Nat) (e : List V) (d : V), xs[i]? = some e → e[j]? = some d → d.one = true) →
      Oper.wp P ⟨dst, .call { callee := .builtin .append, args := #[x, y], argTypes := #[t, t2] }, ty, pos, af, gd⟩ a C.w next Q := by
    intro ao cap olds arr hv hnone hol holds hoa hg q5 q6 q7
    obtain ⟨v', w', b', cap', cur, r1, r2, r3, r4, r5, r6, r7, r8, r9⟩ := hG ao len cap olds hnone hol holds hg (by unfold maxLen; omega) hb1
    have hcs : (len + els.length) * s ≤ cur.size := by rw [r8]; exact Nat.mul_le_mul_right _ r6
    have hcur : ∀ k, k < (len + els.length) * s → cur[k]? = (olds ++ news)[k]? := fun k hk => by
      rw [← r9, List.getElem?_take, if_pos hk, Array.getElem?_toList]
    have hst : Step C m' (C.set g (some b') w') ((g, .row (ver + 1) false (nw && nf) s (xs ++ els)) :: m') := by
      refine Step.move hm hmg' r4 r3 ⟨_, _, _, rfl⟩ (fun hd => ?_)
      refine hdone _ b' arr cur el (0, 0) r5 (loose0 _) hcs hd q5 q6 q7 (fun k hk => ?_) (fun q hq => ?_)
      · rw [hcur k (by rw [Nat.add_mul]; omega), List.getElem?_append_left (by omega), hoa k hk]
      · rw [hcur _ (by rw [Nat.add_mul]; omega), List.getElem?_append_right (by omega), hol]
        congr 1; omega
    refine wp_of_value (w' := w') (hexec (by rw [hv]; exact r1)) (hn v' (C.set g (some b') w') hst ?_)
    refine ⟨ver + 1, false, nw && nf, s, xs ++ els, Mem.at_cons_same _ _ _, Nat.le_refl _, ⟨_, _, _, r2⟩, fun _ => ⟨by rw [List.length_append]; omega, ?_⟩⟩
    rw [Cf.set_same]
    refine ⟨cap', cur, el, (0, 0), by rw [Nat.zero_mul]; exact r2, r5, by rw [r8]; simp, r6, r7⟩
  cases hi : C.ι g with
  | none =>
    rw [hi] at hv hbox
    obtain ⟨hv, _, hl0⟩ := hv
    have hx0 : xs = [] := hbox
    refine hmove (ao := none) (cap := 0) (olds := []) (arr := #[]) (by rw [hv, hl0]; rfl) (fun _ => ⟨hl0, rfl⟩) (by simp [hl0]) (fun b hb => by cases hb) (fun k hk => by simp [hl0] at hk) (by omega) ?_ ?_ ?_
    · intro i j e d c h; simp [hx0] at h
    · intro i e h; simp [hx0] at h
    · intro i j e d h; simp [hx0] at h
  | some b =>
    rw [hi] at hv hbox
    obtain ⟨cap, arr, T, fz, hv, hh, hle, hlc, hcm⟩ := hv
    obtain ⟨arr', T', fz', k1, k2, k3, k4, k5, k6, _⟩ := hbox
    rw [hh] at k1
    injection k1 with k1
    injection k1 with k1 k1' k1''
    subst k1 k1' k1''
    rw [Nat.zero_mul] at hv
    rw [Nat.zero_add] at hle
    by_cases hr : len + els.length ≤ cap
    · have hls : len * s + els.length * s ≤ arr.size := by
        rw [← Nat.add_mul]; exact Nat.le_trans (Nat.mul_le_mul_right _ hr) hle
      obtain ⟨w', A, r1, r2, r3, r4, r5, r6, r7, r8, r9⟩ := hR b len cap arr T fz hr hh k2 hls
      have hst : Step C m' { C with w := w' } ((g, .row (ver + 1) false (nw && nf) s (xs ++ els)) :: m') := by
        refine Step.write hm (by rw [hmg']; rfl) hi r5 r6 r7 r8 r9 ?_ ?_ ?_ ?_ (fun hd _ => ?_)
        · rintro v0 lo0 len0 u ⟨ver', _, _, _, _, hat, hle, ha, _⟩
          rw [hmg'] at hat
          injection hat with e1
          subst e1
          exact ⟨ver + 1, false, nw && nf, s, xs ++ els, Mem.at_cons_same _ _ _, by omega, ha, fun e => by omega⟩
        · rintro off v ⟨_, _, _, _, hat, _⟩; rw [hmg'] at hat; cases hat
        · rintro v i0 off0 u ⟨ver', _, _, _, _, hat, hle, ha, _⟩
          rw [hmg'] at hat
          injection hat with e1
          subst e1
          exact ⟨ver + 1, false, nw && nf, s, xs ++ els, Mem.at_cons_same _ _ _, by omega, ha, fun e => by omega⟩
        · rintro v ⟨_, _, _, _, hat, _⟩; rw [hmg'] at hat; cases hat
        · refine hdone _ b arr A T fz r2 (⟨fun i hi => k2.1 i (by omega), k2.2⟩) (by rw [r3, Nat.add_mul]; exact hls) hd k6 k4 k5 (fun k hk => ?_) (fun q hq => ?_)
          · rw [r4 k, if_neg (by omega)]
          · rw [r4 _, if_pos (by omega)]
            congr 1; omega
      refine wp_of_value (w' := w') (hexec (by rw [hv]; exact r1)) (hn _ { C with w := w' } hst ?_)
      refine ⟨ver + 1, false, nw && nf, s, xs ++ els, Mem.at_cons_same _ _ _, Nat.le_refl _, ⟨_, _, _, rfl⟩, fun _ => ⟨by rw [List.length_append]; omega, ?_⟩⟩
      show OwnV w' s (C.ι g) 0 (len + els.length) _
      rw [hi]
      exact ⟨cap, A, T, fz, by rw [Nat.zero_mul], r2, by rw [r3, Nat.zero_add]; exact hle, hr, hcm⟩
    · refine hmove (ao := some b) (cap := cap) (olds := arr.toList.take (len * s)) (arr := arr) hv (fun h => by cases h) ?_ ?_ ?_ (by omega) k6 k4 k5
      · rw [List.length_take, Array.length_toList]
        have : len * s ≤ cap * s := Nat.mul_le_mul_right _ hlc
        omega
      · intro b0 hb0 j u hj
        injection hb0 with hb0
        subst hb0
        rw [List.getElem?_take] at hj
        split at hj
        · rw [cell_of_arr hh]; simpa using hj
        · cases hj
      · intro k hk
        rw [List.getElem?_take, if_pos hk, Array.getElem?_toList]

/-- append(x, make([]T, n)...), onto an own row. -/
theorem S_appZ {g ver len s by_ el : Nat} {agg n nw : Bool} {kv kn : IntKind} {zs : List V} {xs : List (List V)} {i : Int} (k : Nat) [hu : SlcI P t el] [hti : IntI P t2 kn] [ht : TyI P el agg s by_ zs]
    (h1 : e x = .own g ver 0 len) (hmg : m.at g = .row ver false nw s xs) (h2 : e y = .dat n (.int kv i)) (hik : i = (k : Int)) (hlx : len = xs.length) (hs : 0 < s) (hb : (len + k) * (by_ + 1) ≤ 140737488355328) :
    SStep P ⟨dst, .call { callee := .builtin .append, args := #[x, y], argTypes := #[t, t2] }, ty, pos, af, gd⟩ e m [g] (.own g (ver + 1) 0 (len + k)) [(g, .row (ver + 1) false nw s (xs ++ List.replicate k zs))] := by
  intro C m' a next Q ha hm hx hn
  have g1 := hx x (by simp [Op.operands, Call.operands]); rw [h1] at g1
  have g2 := rd_int (by have := hx y (by simp [Op.operands, Call.operands]); rwa [h2] at this)
  have hmg' : m'.at g = .row ver false nw s xs := (ha g (by simp)).trans hmg
  have hzc := ht.zc
  rw [List.all_eq_true] at hzc
  have hk2 : k * (by_ + 1) ≤ 140737488355328 := Nat.le_trans (Nat.mul_le_mul_right _ (Nat.le_add_left _ _)) hb
  have hzs : (zval agg zs).cells.size = s := by rw [zcells ht]; simp [ht.zl]
  have hrep : ∀ (i : Nat) (e : List V), (List.replicate k zs)[i]? = some e → i < k ∧ e = zs := fun i e h => by
    rw [List.getElem?_replicate] at h
    split at h
    · injection h with h; exact ⟨by assumption, h.symm⟩
    · cases h
  by_cases hk : k = 0
  · subst hk
    obtain ⟨ver', frz', nw', sz', xs', hat, _, _, hv0⟩ := g1
    rw [hmg'] at hat
    injection hat with e1 e2 e3 e4 e5
    subst e1 e2 e3 e4 e5
    obtain ⟨hlen, hv⟩ := hv0 rfl
    obtain ⟨ti, hi, hsz, hbt, hz⟩ := ht.info
    have hw : IntKind.i64.wrap (0 : Int) = 0 := by rw [IntKind.wrap_i64]; omega
    have h1' : ∀ {ao : Option Addr} {c l : Nat}, l ≤ c → (Builtin.append_ #[t, t2] ty #[.slice ao l c, .int kv 0]).run P C.w = .ok (.slice ao l c) C.w := fun {ao c l} hle => by
      cases ao <;> simp [Builtin.append_, run_under hu.out, run_under hti.out, sizeOf, typeInfo, hi, asInt, asIntOf, hw, hle, storeCells]
    have hrun : (Builtin.append_ #[t, t2] ty #[a.eval x, a.eval y]).run P C.w = .ok (a.eval x) C.w := by
      rw [g2, hik]
      cases hi : C.ι g with
      | none =>
        rw [hi] at hv
        obtain ⟨hv, _, rfl⟩ := hv
        rw [hv]
        exact h1' (Nat.le_refl _)
      | some b =>
        rw [hi] at hv
        obtain ⟨cap, arr, T, fz, hv, _, _, hle, _⟩ := hv
        rw [hv]
        exact h1' hle
    have hexec : (execOp a.eval ⟨dst, .call { callee := .builtin .append, args := #[x, y], argTypes := #[t, t2] }, ty, pos, af, gd⟩).run P C.w = .ok (.value (a.eval x)) C.w := by
      simp [execOp, resolve, invoke, builtin, hrun]
    have hst := Step.bump (nw' := nw) hm hmg' (.inl rfl)
    refine wp_of_value hexec (hn _ C (by simpa using hst) ?_)
    refine ⟨ver + 1, false, nw, s, xs, ?_, Nat.le_refl _, ?_, fun _ => ⟨by simp; omega, ?_⟩⟩
    · simp [Mem.at_cons_same]
    · cases hi : C.ι g with
      | none => rw [hi] at hv; exact ⟨_, _, _, hv.1⟩
      | some b => rw [hi] at hv; obtain ⟨_, _, _, _, hv, _⟩ := hv; exact ⟨_, _, _, hv⟩
    · simpa using hv
  · have hr := appRun_zeros (P := P) (w := C.w) (t := t) (tn := t2) (ty := ty) (kv := kv) hu.out hti.out ht hs (k := k) (by omega) hk2
    have hl : (Builtin.zeroCells (zval agg zs).cells k).toList.length = (List.replicate k zs).length * s := by rw [Array.length_toList, size_zeroCells, hzs, List.length_replicate]
    have hrl : (List.replicate k zs).length = k := List.length_replicate
    have := append_coreY (P := P) (t := t) (t2 := t2) (ty := ty) (el := el) (by_ := by_) (nf := true) (els := List.replicate k zs) (dst := dst) (pos := pos) (af := af) (gd := gd) (next := next) (Q := Q) (y := y) hm g1 hmg' (news := (Builtin.zeroCells (zval agg zs).cells k).toList)
      (by rw [g2, hik, hrl]; exact hr) hl
      (fun i j e d c q1 q2 q3 => by
        obtain ⟨hil, he⟩ := hrep i e q1
        rw [he] at q2
        have hj : j < s := by rw [← ht.zl]; exact (List.getElem?_eq_some_iff.1 q2).1
        rw [Array.getElem?_toList, zeroCells_made, hzs, madeCells_get (idx_lt hil hj), zcells ht] at q3
        simp only [List.size_toArray, List.length_map, ht.zl, idx_mod hj, Option.some.injEq] at q3
        rw [← q3]
        have : (zs.map V.val).toArray[j]! = d.val := by
          obtain ⟨hj', he'⟩ := List.getElem?_eq_some_iff.1 q2
          simp [q2]
        rw [this]
        exact val_rd (hzc d (List.mem_of_getElem? q2))) hlx
      (fun e he => by
        obtain rfl := List.eq_of_mem_replicate he
        exact ⟨ht.zl, fun d hd => isC_one (hzc d hd)⟩) (fun h => by
        have := congrArg List.length h
        rw [hrl] at this
        exact hk this) (by rw [hrl]; exact hb)
    rw [hrl, Bool.and_true] at this
    exact this hn
end
end Go.Proofs.Ytpdoplmnedpdaaa
