/- clear of a slice of an own row; a prefix of such a row that is handed back, as data. -/
import Derived.Test.YtpdoplmnedpdaaabApz
namespace Go.Proofs.Ytpdoplmnedpdaaa
open Go.RowKit
section
variable {P : Program} {e : Operand → D} {m : Mem} {ty : TypeId} {pos : String} {af : Array Edge} {gd : Option (Nat × Bool)} {x : Operand} {t : TypeId}
theorem S_clear {g ver lo len s by_ el : Nat} {agg nw : Bool} {zs : List V} {xs : List (List V)} [hu : SlcI P t el] [ht : TyI P el agg s by_ zs] (h1 : e x = .own g ver lo len) (hmg : m.at g = .row ver false nw s xs) (h0 : 0 < len) (hs : 0 < s) :
    SStep P ⟨none, .call { callee := .builtin .clear, args := #[x], argTypes := #[t] }, ty, pos, af, gd⟩ e m [g] .any [(g, .row ver false nw s (xs.take lo ++ List.replicate len zs ++ xs.drop (lo + len)))] := by
  intro C m' a next Q ha hm hx hn
  have g1 := hx x (by simp [Op.operands, Call.operands]); rw [h1] at g1
  have hmg' : m'.at g = .row ver false nw s xs := (ha g (by simp)).trans hmg
  obtain ⟨ver', frz', nw', sz', xs', hat, _, _, hv0⟩ := g1
  rw [hmg'] at hat
  injection hat with e1 e2 e3 e4 e5
  subst e1 e2 e3 e4 e5
  obtain ⟨hlen, hv⟩ := hv0 rfl
  have hbox := hm.box g
  rw [hmg'] at hbox
  cases hi : C.ι g with
  | none =>
    rw [hi] at hv
    obtain ⟨_, _, hl0⟩ := hv
    omega
  | some b =>
    rw [hi] at hv hbox
    obtain ⟨cap, arr, T, fz, hv, hh, hle, hlc, hcm⟩ := hv
    obtain ⟨arr2, T2, fz2, k1, k2, k3, k4, k5, k6, _⟩ := hbox
    rw [hh] at k1
    injection k1 with k1
    injection k1 with p1 p2 p3
    subst p1 p2 p3
    obtain ⟨i, hti, hsz, hbt, hz⟩ := ht.info
    have hzs : (zval agg zs).cells.size = s := by rw [zcells ht]; simp [ht.zl]
    have hzc := ht.zc
    rw [List.all_eq_true] at hzc
    have hzl := ht.zl
    have hlen2 : (Builtin.zeroCells (zval agg zs).cells len).toList.length = len * s := by rw [Array.length_toList, size_zeroCells, hzs]
    have hget : ∀ q, q < len * s → (Builtin.zeroCells (zval agg zs).cells len).toList[q]? = some ((zs.map V.val).toArray[q % s]!) := fun q hq => by
      rw [Array.getElem?_toList, zeroCells_made, hzs, madeCells_get hq, hzs, zcells ht]
    have hval : ∀ j (d : V), zs[j]? = some d → (zs.map V.val).toArray[j]! = d.val := fun j d hd => by
      obtain ⟨hj, rfl⟩ := List.getElem?_eq_some_iff.1 hd
      rw [getElem!_pos (zs.map V.val).toArray j (by simpa using hj)]
      simp
    have hone : ∀ u ∈ (Builtin.zeroCells (zval agg zs).cells len).toList, u.oneCell' = true := fun u hu' => by
      obtain ⟨j, hj⟩ := List.getElem?_of_mem hu'
      have hlt : j < len * s := by rw [← hlen2]; exact (List.getElem?_eq_some_iff.1 hj).1
      rw [hget j hlt] at hj
      injection hj with hj
      have hm : j % s < zs.length := by rw [hzl]; exact Nat.mod_lt _ hs
      rw [hval _ _ (List.getElem?_eq_getElem hm)] at hj
      rw [← hj]
      have hc := hzc zs[j % s] (List.getElem_mem hm)
      cases h : zs[j % s] <;> rw [h] at hc <;> first | rfl | cases hc
    have hfit : lo * s + len * s ≤ arr.size := by
      rw [← Nat.add_mul]
      exact Nat.le_trans (Nat.mul_le_mul_right _ (by omega)) hle
    obtain ⟨w', A, r1, r2, r3, r4, r5, r6, r7, r8, r9⟩ := run_storeCells (P := P) b T fz (Builtin.zeroCells (zval agg zs).cells len).toList 0 (lo * s) C.w arr hh k2 (by rw [hlen2]; omega) hone
    have hexec : (execOp a.eval ⟨none, .call { callee := .builtin .clear, args := #[x], argTypes := #[t] }, ty, pos, af, gd⟩).run P C.w = .ok (.value (.tuple #[])) w' := by
      obtain ⟨n0, rfl⟩ : ∃ n0, len = n0 + 1 := ⟨len - 1, by omega⟩
      have r1' : (storeCells ⟨b, lo * s, none⟩ (Builtin.zeroCells (zval agg zs).cells (n0 + 1)).toList).run P C.w = .ok () w' := r1
      have hrun : (Builtin.clear_ #[t] ty #[.slice (some ⟨b, lo * s, none⟩) (n0 + 1) cap]).run P C.w = .ok (.tuple #[]) w' := by
        simp [Builtin.clear_, run_under hu.out, zeroValue, typeInfo, hti, hz, r1']
      simp [execOp, resolve, invoke, builtin, hv, hrun]
    have hrep : ∀ (q : Nat) (e : List V), (List.replicate len zs)[q]? = some e → q < len ∧ e = zs := fun q e h => by
      rw [List.getElem?_replicate] at h
      split at h
      · injection h with h; exact ⟨by assumption, h.symm⟩
      · cases h
    have hnx : ∀ k, (xs.take lo ++ List.replicate len zs ++ xs.drop (lo + len))[k]? = if k < lo then xs[k]? else if k < lo + len then some zs else xs[k]? := fun k => by
      have htl : (xs.take lo).length = lo := by rw [List.length_take]; omega
      rw [List.append_assoc]
      by_cases q1 : k < lo
      · rw [if_pos q1, List.getElem?_append_left (by omega), List.getElem?_take, if_pos q1]
      · rw [if_neg q1, List.getElem?_append_right (by omega), htl]
        by_cases q2 : k < lo + len
        · rw [if_pos q2, List.getElem?_append_left (by simp; omega), List.getElem?_replicate, if_pos (by omega)]
        · rw [if_neg q2, List.getElem?_append_right (by simp; omega), List.length_replicate, List.getElem?_drop]
          congr 1; omega
    have hnl : (xs.take lo ++ List.replicate len zs ++ xs.drop (lo + len)).length = xs.length := by simp; omega
    have hst := row_write (nw' := nw) (w' := w') (arr' := A) hm hmg' hi hnl hh r2 r3 r5 r6 r7 r8 r9 (fun hd => by
      refine ⟨A, T, fz, r2, ⟨fun j hj => k2.1 j (by omega), k2.2⟩, by rw [hnl, r3]; exact k3, fun k e' h => ?_, fun k j e' d h h2 => ?_, fun k j e' d c h h2 h3 => hd _ _ _ ?_, fun h => by cases h⟩
      · rw [hnx] at h
        split at h
        · exact k4 k e' h
        · split at h
          · injection h with h; rw [← h]; exact hzl
          · exact k4 k e' h
      · rw [hnx] at h
        split at h
        · exact k5 k j e' d h h2
        · split at h
          · injection h with h; rw [← h] at h2; exact isC_one (hzc d (List.mem_of_getElem? h2))
          · exact k5 k j e' d h h2
      · have hj : j < s := by
          have h4 : e'.length = s := by
            rw [hnx] at h
            split at h
            · exact k4 k e' h
            · split at h
              · injection h with h; rw [← h]; exact hzl
              · exact k4 k e' h
          rw [← h4]; exact (List.getElem?_eq_some_iff.1 h2).1
        rw [r4, hlen2] at h3
        simp only [Nat.add_zero] at h3
        rw [hnx] at h
        by_cases q1 : k < lo
        · rw [if_pos q1] at h
          have : (k + 1) * s ≤ lo * s := Nat.mul_le_mul_right _ q1
          rw [Nat.add_mul, Nat.one_mul] at this
          rw [if_neg (by omega)] at h3
          exact k6 k j e' d c h h2 h3
        · rw [if_neg q1] at h
          by_cases q2 : k < lo + len
          · rw [if_pos q2] at h
            injection h with h
            subst h
            obtain ⟨p, rfl⟩ : ∃ p, k = lo + p := ⟨k - lo, by omega⟩
            have hin : p * s + j < len * s := idx_lt (by omega) hj
            rw [Nat.add_mul, Nat.add_assoc] at h3
            rw [if_pos (by omega), show lo * s + (p * s + j) - lo * s = p * s + j by omega, hget _ hin, idx_mod hj, hval j d h2] at h3
            injection h3 with h3
            rw [← h3]
            exact val_rd (hzc d (List.mem_of_getElem? h2))
          · rw [if_neg q2] at h
            have : (lo + len) * s ≤ k * s := Nat.mul_le_mul_right _ (by omega)
            rw [Nat.add_mul] at this
            rw [if_neg (by omega)] at h3
            exact k6 k j e' d c h h2 h3)
    exact wp_of_value hexec (hn _ _ hst trivial)
end
/-- The first elements of a row that is handed back alone, as data. -/
theorem fnF_ownT {P : Program} {f : FuncId} {ds : List V} {sz len : Nat} {xs : List (List V)} (h : FnG P f (ds.map (.dat false)) [] (.own 1000 0 0 len) [(1000, .row 0 false true sz xs)]) : FnF P f ds (.slice (xs.take len)) := by
  refine ⟨h.1, fun S w vs hS hr => ?_⟩
  have hc := h.2 ⟨fun _ => none, S, fun _ => False, w⟩ vs
    ⟨fun g => trivial, fun g g' b (h : Box.gone ≠ Box.gone) => absurd rfl h, fun g b (h : false = true) => by (cases h), hS, fun b (h : False) => h.elim⟩ (by simp [hr.1])
    (fun j d v h1 h2 => by
      rw [List.getElem?_map] at h1
      cases hd : ds[j]? with
      | none => rw [hd] at h1; cases h1
      | some x =>
        rw [hd] at h1
        injection h1 with h1
        subst h1
        exact hr.2 j x v hd h2)
  refine Calls.mono hc ?_
  rintro e w' ⟨v, C', rfl, rfl, hx, hm, hv⟩
  have hz : Env.at [(0, D.own 1000 0 0 len)] 0 = .own 1000 0 0 len := look_same _ _ _ _
  obtain ⟨C1, e1, h1, x1⟩ := Wk_freeze (env := [(0, .own 1000 0 0 len)]) (mem := [(1000, .row 0 false true sz xs)]) (n := 1) 1000 (fun kt et es h => by rw [Mem.at_cons_same] at h; cases h) C' ⟨#[v], []⟩
    ⟨hm, rfl, rfl, fun t => by
      match t with
      | 0 => rw [show (St.mk [(0, D.own 1000 0 0 len)] [(1000, Box.row 0 false true sz xs)] 1).env = [(0, D.own 1000 0 0 len)] from rfl, hz]; exact hv
      | t + 1 => exact trivial⟩
  have hv1 := h1.env 0
  rw [show (St.mk [(0, D.own 1000 0 0 len)] ((1000, frzBox (Mem.at [(1000, Box.row 0 false true sz xs)] 1000)) :: [(1000, Box.row 0 false true sz xs)]) 1).env = [(0, D.own 1000 0 0 len)] from rfl, hz] at hv1
  have hr1 := asV_ok (n := true) (x := .slice (xs.take len)) h1.mem (fun _ _ => rfl) (by
    show asV ((1000, frzBox (Mem.at [(1000, Box.row 0 false true sz xs)] 1000)) :: [(1000, Box.row 0 false true sz xs)]) _ = _
    simp [asV, asV0, Mem.at_cons_same, frzBox]) hv1
  refine ⟨v, rfl, ⟨hx.os, hx.tape, hx.output, hx.size, fun k hk => hx.keep k hk (fun g hg => by simp [Mem.at, look, Box.mut] at hg)⟩, ?_⟩
  have hxx := hx.trans x1
  rw [← e1]
  refine Rd.mono hr1 (fun b hb => ?_) (fun _ _ => rfl)
  refine ⟨?_, h1.mem.sdom b (h1.mem.ns b hb)⟩
  rcases hxx.supN b hb with k1 | k1 | ⟨g0, k1, _⟩
  · exact k1.elim
  · exact k1
  · simp [Mem.at, look, Box.mut] at k1
end Go.Proofs.Ytpdoplmnedpdaaa
