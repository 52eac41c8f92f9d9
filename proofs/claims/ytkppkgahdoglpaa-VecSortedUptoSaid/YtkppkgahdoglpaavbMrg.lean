/- A loop that ranges over a map whose entries all hold 0, and looks at what they hold: it ends, and nothing has turned. -/
import Derived.Laws.IdiomRangeMap
import Derived.Test.YtkppkgahdoglpaavbMpe
namespace Go.Proofs.Ytkppkgahdoglpaa
open Go.RowKit
def Tame {α : Type} : Sem α → Prop
  | .pure _ => True
  | .getObj _ k => ∀ o, Tame (k o)
  | .setObj _ _ k => Tame k
  | .choose _ k => ∀ n, Tame (k n)
  | .halt _ => True
  | _ => False
theorem Tame.bind {α β : Type} {f : α → Sem β} (hf : ∀ a, Tame (f a)) : ∀ {x : Sem α}, Tame x → Tame (x.bind f)
  | .pure a, _ => hf a
  | .getObj _ _k, h => fun o => Tame.bind hf (h o)
  | .setObj _ _ k, h => Tame.bind (x := k) hf h
  | .choose _ _k, h => fun n => Tame.bind hf (h n)
  | .halt _, _ => trivial
theorem tame_run {P : Program} {α : Type} (x : Sem α) : ∀ {w w' : World} {v : α}, Tame x → x.run P w = .ok v w' → w'.tape = w.tape := by
  induction x with
  | pure a => intro w w' v _ h; simp only [Sem.run] at h; injection h with _ h; rw [h]
  | getObj r k ih =>
    intro w w' v ht h
    simp only [Sem.run] at h
    split at h
    · cases h
    · exact ih _ (ht _) h
    · cases h
  | setObj r o k ih =>
    intro w w' v ht h
    simp only [Sem.run] at h
    split at h
    · cases h
    · exact (ih ht h).trans rfl
    · cases h
  | choose q k ih =>
    intro w w' v ht h
    simp only [Sem.run] at h
    split at h
    · exact ih _ (ht _) h
    · exact (ih _ (ht _) h).trans rfl
  | halt _ => intro w w' v _ h; simp only [Sem.run] at h; cases h
  | _ => intro w w' v ht; exact ht.elim
theorem next_tame (x : Value) (ty : TypeId) : Tame (Instr.next x false ty) := by
  unfold Instr.next
  repeat' (first | exact trivial | (intro _) | split | apply Tame.bind)
section
variable {C : Cf} {s : St} {a : Act} {t : Nat} {v : Value}
theorem holds_any (h : Holds C s a) (ht : s.env.at t = .any) : Holds C s (a.put (some t) v) := by
  refine ⟨h.mem, h.defers, by simpa [Act.put] using h.size, fun u => ?_⟩
  by_cases hu : u = t
  · subst hu; rw [ht]; trivial
  · have := h.env u
    have e : (a.put (some t) v).tmps.getD u undef = a.tmps.getD u undef := by
      simp only [Act.put, Array.getD_eq_getD_getElem?]
      rw [Array.getElem?_setIfInBounds_ne (Ne.symm hu)]
    rw [e]; exact this
theorem put_same (ht : t < a.tmps.size) : (a.put (some t) v).eval (.tmp t) = v := by
  show (a.put (some t) v).tmps.getD t undef = v
  simp only [Act.put, Array.getD_eq_getD_getElem?]
  rw [Array.getElem?_setIfInBounds_self_of_lt ht]; rfl
theorem put_other {u : Nat} (hu : u ≠ t) : (a.put (some t) v).eval (.tmp u) = a.eval (.tmp u) := by
  show (a.put (some t) v).tmps.getD u undef = a.tmps.getD u undef
  simp only [Act.put, Array.getD_eq_getD_getElem?]
  rw [Array.getElem?_setIfInBounds_ne (Ne.symm hu)]
end
theorem alloc_grew {w w1 : World} {o : Obj} (h : w1.Alike w) (ht : w1.tape = w.tape) : Grew w (w1.alloc o) := by
  obtain ⟨h1, h2, h3⟩ := h
  refine ⟨h2, ht, h3, ?_, fun b hb => ?_⟩
  · show w.heap.size ≤ (w1.heap.push o).size
    rw [h1]; simp
  · show (w1.heap.push o)[b]? = _
    rw [h1, Array.getElem?_push_lt hb, Array.getElem?_eq_getElem hb]
section
variable {P : Program} {Q : Exit → St → Prop} {env : Env} {mem : Mem} {n : Nat} {κ : Type} {f : κ → List V} {es : List (κ × Int)} {kt et T : TypeId} {g : Nat}
  {i0 i1 i2 i3 i4 i5 : Nat} {p1 p2 p3 p4 p5 p6 p7 p8 p9 : String} {f1 f2 f3 f4 f5 f6 f7 f8 f9 : Array Edge} {y1 y2 y3 y4 y5 y6 y7 y8 y9 : TypeId} {r x T2 T3 : Nat} {k58 k59 k60 k61 k62 k63 k7 k64 k65 : Nat} {ce : Code}
def forget (env : Env) (ts : List Nat) : Env := (ts.map fun t => (t, D.any)) ++ env
theorem forget_at {env : Env} {ts : List Nat} {t : Nat} (h : t ∈ ts) : (forget env ts).at t = .any := by
  induction ts with
  | nil => cases h
  | cons a r ih =>
    show look _ ((a, D.any) :: forget env r) t = _
    rw [look_cons]
    by_cases ha : a = t
    · rw [if_pos ha]
    · rw [if_neg ha]
      rcases List.mem_cons.1 h with h | h
      · exact absurd h.symm ha
      · exact ih h
theorem forget_other {env : Env} {ts : List Nat} {t : Nat} (h : t ∉ ts) : (forget env ts).at t = env.at t := by
  induction ts with
  | nil => rfl
  | cons a r ih =>
    show look _ ((a, D.any) :: forget env r) t = _
    rw [look_cons, if_neg (fun ha => h (by rw [ha]; exact List.mem_cons_self ..))]
    exact ih (fun hm => h (List.mem_cons_of_mem _ hm))
set_option maxHeartbeats 1000000 in
theorem DW_rangeZ (hx : ev ⟨env, mem, n⟩ (.tmp x) = .mp g) (hm : mem.at g = .mapb kt et (mapK f (V.int .i64) es)) (hz : ∀ p ∈ es, p.2 = 0) (hu : P.underlying T = some (.map kt et)) (hfr : mem.at 999 = .gone)
    (hlt : ∀ t ∈ [k58, k59, k60, k61, k62, k63, k7, k64, k65], t < n) (hnd : [k58, k59, k60, k61, k62, k63, k7, k64, k65].Nodup)
    (k : Q .normal ⟨forget env [k58, k59, k60, k61, k62, k63, k7, k64, k65], (999, .gone) :: mem, n⟩) :
    DW P (.seq (.region i0 (#[⟨some k58, .move (.tmp x), y1, p1, f1, none⟩, ⟨some k59, .range T (.tmp k58), y2, p2, f2, none⟩] : Array Oper) false)
      (.block i1 (.loop (.seq (.region i2 (#[⟨some k60, .next (.tmp k59) false, y3, p3, f3, none⟩, ⟨some k61, .extract (.tmp k60) 0, y4, p4, f4, none⟩] : Array Oper) false)
        (.seq (.cond (.tmp k61) .skip (.exit i1))
          (.block i3 (.seq (.region i4 (#[⟨some k62, .entry (.tmp k59), y5, p5, f5, none⟩, ⟨some k63, .extract (.tmp k62) 1, y6, p6, f6, none⟩, ⟨some k7, .assign (.tmp k63), y7, p7, f7, none⟩] : Array Oper) false)
            (.seq (.region i5 (#[⟨some k64, .move (.tmp k7), y8, p8, f8, none⟩, ⟨some k65, .binOp .neq T2 (.tmp k64) (.const (.int .i64 0)) T3, y9, p9, f9, none⟩] : Array Oper) false)
              (.cond (.tmp k65) ce .skip))))))))) Q ⟨env, mem, n⟩ := by
  intro C a hh
  obtain ⟨s0, hs0⟩ : ∃ s0 : St, s0 = ⟨forget env [k58, k59, k60, k61, k62, k63, k7, k64, k65], mem, n⟩ := ⟨_, rfl⟩
  have hany : ∀ t ∈ [k58, k59, k60, k61, k62, k63, k7, k64, k65], s0.env.at t = .any := fun t ht => by rw [hs0]; exact forget_at ht
  have h0 : Holds C s0 a := by
    rw [hs0]
    refine ⟨hh.mem, hh.defers, hh.size, fun t => ?_⟩
    by_cases ht : t ∈ [k58, k59, k60, k61, k62, k63, k7, k64, k65]
    · show RdD C mem ((forget env _).at t) _
      rw [forget_at ht]; trivial
    · show RdD C mem ((forget env _).at t) _
      rw [forget_other ht]; exact hh.env t
  have hsn : s0.n = n := by rw [hs0]
  -- the map's block
  have hxv := ev_ok hh (.tmp x)
  rw [hx] at hxv
  obtain ⟨kt1, et1, es1, bm, hat, hi, hv⟩ := hxv
  have hbx := hh.mem.box g
  have hm' : (St.mem ⟨env, mem, n⟩).at g = .mapb kt et (mapK f (V.int .i64) es) := hm
  rw [hm'] at hbx
  obtain ⟨b', hi', ents, clock, q1, q2, q3, q4⟩ := hbx
  rw [hi] at hi'
  injection hi' with hi'
  subst hi'
  have hsz : ents.size = es.length := by simpa [mapK] using q2
  have hcl : clock = es.length := by simpa [mapK] using q3
  have hent : ∀ (i : Nat) (hi : i < ents.size), ents[i].born = i ∧ ents[i].val = .int .i64 0 := fun i hi => by
    have hie : i < es.length := by omega
    obtain ⟨_, r2, r3⟩ := q4 i (.agg (f es[i].1), .int .i64 es[i].2) _ (by simp [mapK, hie]) (Array.getElem?_eq_getElem hi)
    refine ⟨r3, ?_⟩
    rw [rv_int r2, hz es[i] (List.getElem_mem hie)]
  have hborn : ents.toList.map (·.born) = List.range ents.size := by
    refine List.ext_getElem? fun i => ?_
    by_cases hi : i < ents.size
    · simp [hi, (hent i hi).1]
    · rw [List.getElem?_eq_none (by simp; omega), List.getElem?_eq_none (by simp; omega)]
  have hold : ∀ e ∈ ents.toList, e.born < clock := fun e he => by
    obtain ⟨i, hi, rfl⟩ := List.getElem_of_mem he
    rw [Array.length_toList] at hi
    rw [Array.getElem_toList, (hent i hi).1]; omega
  have hval : ∀ e ∈ ents.toList, e.val = .int .i64 0 := fun e he => by
    obtain ⟨i, hi, rfl⟩ := List.getElem_of_mem he
    rw [Array.length_toList] at hi
    rw [Array.getElem_toList, (hent i hi).2]
  have hnodup : (ents.toList.map (·.born)).Nodup := by rw [hborn]; exact List.nodup_range
  simp only [List.nodup_cons, List.mem_cons, List.not_mem_nil, or_false, not_or, not_false_eq_true, List.nodup_nil, and_true] at hnd
  simp only [List.mem_cons, List.not_mem_nil, or_false, forall_eq_or_imp, forall_eq] at hlt hany
  obtain ⟨_, ⟨n60, n61, n62, n63, n7, n64, n65⟩, _⟩ := hnd
  obtain ⟨l58, l59, l60, l61, l62, l63, l7, l64, l65⟩ := hlt
  obtain ⟨a58, a59, a60, a61, a62, a63, a7, a64, a65⟩ := hany
  have step1 : ∀ {ops : Array Oper} {o : Oper} {rest : List Oper} {Q : Exit → Act → World → Prop} {a : Act} {w w' : World} {v : Value}, o.guard = none → (execOp a.eval o).run P w = .ok (.value v) w' → wpList P ops Q rest (a.put o.dst v) w' → wpList P ops Q (o :: rest) a w := fun hg hr hk =>
    wpList_step fun K hK => by rw [if_pos (by simp [Region.wanted, hg])]; exact wp_of_value hr (hK _ _ hk)
  refine wp_seq (wp_region_lit (l := [_, _]) ?_)
  refine step1 rfl (v := .map (some bm)) (w' := C.w) (by simp [execOp, hv]) ?_
  have h1 := holds_any (v := .map (some bm)) h0 a58
  have e58 : (a.put (some k58) (.map (some bm))).eval (.tmp k58) = .map (some bm) := put_same (by rw [h0.size, hsn]; exact l58)
  refine step1 rfl (v := .pointer (some ⟨C.w.heap.size, 0, none⟩)) (w' := C.w.alloc (.mapIter (some bm) clock #[] clock)) ?_ ?_
  · have := run_range_map (P := P) C.w T kt et bm ents clock hu q1
    simp only [execOp, e58]
    simp [this]
  have h2 := holds_any (v := .pointer (some ⟨C.w.heap.size, 0, none⟩)) h1 a59
  have e59 : ((a.put (some k58) (.map (some bm))).put (some k59) (.pointer (some ⟨C.w.heap.size, 0, none⟩))).eval (.tmp k59) = .pointer (some ⟨C.w.heap.size, 0, none⟩) := put_same (by rw [h1.size, hsn]; exact l59)
  refine wpList_nil ?_
  show Code.wp P _ _ _ _
  refine wp_block (wp_loop (fun a w => Holds C s0 a ∧ a.eval (.tmp k59) = .pointer (some ⟨C.w.heap.size, 0, none⟩) ∧ ∃ w1 seen, w1.Alike C.w ∧ w1.tape = C.w.tape ∧ w = w1.alloc (.mapIter (some bm) clock seen clock))
    (fun _ w => (leftOf ents (w.iterSeen C.w.heap.size)).size) ⟨h2, e59, C.w, #[], ⟨rfl, rfl, rfl⟩, rfl, rfl⟩ ?_)
  rintro a1 w ⟨h3, e3, w1, seen, hal, htp, rfl⟩
  have hsz1 : w1.heap.size = C.w.heap.size := by rw [hal.1]
  have hb1 : w1.heap[bm]? = some (.map ents clock) := by rw [hal.1]; exact q1
  have law := run_next_map (P := P) w1 y3 bm clock clock seen ents clock hb1 hold (Nat.le_refl _)
  rw [hsz1] at law
  refine wp_seq (wp_region_lit (l := [_, _]) ?_)
  rcases law with ⟨hl0, hrun⟩ | ⟨en, hen, w2, hal2, hrun⟩
  · refine step1 rfl (v := .tuple #[.bool false]) (w' := w1.alloc (.mapIter (some bm) clock seen clock)) (by simp only [execOp, e3]; simp [hrun]) ?_
    have h4 := holds_any (v := .tuple #[.bool false]) h3 a60
    have e4 : (a1.put (some k60) (.tuple #[.bool false])).eval (.tmp k60) = .tuple #[.bool false] := put_same (by rw [h3.size, hsn]; exact l60)
    refine step1 rfl (v := .bool false) (w' := w1.alloc (.mapIter (some bm) clock seen clock)) (by simp [execOp, e4, Instr.extract]) ?_
    have h5 := holds_any (v := .bool false) h4 a61
    have e5 : ((a1.put (some k60) (.tuple #[.bool false])).put (some k61) (.bool false)).eval (.tmp k61) = .bool false := put_same (by rw [h4.size, hsn]; exact l61)
    refine wpList_nil ?_
    show Code.wp P _ _ _ _
    refine wp_seq (wp_cond_false e5 (wp_exit ?_))
    show (if i1 = i1 then _ else _)
    rw [if_pos rfl]
    have hst := Step.fresh (g := 999) (ob := none) (bx := .gone) h5.mem (by rw [hs0]; exact hfr) (alloc_grew (o := .mapIter (some bm) clock seen clock) hal htp) (fun b hb => by cases hb) (fun _ _ => trivial)
    refine ⟨C.set 999 none (w1.alloc (.mapIter (some bm) clock seen clock)), ⟨forget env [k58, k59, k60, k61, k62, k63, k7, k64, k65], (999, .gone) :: mem, n⟩, rfl, k, ?_, ?_⟩
    · rw [hs0] at h5 hst
      exact ⟨hst.holds, h5.defers, h5.size, fun t => hst.slot _ _ (h5.env t)⟩
    · rw [hs0] at hst
      exact hst.ext
  · have htp2 : w2.tape = C.w.tape := by
      have := tame_run _ (next_tame _ _) hrun
      exact this.trans htp
    have hal3 : w2.Alike C.w := ⟨hal2.1.trans hal.1, hal2.2.1.trans hal.2.1, hal2.2.2.trans hal.2.2⟩
    refine step1 rfl (v := .tuple #[.bool true, en.key, en.val]) (w' := w2.alloc (.mapIter (some bm) clock (seen.push en.born) clock)) (by simp only [execOp, e3]; simp [hrun]) ?_
    generalize hT : (Value.tuple #[.bool true, en.key, en.val]) = T1
    have h4 := holds_any (v := T1) h3 a60
    have e4 : (a1.put (some k60) T1).eval (.tmp k60) = T1 := put_same (by rw [h3.size, hsn]; exact l60)
    refine step1 rfl (v := .bool true) (w' := w2.alloc (.mapIter (some bm) clock (seen.push en.born) clock)) (by simp only [execOp, e4]; rw [← hT]; simp [Instr.extract]) ?_
    have h5 := holds_any (v := .bool true) h4 a61
    have e5 : ((a1.put (some k60) T1).put (some k61) (.bool true)).eval (.tmp k61) = .bool true := put_same (by rw [h4.size, hsn]; exact l61)
    have e6 : ((a1.put (some k60) T1).put (some k61) (.bool true)).eval (.tmp k59) = .pointer (some ⟨C.w.heap.size, 0, none⟩) := by
      exact (put_other (t := k61) (u := k59) n61).trans ((put_other (t := k60) (u := k59) n60).trans e3)
    generalize (a1.put (some k60) T1).put (some k61) (.bool true) = a2 at h5 e5 e6
    refine wpList_nil ?_
    show Code.wp P _ _ _ _
    refine wp_seq (wp_cond_true e5 (wp_skip ?_))
    show Code.wp P _ _ _ _
    refine wp_block (wp_seq (wp_region_lit (l := [_, _, _]) ?_))
    have hb2 : w2.heap[bm]? = some (.map ents clock) := by rw [hal3.1]; exact q1
    have hent2 := run_entry_map (P := P) w2 bm clock seen ents clock en hb2 (mem_left hen).1 hnodup
    rw [show w2.heap.size = C.w.heap.size by rw [hal3.1], hval en (mem_left hen).1] at hent2
    refine step1 rfl (v := .tuple #[en.key, .int .i64 0]) (w' := w2.alloc (.mapIter (some bm) clock (seen.push en.born) clock)) (by simp only [execOp, e6]; simp [hent2]) ?_
    generalize hT2 : (Value.tuple #[en.key, .int .i64 0]) = T2'
    have h6 := holds_any (v := T2') h5 a62
    have e7 : (a2.put (some k62) T2').eval (.tmp k62) = T2' := put_same (by rw [h5.size, hsn]; exact l62)
    refine step1 rfl (v := .int .i64 0) (w' := w2.alloc (.mapIter (some bm) clock (seen.push en.born) clock)) (by simp only [execOp, e7]; rw [← hT2]; simp [Instr.extract]) ?_
    have h7 := holds_any (v := .int .i64 0) h6 a63
    have e8 : ((a2.put (some k62) T2').put (some k63) (.int .i64 0)).eval (.tmp k63) = .int .i64 0 := put_same (by rw [h6.size, hsn]; exact l63)
    refine step1 rfl (v := .int .i64 0) (w' := w2.alloc (.mapIter (some bm) clock (seen.push en.born) clock)) (by simp [execOp, e8]) ?_
    have h8 := holds_any (v := .int .i64 0) h7 a7
    have e9 : (((a2.put (some k62) T2').put (some k63) (.int .i64 0)).put (some k7) (.int .i64 0)).eval (.tmp k7) = .int .i64 0 := put_same (by rw [h7.size, hsn]; exact l7)
    have e10 : (((a2.put (some k62) T2').put (some k63) (.int .i64 0)).put (some k7) (.int .i64 0)).eval (.tmp k59) = .pointer (some ⟨C.w.heap.size, 0, none⟩) := by
      exact (put_other (t := k7) (u := k59) n7).trans ((put_other (t := k63) (u := k59) n63).trans ((put_other (t := k62) (u := k59) n62).trans e6))
    generalize ((a2.put (some k62) T2').put (some k63) (.int .i64 0)).put (some k7) (.int .i64 0) = a3 at h8 e9 e10
    refine wpList_nil ?_
    show Code.wp P _ _ _ _
    refine wp_seq (wp_region_lit (l := [_, _]) ?_)
    refine step1 rfl (v := .int .i64 0) (w' := w2.alloc (.mapIter (some bm) clock (seen.push en.born) clock)) (by simp [execOp, e9]) ?_
    have h9 := holds_any (v := .int .i64 0) h8 a64
    have e11 : (a3.put (some k64) (.int .i64 0)).eval (.tmp k64) = .int .i64 0 := put_same (by rw [h8.size, hsn]; exact l64)
    refine step1 rfl (v := .bool false) (w' := w2.alloc (.mapIter (some bm) clock (seen.push en.born) clock)) (by
      have hc : (binOp .neq T2 (.int .i64 0) (.int .i64 0)).run P (w2.alloc (.mapIter (some bm) clock (seen.push en.born) clock)) = .ok (.bool false) (w2.alloc (.mapIter (some bm) clock (seen.push en.born) clock)) := by simp [binOp, Op.intCmp]
      simp only [execOp, e11]
      simp [eqGuard, hc, Act.eval]) ?_
    have h10 := holds_any (v := .bool false) h9 a65
    have e12 : ((a3.put (some k64) (.int .i64 0)).put (some k65) (.bool false)).eval (.tmp k65) = .bool false := put_same (by rw [h9.size, hsn]; exact l65)
    have e13 : ((a3.put (some k64) (.int .i64 0)).put (some k65) (.bool false)).eval (.tmp k59) = .pointer (some ⟨C.w.heap.size, 0, none⟩) := by
      exact (put_other (t := k65) (u := k59) n65).trans ((put_other (t := k64) (u := k59) n64).trans e10)
    refine wpList_nil ?_
    show Code.wp P _ _ _ _
    refine wp_cond_false e12 (wp_skip ?_)
    refine ⟨⟨h10, e13, w2, seen.push en.born, hal3, htp2, rfl⟩, ?_⟩
    show (leftOf ents ((w2.alloc _).iterSeen C.w.heap.size)).size < (leftOf ents ((w1.alloc _).iterSeen C.w.heap.size)).size
    rw [← show w2.heap.size = C.w.heap.size by rw [hal3.1], World.iterSeen_alloc, show w2.heap.size = w1.heap.size by rw [hal2.1], World.iterSeen_alloc]
    exact left_shrinks ents seen en hen
end
end Go.Proofs.Ytkppkgahdoglpaa
