/- The D-machine, part 8: calls by contract. -/
import Derived.Test.Ytfmaehhloffabaay7Run
namespace Go.Proofs.Ytfmaehhloffabaa
open Go.RowKit
def asB0 (m : Mem) : D → Option V
  | .dat _ x => some x
  | .nil => some (.slice [])
  | .own g ver lo len => match m.at g with
    | .row ver' _ _ _ xs => bif Nat.beq ver ver' then some (.slice ((xs.drop lo).take len)) else none
    | _ => none
  | _ => none
def asBs (m : Mem) : List D → Option (List V)
  | [] => some []
  | d :: r => match asB0 m d, asBs m r with
    | some x, some xs => some (x :: xs)
    | _, _ => none
def asB (m : Mem) : D → Option V
  | .ptr g off => match m.at g with
    | .cells _ _ cs => match asBs m (cs.drop off) with
      | some xs => bif xs.all V.one then some (.rp xs) else none
      | none => none
    | _ => none
  | .rptr g ver i off => match m.at g with
    | .row ver' _ _ _ xs => bif Nat.beq ver ver' then (match xs[i]? with | some el => some (.rp (el.drop off)) | none => none) else none
    | _ => none
  | .aggd cs => match asBs m cs with
    | some xs => some (.agg xs)
    | none => none
  | d => asB0 m d
def asBL (m : Mem) : List D → Option (List V)
  | [] => some []
  | d :: r => match asB m d, asBL m r with
    | some x, some xs => some (x :: xs)
    | _, _ => none
def Cf.lent (C : Cf) (m : Mem) : Nat → Prop := fun b => C.S b ∨ ∃ g, m.at g ≠ .gone ∧ C.ι g = some b
theorem RdF.lend {C : Cf} {m : Mem} {n : Bool} {x : V} {v : Value} (h : RdF C n x v) (hm : HoldsM C m) : Rd (C.lent m) C.w x v :=
  Rd.mono (h.weak hm) (fun _ h => .inl h) (fun _ _ => rfl)
theorem asB0_ok {C : Cf} {m : Mem} {d : D} {v : Value} {x : V} (hm : HoldsM C m) (h : asB0 m d = some x) (hd : RdD C m d v) : Rd (C.lent m) C.w x v := by
  cases d with
  | dat n x' =>
    simp only [asB0, Option.some.injEq] at h
    subst h
    exact RdF.lend (n := n) hd hm
  | nil =>
    simp only [asB0, Option.some.injEq] at h
    subst h
    have hv : v = .slice none 0 0 := hd
    subst hv
    exact Rd.nil
  | own g ver lo len =>
    obtain ⟨ver', frz, nw, sz, xs, hat, _, _, ho⟩ := hd
    simp only [asB0, hat] at h
    cases hb : Nat.beq ver ver' with
    | false => simp [hb] at h
    | true =>
      simp only [hb, cond_true, Option.some.injEq] at h
      subst h
      obtain ⟨hl, ho⟩ := ho (Nat.eq_of_beq_eq_true hb)
      have hbx := hm.box g
      rw [hat] at hbx
      unfold OwnV at ho
      cases hi : C.ι g with
      | none =>
        simp only [hi] at ho
        simp only [BoxOK, hi] at hbx
        obtain ⟨rfl, rfl, rfl⟩ := ho
        subst hbx
        exact Rd.nil
      | some b =>
        simp only [hi] at ho
        simp only [BoxOK, hi] at hbx
        obtain ⟨cap, arr, T, fz, rfl, _, _, hc, hmx⟩ := ho
        obtain ⟨arr', T', fz', h1, h2, h3, h4, h5, h6, h7⟩ := hbx
        refine row_slice (nw := nw) (.inr ⟨g, by rw [hat]; simp, hi⟩) (fun b hb => ?_) ⟨arr', T', fz', h1, h2, h3, h4, h5, h6⟩ hl hc hmx
        cases nw
        · exact .inl hb
        · exact .inl (hm.ns _ hb)
  | _ => simp [asB0] at h
theorem asBs_ok {C : Cf} {m : Mem} (hm : HoldsM C m) : ∀ (ds : List D) (xs : List V), asBs m ds = some xs →
    xs.length = ds.length ∧ ∀ (j : Nat) (d : D) (x : V) (v : Value), ds[j]? = some d → xs[j]? = some x → RdS C m d v → Rd (C.lent m) C.w x v
  | [], xs, h => by
    simp only [asBs, Option.some.injEq] at h
    subst h
    simp
  | d :: r, xs, h => by
    simp only [asBs] at h
    cases h0 : asB0 m d with
    | none => simp [h0] at h
    | some x0 =>
      cases h1 : asBs m r with
      | none => simp [h0, h1] at h
      | some x1 =>
        simp only [h0, h1, Option.some.injEq] at h
        subst h
        obtain ⟨hl, ih⟩ := asBs_ok hm r x1 h1
        refine ⟨by simp [hl], fun j d' x v hd hx hr => ?_⟩
        cases j with
        | zero =>
          simp only [List.getElem?_cons_zero, Option.some.injEq] at hd hx
          subst hd; subst hx
          exact asB0_ok hm h0 hr.rd
        | succ j =>
          simp only [List.getElem?_cons_succ] at hd hx
          exact ih j d' x v hd hx hr
theorem asB_ok {C : Cf} {m : Mem} {d : D} {v : Value} {x : V} (hm : HoldsM C m) (h : asB m d = some x) (hd : RdD C m d v) : Rd (C.lent m) C.w x v := by
  cases d with
  | ptr g off =>
    obtain ⟨frz, nw, cs, b, hat, hi, rfl⟩ := hd
    simp only [asB, hat] at h
    cases hv : asBs m (cs.drop off) with
    | none => simp [hv] at h
    | some xs =>
      simp only [hv] at h
      cases hone : xs.all V.one with
      | false => simp [hone] at h
      | true =>
        simp only [hone, cond_true, Option.some.injEq] at h
        subst h
        have hb := hm.box g
        rw [hat] at hb
        obtain ⟨b', hi', arr, T, fz, h1, h2, h3, h4, h5⟩ := hb
        rw [hi] at hi'
        injection hi' with hi'
        subst hi'
        obtain ⟨hl, hall⟩ := asBs_ok hm (cs.drop off) xs hv
        have hcell : ∀ (j : Nat) (x : V), xs[j]? = some x → ∃ d, (cs.drop off)[j]? = some d ∧ arr[off + j]? = some (arr.getD (off + j) undef) ∧ cs[off + j]? = some d := by
          intro j x hx
          have hj : j < xs.length := (List.getElem?_eq_some_iff.1 hx).1
          have hj2 : j < (cs.drop off).length := by omega
          refine ⟨(cs.drop off)[j], List.getElem?_eq_getElem hj2, ?_, ?_⟩
          · have : off + j < arr.size := by simp at hj2; omega
            simp [Array.getElem?_eq_getElem this]
          · rw [← List.getElem?_drop]; exact List.getElem?_eq_getElem hj2
        refine Rd.rp xs b off (fun j => arr.getD (off + j) undef) (fun j d hd => ?_) (.inr ⟨g, by rw [hat]; simp, hi⟩) (fun j x hx => ?_) (fun j x hx => ?_)
        · rw [List.all_eq_true] at hone
          exact hone d (List.mem_of_getElem? hd)
        · obtain ⟨d, hd, ha', _⟩ := hcell j x hx
          rw [cell_of_arr h1]; exact ha'
        · obtain ⟨d, hd, ha', hd'⟩ := hcell j x hx
          exact hall j d x _ hd hx (h4 _ _ _ hd' ha')
  | rptr g ver i off =>
    obtain ⟨ver', frz, nw, sz, xs, hat, _, _, ho⟩ := hd
    simp only [asB, hat] at h
    cases hbq : Nat.beq ver ver' with
    | false => simp [hbq] at h
    | true =>
      obtain ⟨hil, b, hi, rfl⟩ := ho (Nat.eq_of_beq_eq_true hbq)
      have hel : xs[i]? = some xs[i] := List.getElem?_eq_getElem hil
      simp only [hbq, cond_true, hel, Option.some.injEq] at h
      subst h
      have hb := hm.box g
      rw [hat] at hb
      simp only [BoxOK, hi] at hb
      obtain ⟨arr, T, fz, h1, h2, h3, h4, h5, h6, h7⟩ := hb
      have hcell : ∀ (j : Nat) d, (xs[i].drop off)[j]? = some d → arr[i * sz + off + j]? = some (arr.getD (i * sz + off + j) undef) ∧ RdF C nw d (arr.getD (i * sz + off + j) undef) ∧ d.one = true := by
        intro j d hd
        rw [List.getElem?_drop] at hd
        have hj : off + j < xs[i].length := (List.getElem?_eq_some_iff.1 hd).1
        have := h4 i _ hel
        have hlt : i * sz + (off + j) < arr.size := Nat.lt_of_lt_of_le (idx_lt hil (by omega)) h3
        have hg : arr[i * sz + off + j]? = some (arr.getD (i * sz + off + j) undef) := by
          rw [Nat.add_assoc]
          simp [Array.getElem?_eq_getElem hlt]
        exact ⟨hg, h6 i (off + j) _ d _ hel hd (by rw [← Nat.add_assoc]; exact hg), h5 _ _ _ _ hel hd⟩
      refine Rd.rp _ b _ (fun j => arr.getD (i * sz + off + j) undef) (fun j d hd => (hcell j d hd).2.2) (.inr ⟨g, by rw [hat]; simp, hi⟩) (fun j d hd => ?_) (fun j d hd => (hcell j d hd).2.1.lend hm)
      rw [cell_of_arr h1]; exact (hcell j d hd).1
  | aggd cs =>
    obtain ⟨vs, rfl, hl, hv⟩ := hd
    simp only [asB] at h
    cases hc : asBs m cs with
    | none => simp [hc] at h
    | some xs =>
      simp only [hc, Option.some.injEq] at h
      subst h
      obtain ⟨hl', hall⟩ := asBs_ok hm cs xs hc
      refine Rd.agg xs vs (by omega) (fun j d c hd hcv => ?_)
      have hj : j < cs.length := by have := (List.getElem?_eq_some_iff.1 hd).1; omega
      have hcs : cs[j]? = some cs[j] := List.getElem?_eq_getElem hj
      exact hall j cs[j] d c hcs hd (hv j cs[j] c hcs hcv)
  | dat n x' => exact asB0_ok hm (show asB0 m (.dat n x') = some x from h) hd
  | nil => exact asB0_ok hm (show asB0 m .nil = some x from h) hd
  | own g ver lo len => exact asB0_ok hm (show asB0 m (.own g ver lo len) = some x from h) hd
  | _ => simp [asB, asB0] at h
theorem asBL_ok {C : Cf} {m : Mem} (hm : HoldsM C m) : ∀ (ds : List D) (xs : List V), asBL m ds = some xs →
    xs.length = ds.length ∧ ∀ (j : Nat) (d : D) (x : V) (v : Value), ds[j]? = some d → xs[j]? = some x → RdD C m d v → Rd (C.lent m) C.w x v
  | [], xs, h => by
    simp only [asBL, Option.some.injEq] at h
    subst h
    simp
  | d :: r, xs, h => by
    simp only [asBL] at h
    cases h0 : asB m d with
    | none => simp [h0] at h
    | some x0 =>
      cases h1 : asBL m r with
      | none => simp [h0, h1] at h
      | some x1 =>
        simp only [h0, h1, Option.some.injEq] at h
        subst h
        obtain ⟨hl, ih⟩ := asBL_ok hm r x1 h1
        refine ⟨by simp [hl], fun j d' x v hd hx hr => ?_⟩
        cases j with
        | zero =>
          simp only [List.getElem?_cons_zero, Option.some.injEq] at hd hx
          subst hd; subst hx
          exact asB_ok hm h0 hr
        | succ j =>
          simp only [List.getElem?_cons_succ] at hd hx
          exact ih j d' x v hd hx hr
theorem asB0_mem {m m' : Mem} {d : D} (h : ∀ g, g ∈ refs0 d → m'.at g = m.at g) : asB0 m' d = asB0 m d := by
  cases d with
  | own g ver lo len => simp only [asB0, h g (by simp [refs0])]
  | _ => rfl
theorem asBs_mem {m m' : Mem} : ∀ {ds : List D}, (∀ g, g ∈ ds.flatMap refs0 → m'.at g = m.at g) → asBs m' ds = asBs m ds
  | [], _ => rfl
  | d :: r, h => by
    simp only [asBs]
    rw [asB0_mem (fun g hg => h g (by simp [hg])), asBs_mem (fun g hg => h g (by simp [hg]))]
theorem asB_mem {m m' : Mem} {d : D} (h : ∀ g, g ∈ refs m d → m'.at g = m.at g) : asB m' d = asB m d := by
  cases d with
  | ptr g off =>
    have h1 := h g (by simp [refs])
    simp only [asB, h1]
    cases hm : m.at g with
    | cells frz nw cs =>
      simp only
      rw [asBs_mem (fun g' hg' => h g' (by simp only [refs, hm]; exact List.mem_cons_of_mem _ hg'))]
    | _ => rfl
  | rptr g ver i off => simp only [asB, h g (by simp [refs, refs0])]
  | aggd cs =>
    simp only [asB]
    rw [asBs_mem (fun g' hg' => h g' (by simpa [refs] using hg'))]
  | own g ver lo len => exact asB0_mem (fun g hg => h g (by simpa [refs] using hg))
  | _ => rfl
theorem asBL_mem {m m' : Mem} : ∀ {ds : List D}, (∀ g, g ∈ ds.flatMap (refs m) → m'.at g = m.at g) → asBL m' ds = asBL m ds
  | [], _ => rfl
  | d :: r, h => by
    simp only [asBL]
    rw [asB_mem (fun g hg => h g (by simp [hg])), asBL_mem (fun g hg => h g (by simp [hg]))]
section
variable {P : Program} {e : Operand → D} {m : Mem} {dst : Option Tmp} {ty : TypeId} {pos : String} {af : Array Edge} {gd : Option (Nat × Bool)} {x y z : Operand} {t : TypeId} {yt : TypeId}
theorem run_callFunc {f : FuncId} (h : Callable P f) (args : Array Value) (w : World) : (callFunc f args).run P w = .ok (.enter f args) w := by
  obtain ⟨fn, h1, h2, h3⟩ := h
  have h3' : ¬ fn.name = "runtime.NumGoroutine" := by simpa using h3
  have h2' : ¬ fn.body = none := by intro h; simp [h] at h2
  simp [callFunc, program, Sem.run, h1, h2', h3']
theorem call_step {f : FuncId} {capV : List V} {o : Oper} {ds : List V} {r : V} {es : List D} {cap : Array Value} (hc : FnF P f ds r) (C : Cf) (m' : Mem) (a : Act) (next : Act → World → Prop) (Q : Exit → Act → World → Prop) (hm : HoldsM C m')
    (vs : Array Value) (hl : vs.size = es.length) (hv : ∀ (j : Nat) d v, es[j]? = some d → vs[j]? = some v → RdD C m' d v) (cs : List V) (ha : asBL m' es = some cs) (hds : ds = cs ++ capV)
    (hcap : RdL (C.lent m') C.w capV cap) (hrun : (execOp a.eval o).run P C.w = .ok (.enter f (vs ++ cap)) C.w)
    (hn : ∀ v C', Step C m' C' m' → RdD C' m' (.dat true r) v → next (a.put o.dst v) C'.w) : o.wp P a C.w next Q := by
  obtain ⟨_, hc⟩ := hc
  unfold Oper.wp
  rw [hrun]
  show Calls P f (vs ++ cap) C.w _
  obtain ⟨hlen, hall⟩ := asBL_ok hm es cs ha
  have hsd : ∀ b, C.lent m' b → b < C.w.heap.size := by
    rintro b (hb | ⟨g, h1, h2⟩)
    · exact hm.sdom b hb
    · exact BoxOK.lt hm h1 h2
  have hr : RdL (C.lent m') C.w ds (vs ++ cap) := by
    subst hds
    refine ⟨by simp [hlen, hl, hcap.1], fun j d c hd hcv => ?_⟩
    by_cases hj : j < cs.length
    · rw [List.getElem?_append_left hj] at hd
      rw [Array.getElem?_append_left (by omega)] at hcv
      have hes : es[j]? = some (es[j]'(by omega)) := List.getElem?_eq_getElem (by omega)
      exact hall j _ d c hes hd (hv j _ c hes hcv)
    · rw [List.getElem?_append_right (by omega)] at hd
      rw [Array.getElem?_append_right (by omega)] at hcv
      exact hcap.2 (j - cs.length) d c hd (by rw [show j - cs.length = j - vs.size by omega]; exact hcv)
  refine (hc (C.lent m') C.w (vs ++ cap) hsd hr).mono ?_
  rintro e w' ⟨v, rfl, hb, hrd⟩
  have hg : Grew C.w w' := ⟨hb.os, hb.tape, hb.output, hb.size, hb.block⟩
  have hst := step_dat (newB C.w w') hm hg (fun k hk => hk)
  exact hn v _ hst (Rd.mono hrd (fun _ h => .inr h) (fun _ _ => rfl))
theorem S_call {f : FuncId} {args : Array Operand} {ats : Array TypeId} {ds : List V} {r : V} (hc : FnF P f ds r) (ha : asBL m (args.toList.map e) = some ds) :
    SStep P ⟨dst, .call { callee := .value (.func f), args := args, argTypes := ats }, ty, pos, af, gd⟩ e m ((args.toList.map e).flatMap (refs m)) (.dat true r) [] := by
  intro C m' a next Q hag hm hx hn
  have ha' : asBL m' (args.toList.map e) = some ds := (asBL_mem (fun g hg => hag g (.inl hg))).trans ha
  refine call_step (capV := []) (cap := #[]) hc C m' a next Q hm (args.map a.eval) (by simp) (fun j d v hd hv => ?_) ds ha' (by simp) ⟨rfl, by simp⟩ ?_ hn
  · simp only [List.getElem?_map, Option.map_eq_some_iff] at hd
    obtain ⟨y, hy, rfl⟩ := hd
    simp only [Array.getElem?_map, Option.map_eq_some_iff] at hv
    obtain ⟨y', hy', rfl⟩ := hv
    have : y = y' := by
      rw [Array.getElem?_toList] at hy
      rw [hy] at hy'
      injection hy'
    subst this
    exact hx y (by simp only [Op.operands, Call.operands]; exact Array.mem_append.2 (.inr (Array.mem_of_getElem? hy')))
  · have hev : a.eval (.func f) = .func (.func f) #[] #[] := rfl
    simp only [execOp, resolve, hev, Deferred.ofValue, Sem.run_bind, Sem.run_pure, Result.andThen_ok, invoke, run_callFunc hc.1]
    simp
theorem S_callv {f : FuncId} {n : Bool} {cap : List V} {args : Array Operand} {ats : Array TypeId} {ds : List V} {r : V} (hf : e x = .dat n (.fn f cap)) (ha : asBL m (args.toList.map e) = some ds) (hc : FnF P f (ds ++ cap) r) :
    SStep P ⟨dst, .call { callee := .value x, args := args, argTypes := ats }, ty, pos, af, gd⟩ e m ((args.toList.map e).flatMap (refs m)) (.dat true r) [] := by
  intro C m' a next Q hag hm hx hn
  have ha' : asBL m' (args.toList.map e) = some ds := (asBL_mem (fun g hg => hag g (.inl hg))).trans ha
  have hxf := hx x (by simp [Op.operands, Call.operands])
  rw [hf] at hxf
  generalize hv : a.eval x = v at hxf
  cases hxf with
  | fn _ _ us hl hr =>
    refine call_step (capV := cap) (cap := us) hc C m' a next Q hm (args.map a.eval) (by simp) (fun j d v hd hv => ?_) ds ha' rfl ⟨hl, fun j d c h1 h2 => ?_⟩ ?_ hn
    · simp only [List.getElem?_map, Option.map_eq_some_iff] at hd
      obtain ⟨y, hy, rfl⟩ := hd
      simp only [Array.getElem?_map, Option.map_eq_some_iff] at hv
      obtain ⟨y', hy', rfl⟩ := hv
      have : y = y' := by
        rw [Array.getElem?_toList] at hy
        rw [hy] at hy'
        injection hy'
      subst this
      exact hx y (by simp only [Op.operands, Call.operands]; exact Array.mem_append.2 (.inr (Array.mem_of_getElem? hy')))
    · exact RdF.lend (n := n) (hr j d c h1 h2) hm
    · simp only [execOp, resolve, hv, Deferred.ofValue, Sem.run_bind, Sem.run_pure, Result.andThen_ok, invoke, run_callFunc hc.1]
      simp
end
theorem ret1 {P : Program} {s : St} {t : Tmp} {n : Bool} {x r : V} (h : asV s.mem (s.env.at t) = some (n, x)) (hn : n = true ∨ Flat x) (he : x = r) : retQ P [.tmp t] r .ret s :=
  ⟨_, .tmp h hn .nil, he⟩
theorem ret2 {P : Program} {s : St} {t u : Tmp} {n n' : Bool} {x y r : V} (h : asV s.mem (s.env.at t) = some (n, x)) (hn : n = true ∨ Flat x) (h' : asV s.mem (s.env.at u) = some (n', y)) (hn' : n' = true ∨ Flat y) (he : .tuple [x, y] = r) : retQ P [.tmp t, .tmp u] r .ret s :=
  ⟨_, .tmp h hn (.tmp h' hn' .nil), he⟩
theorem retN {P : Program} {s : St} {res : List ResultVar} {xs : List V} {r : V} (h : RetOK P s res xs) (he : pack xs = r) : retQ P res r .ret s := ⟨_, h, he⟩
end Go.Proofs.Ytfmaehhloffabaa
