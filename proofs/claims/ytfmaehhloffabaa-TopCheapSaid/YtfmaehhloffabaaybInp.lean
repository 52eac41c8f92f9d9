/- Calls that change a row of the caller's in its place: no slot of it is lost. Steps of code that keep all slots (DWS), contracts (FnI), the call. -/
import Derived.Test.YtfmaehhloffabaaybFz
namespace Go.Proofs.Ytfmaehhloffabaa
open Go.RowKit
def DWS (P : Program) (c : Code) (Q : Exit → St → Prop) (s : St) : Prop :=
  ∀ (C : Cf) (a : Act), Holds C s a → c.wp P (fun e a' w' => ∃ C' s', C'.w = w' ∧ Q e s' ∧ Holds C' s' a' ∧ Step C s.mem C' s'.mem) a C.w
def slotW (d d' : D) : Prop := d' = d ∨ (∃ x, d = .dat true x ∧ d' = .dat false x) ∨ d' = .any
def SWk (s s' : St) : Prop := s'.n = s.n ∧ (∀ g, s.mem.at g = s'.mem.at g) ∧ ∀ t, slotW (s.env.at t) (s'.env.at t)
theorem SWk.holds {s s' : St} {C : Cf} {a : Act} (h : SWk s s') (hh : Holds C s a) : Holds C s' a := by
  obtain ⟨h1, h2, h3⟩ := h
  refine ⟨HoldsM_congr h2 hh.mem, hh.defers, by rw [h1]; exact hh.size, fun t => ?_⟩
  have he := RdD_congr h2 _ _ (hh.env t)
  rcases h3 t with e | ⟨x, e1, e2⟩ | e
  · rw [e]; exact he
  · rw [e2]
    rw [e1] at he
    have hx : RdF C true x (a.tmps.getD t undef) := he
    exact hx.weak hh.mem
  · rw [e]; exact trivial
theorem slots_nil {e : Env} : ∀ t, slotW (e.at t) (Env.at [] t) := fun _t => .inr (.inr rfl)
theorem slots_cons {e : Env} {t0 : Nat} {d : D} {r : Env} (h : slotW (e.at t0) d) (k : ∀ t, slotW (e.at t) (Env.at r t)) : ∀ t, slotW (e.at t) (Env.at ((t0, d) :: r) t) := fun t => by
  by_cases ht : t0 = t
  · subst ht
    rw [show Env.at ((t0, d) :: r) t0 = d from look_same _ _ _ _]
    exact h
  · rw [show Env.at ((t0, d) :: r) t = Env.at r t from look_other _ _ _ _ _ ht]
    exact k t
section
variable {P : Program} {Q Q' : Exit → St → Prop} {s s' : St}
theorem Step.ofSW {C : Cf} {a : Act} (h : SWk s s') (hh : Holds C s a) : Step C s.mem C s'.mem := Step_congr (fun _ => rfl) h.2.1 (Step.refl hh.mem)
theorem DWS_weak {c : Code} (h : SWk s s') (k : DWS P c Q s') : DWS P c Q s := fun C a hh =>
  Code.wp_mono (fun _ _ _ ⟨C2, s2, e2, q2, h2, x2⟩ => ⟨C2, s2, e2, q2, h2, (Step.ofSW h hh).trans x2⟩) (k C a (h.holds hh))
theorem DWS_skip (h : Q .normal s) : DWS P .skip Q s := fun C _a hh => wp_skip ⟨C, s, rfl, h, hh, Step.refl hh.mem⟩
theorem DWS_exit {id : Nat} (h : Q (.exit id) s) : DWS P (.exit id) Q s := fun C _a hh => wp_exit ⟨C, s, rfl, h, hh, Step.refl hh.mem⟩
theorem DWS_ret (h : Q .ret s) : DWS P .ret Q s := fun C _a hh => wp_ret ⟨C, s, rfl, h, hh, Step.refl hh.mem⟩
theorem DWS_seq {x y : Code} (h : DWS P x (thenQ (DWS P y Q) Q) s) : DWS P (.seq x y) Q s := fun C a hh => by
  refine wp_seq (Code.wp_mono ?_ (h C a hh))
  rintro e a1 w1 ⟨C1, s1, rfl, q1, h1, x1⟩
  cases e with
  | normal => exact Code.wp_mono (fun ex a2 w2 ⟨C2, s2, e2, q2, h2, x2⟩ => ⟨C2, s2, e2, q2, h2, x1.trans x2⟩) (q1 C1 a1 h1)
  | _ => exact ⟨C1, s1, rfl, q1, h1, x1⟩
theorem DWS_cond_t {c : Operand} {x y : Code} {n : Bool} (hc : ev s c = .dat n (.bool true)) (h : DWS P x Q s) : DWS P (.cond c x y) Q s := fun C a hh => by
  have he := ev_ok hh c
  rw [hc] at he
  exact wp_cond_true (rd_bool he) (h C a hh)
theorem DWS_cond_f {c : Operand} {x y : Code} {n : Bool} (hc : ev s c = .dat n (.bool false)) (h : DWS P y Q s) : DWS P (.cond c x y) Q s := fun C a hh => by
  have he := ev_ok hh c
  rw [hc] at he
  exact wp_cond_false (rd_bool he) (h C a hh)
theorem DWS_block {id : Nat} {c : Code} (h : DWS P c (inBlk id Q) s) : DWS P (.block id c) Q s := fun C a hh => by
  refine wp_block (Code.wp_mono ?_ (h C a hh))
  rintro e a1 w1 ⟨C1, s1, rfl, q1, h1, x1⟩
  cases e with
  | exit id' =>
    simp only [inBlk, Exit.inBlock] at q1 ⊢
    split at q1
    · rename_i hid; rw [if_pos hid]; exact ⟨C1, s1, rfl, q1, h1, x1⟩
    · rename_i hid; rw [if_neg hid]; exact ⟨C1, s1, rfl, q1, h1, x1⟩
  | _ => exact ⟨C1, s1, rfl, q1, h1, x1⟩
theorem DWS_region {id : Nat} {l : List Oper} (h : DOps P l.toArray l s [] (fun _ s' => Q .normal s')) : DWS P (.region id l.toArray false) Q s := fun C a hh => by
  obtain ⟨tr, s', hr, hq⟩ := h
  exact wp_region_lit (wpList_of_run l s tr s' C a hr hh (fun C' a' h' x' => ⟨C', s', rfl, hq, h', x'⟩))
theorem DWS_draw {id : Nat} {l : List Oper} (h : DOps P l.toArray l s [] (fun acc s' => chk l acc = true ∧ Q .normal s')) : DWS P (.region id l.toArray true) Q s := fun _C _a hh => draw_wp h hh
def loopQS {X : Type} (inv : X → St) (R : X → Prop) (μ : X → Nat) (x : X) (Q : Exit → St → Prop) : Exit → St → Prop
  | .normal, s => ∃ x', R x' ∧ μ x' < μ x ∧ SWk s (inv x')
  | e, s => Q e s
theorem DWS_loop {X : Type} (inv : X → St) (R : X → Prop) (μ : X → Nat) {c : Code} (x0 : X) (h0 : R x0) (hw : SWk s (inv x0))
    (round : ∀ x, R x → DWS P c (loopQS inv R μ x Q) (inv x)) : DWS P (.loop c) Q s := by
  refine DWS_weak hw ?_
  intro C a hh b k cs
  have key : ∀ (n : Nat) (x : X) (C1 : Cf) (a1 : Act), μ x = n → R x → Holds C1 (inv x) a1 →
      ∃ e a' w', (∃ C' s', C'.w = w' ∧ Q e s' ∧ Holds C' s' a' ∧ Step C1 (inv x).mem C' s'.mem) ∧ Arrives P (lone (b.at a1 (.code c :: .inLoop c :: k)) cs C1.w) b k cs e a' w' := by
    intro n
    induction n using Nat.strongRecOn with
    | _ n ih =>
      intro x C1 a1 hn hR h1
      obtain ⟨e, a2, w2, ⟨C2, s2, rfl, q2, h2, x2⟩, harr⟩ := round x hR C1 a1 h1 b (.inLoop c :: k) cs
      cases e with
      | normal =>
        obtain ⟨x', hR', hlt, hwk⟩ := q2
        obtain ⟨e4, a4, w4, ⟨C4, s4, hw4, q4, h4, x4⟩, harr4⟩ := ih (μ x') (hn ▸ hlt) x' C2 a2 rfl hR' (hwk.holds h2)
        exact ⟨e4, a4, w4, ⟨C4, s4, hw4, q4, h4, (x2.trans (Step.ofSW hwk h2)).trans x4⟩, .of_steps (Steps.trans harr (.one step_inLoop)) harr4⟩
      | exit id => exact ⟨_, a2, _, ⟨C2, s2, rfl, q2, h2, x2⟩, .pass (x := .inLoop c) rfl (fun _ _ => .inl (by simp)) harr⟩
      | goto l => exact ⟨_, a2, _, ⟨C2, s2, rfl, q2, h2, x2⟩, .pass (x := .inLoop c) rfl (fun _ _ => .inl (by simp)) harr⟩
      | ret => exact ⟨_, a2, _, ⟨C2, s2, rfl, q2, h2, x2⟩, .pass (x := .inLoop c) rfl (fun _ _ => .inl (by simp)) harr⟩
      | panic ch => exact ⟨_, a2, _, ⟨C2, s2, rfl, q2, h2, x2⟩, .pass (x := .inLoop c) rfl (fun _ _ => .inl (by simp)) harr⟩
      | outgrown => exact ⟨_, a2, _, ⟨C2, s2, rfl, q2, h2, x2⟩, .pass (x := .inLoop c) rfl (fun _ _ => .inl (by simp)) harr⟩
  obtain ⟨e, a', w', hq, harr⟩ := key _ x0 C a rfl h0 hh
  exact ⟨e, a', w', hq, .of_steps (.one step_loop) harr⟩
theorem loopS_again {X : Type} {inv : X → St} {R : X → Prop} {μ : X → Nat} {x : X} (x' : X) (hR : R x') (hm : μ x' < μ x) (hw : SWk s (inv x')) : loopQS inv R μ x Q .normal s := ⟨x', hR, hm, hw⟩
theorem loopS_exit {X : Type} {inv : X → St} {R : X → Prop} {μ : X → Nat} {x : X} {id : Nat} (h : Q (.exit id) s) : loopQS inv R μ x Q (.exit id) s := h
theorem loopS_ret {X : Type} {inv : X → St} {R : X → Prop} {μ : X → Nat} {x : X} (h : Q .ret s) : loopQS inv R μ x Q .ret s := h
end
inductive StpS : Prop → Prop → Prop
  | seq {P : Program} {x y : Code} {Q : Exit → St → Prop} {s : St} : StpS (DWS P x (thenQ (DWS P y Q) Q) s) (DWS P (.seq x y) Q s)
  | region {P : Program} {id : Nat} {l : List Oper} {Q : Exit → St → Prop} {s : St} : StpS (DOps P l.toArray l s [] (fun _ s' => Q .normal s')) (DWS P (.region id l.toArray false) Q s)
  | draw {P : Program} {id : Nat} {l : List Oper} {Q : Exit → St → Prop} {s : St} : StpS (DOps P l.toArray l s [] (fun acc s' => chk l acc = true ∧ Q .normal s')) (DWS P (.region id l.toArray true) Q s)
  | block {P : Program} {id : Nat} {c : Code} {Q : Exit → St → Prop} {s : St} : StpS (DWS P c (inBlk id Q) s) (DWS P (.block id c) Q s)
  | le {X : Type} {inv : X → St} {R : X → Prop} {μ : X → Nat} {x : X} {Q : Exit → St → Prop} {s : St} {id : Nat} : StpS (Q (.exit id) s) (loopQS inv R μ x Q (.exit id) s)
  | lr {X : Type} {inv : X → St} {R : X → Prop} {μ : X → Nat} {x : X} {Q : Exit → St → Prop} {s : St} : StpS (Q .ret s) (loopQS inv R μ x Q .ret s)
  | ret {P : Program} {Q : Exit → St → Prop} {s : St} : StpS (Q .ret s) (DWS P .ret Q s)
  | exit {P : Program} {Q : Exit → St → Prop} {s : St} {id : Nat} : StpS (Q (.exit id) s) (DWS P (.exit id) Q s)
  | skip {P : Program} {Q : Exit → St → Prop} {s : St} : StpS (Q .normal s) (DWS P .skip Q s)
theorem Va {p q : Prop} (a : StpS p q) (k : p) : q := by
  cases a with
  | seq => exact DWS_seq k
  | region => exact DWS_region k
  | draw => exact DWS_draw k
  | block => exact DWS_block k
  | le => exact loopS_exit k
  | lr => exact loopS_ret k
  | ret => exact DWS_ret k
  | exit => exact DWS_exit k
  | skip => exact DWS_skip k
def FnI (P : Program) (f : FuncId) (ds : List D) (m m' : Mem) : Prop := Callable P f ∧
  ∀ (C : Cf) (vs : Array Value), HoldsM C m → vs.size = ds.length → (∀ (j : Nat) d v, ds[j]? = some d → vs[j]? = some v → RdD C m d v) →
    Calls P f vs C.w fun e w' => ∃ v C', e = .returned v ∧ C'.w = w' ∧ Step C m C' m'
def inB (m : Mem) (g : Nat) : Box → Box
  | .row _ frz nw sz xs => .row (rowVer (m.at g)) frz nw sz xs
  | b => b
def inM (m m' : Mem) : Tr → Mem
  | [] => []
  | (k, g) :: r => (g, inB m g (m'.at k)) :: inM m m' r
def backOK0 (mk' : Mem) : Tr → Prop
  | [] => True
  | (k, _) :: r => (∃ nw sz xs, mk'.at k = .row 0 false nw sz xs) ∧ backOK0 mk' r
theorem backOK0_mem {mk' : Mem} : ∀ {T : Tr}, backOK0 mk' T → ∀ {k g : Nat}, (k, g) ∈ T → ∃ nw sz xs, mk'.at k = .row 0 false nw sz xs
  | (k0, g0) :: _, h, k, g, hm => by
    rcases List.mem_cons.1 hm with e | hm
    · injection e with e1 e2; rw [e1]; exact h.1
    · exact backOK0_mem h.2 hm
theorem inM_at {mk' : Mem} : ∀ (T : Tr) (m : Mem) (g : Nat), Mem.at (inM m mk' T ++ m) g = match toK T g with | some k => inB m g (mk'.at k) | none => m.at g := fun T m g => by
  have key : ∀ (T : Tr) (m0 : Mem), Mem.at (inM m0 mk' T ++ m) g = match toK T g with | some k => inB m0 g (mk'.at k) | none => m.at g := by
    intro T m0
    induction T with
    | nil => rfl
    | cons p r ih =>
      obtain ⟨k, g'⟩ := p
      show look _ ((g', _) :: (inM m0 mk' r ++ m)) g = _
      rw [look_cons]
      simp only [toK]
      by_cases h : g' = g
      · subst h
        rw [if_pos rfl, show Nat.beq g' g' = true by simp]
        rfl
      · rw [if_neg h, nbeqf.2 h]
        exact ih
  exact key T m
section
variable {C C1 : Cf} {m mk mk' : Mem} {T : Tr}
theorem back_stepI (hh : HoldsM C m) (ht : okT T = true) (hl : lentOK m mk T) (hk : keysIn T mk = true) (_hk' : keysIn T mk' = true) (hb' : backOK0 mk' T)
    (hst : Step (lentC C T) mk C1 mk') : Step C m (backC C C1 T) (inM m mk' T ++ m) := by
  have hx := hst.ext
  have h1 := hst.holds
  have hslot := hst.slot
  have hat : ∀ g, Mem.at (inM m mk' T ++ m) g = match toK T g with | some k => inB m g (mk'.at k) | none => m.at g := fun g => inM_at T m g
  have lt : ∀ {g b}, m.at g ≠ .gone → C.ι g = some b → b < C.w.heap.size := fun h i => BoxOK.lt hh h i
  have mutK : ∀ k b, (mk.at k).mut = true → (lentC C T).ι k = some b → ∃ g, toG T k = some g ∧ C.ι g = some b ∧ (m.at g).mut = true := fun k b hm hi => by
    have hkg : mk.at k ≠ .gone := by intro h; rw [h] at hm; cases hm
    obtain ⟨g, hg⟩ := keysIn_ok hk hkg
    have hi : (toG T k).bind C.ι = some b := hi
    rw [hg, Option.bind_some] at hi
    rcases lentOK_mem hl (toG_mem hg) with ⟨q, _⟩ | ⟨ver, nw, sz, xs, _, q⟩
    · exact absurd q hkg
    · exact ⟨g, hg, hi, by rw [q]; rfl⟩
  have keepS : ∀ b, C.S b → C1.w.heap[b]? = C.w.heap[b]? := fun b hb => hx.keep b (hh.sdom b hb) (fun k hm hi => by
    obtain ⟨g, _, i, mu⟩ := mutK k b hm hi
    exact hh.sep g b mu i hb)
  have keepG : ∀ g b, toK T g = none → m.at g ≠ .gone → C.ι g = some b → C1.w.heap[b]? = C.w.heap[b]? := fun g b hg hgo hi => hx.keep b (lt hgo hi) (fun k hm hik => by
    obtain ⟨g', e1, i, mu⟩ := mutK k b hm hik
    have : m.at g' ≠ .gone := by intro h; rw [h] at mu; cases mu
    have := hh.inj g g' b hgo this hi i
    subst this
    rw [(toGK ht).1 e1] at hg
    cases hg)
  have hd : ∀ n x v, RdF C n x v → RdF (backC C C1 T) n x v := fun n x v h => by
    cases n
    · exact Rd.mono h hx.sS keepS
    · exact Rd.mono h hx.sN (fun b hb => keepS b (hh.ns b hb))
  have hs : ∀ d v, RdS C m d v → RdS (backC C C1 T) (inM m mk' T ++ m) d v := by
    intro d v h
    cases d with
    | any => trivial
    | nil => exact h
    | grd b d => exact h.elim
    | aggd cs => exact h.elim
    | fnd _ _ => exact h.elim
    | dat n x => exact hd n x v h
    | own g ver lo len =>
      obtain ⟨ver', frz, nw, sz, xs, e1, e2, e3, e4⟩ := h
      cases hg : toK T g with
      | none =>
        refine ⟨ver', frz, nw, sz, xs, by rw [hat, hg]; exact e1, e2, e3, fun hv => ?_⟩
        obtain ⟨q1, q2⟩ := e4 hv
        refine ⟨q1, ?_⟩
        show OwnV C1.w sz (match toK T g with | some k => C1.ι k | none => C.ι g) lo len v
        rw [hg]
        unfold OwnV at *
        cases hi : C.ι g with
        | none => simp only [hi] at q2 ⊢; exact q2
        | some b =>
          simp only [hi] at q2 ⊢
          obtain ⟨cap, arr, T', fz, p1, p2, p3⟩ := q2
          exact ⟨cap, arr, T', fz, p1, (keepG g b hg (by rw [e1]; simp) hi).trans p2, p3⟩
      | some k =>
        rcases lentOK_mem hl (toK_mem hg) with ⟨_, q⟩ | ⟨ver2, nw2, sz2, xs2, q1, q2⟩
        · rw [e1] at q; cases q
        · rw [e1] at q2
          injection q2 with p1 p2 p3 p4 p5
          subst p1 p2 p3 p4 p5
          obtain ⟨nw1, sz1, xs1, f1⟩ := backOK0_mem hb' (toK_mem hg)
          refine ⟨ver', false, nw1, sz1, xs1, by rw [hat, hg]; simp only [f1, inB, e1, rowVer], e2, e3, fun hv => ?_⟩
          obtain ⟨r1, r2⟩ := e4 hv
          have hr0 : RdD (lentC C T) mk (.own k 0 lo len) v := ⟨0, false, nw, sz, xs, q1, Nat.le_refl _, e3, fun _ => ⟨r1, by
            show OwnV C.w sz ((toG T k).bind C.ι) lo len v
            rw [(toGK ht).2 hg]
            exact r2⟩⟩
          obtain ⟨w1, _, _, _, _, g1, _, _, g4⟩ := hslot _ _ hr0
          rw [f1] at g1
          injection g1 with z1 z2 z3 z4 z5
          subst z1 z2 z3 z4 z5
          obtain ⟨s1, s2⟩ := g4 rfl
          refine ⟨s1, ?_⟩
          show OwnV C1.w sz1 (match toK T g with | some k => C1.ι k | none => C.ι g) lo len v
          rw [hg]
          exact s2
    | ptr g off =>
      obtain ⟨frz, nw, cs, b, e1, e2, e3⟩ := h
      cases hg : toK T g with
      | none => exact ⟨frz, nw, cs, b, by rw [hat, hg]; exact e1, by show (match toK T g with | some k => C1.ι k | none => C.ι g) = _; rw [hg]; exact e2, e3⟩
      | some k =>
        rcases lentOK_mem hl (toK_mem hg) with ⟨_, q⟩ | ⟨_, _, _, _, _, q⟩ <;> rw [e1] at q <;> cases q
    | rptr g ver i off =>
      obtain ⟨ver', frz, nw, sz, xs, e1, e2, e3, e4⟩ := h
      cases hg : toK T g with
      | none =>
        refine ⟨ver', frz, nw, sz, xs, by rw [hat, hg]; exact e1, e2, e3, fun hv => ?_⟩
        obtain ⟨q1, b, q2, q3⟩ := e4 hv
        exact ⟨q1, b, by show (match toK T g with | some k => C1.ι k | none => C.ι g) = _; rw [hg]; exact q2, q3⟩
      | some k =>
        rcases lentOK_mem hl (toK_mem hg) with ⟨_, q⟩ | ⟨ver2, nw2, sz2, xs2, q1, q2⟩
        · rw [e1] at q; cases q
        · rw [e1] at q2
          injection q2 with p1 p2 p3 p4 p5
          subst p1 p2 p3 p4 p5
          obtain ⟨nw1, sz1, xs1, f1⟩ := backOK0_mem hb' (toK_mem hg)
          refine ⟨ver', false, nw1, sz1, xs1, by rw [hat, hg]; simp only [f1, inB, e1, rowVer], e2, e3, fun hv => ?_⟩
          obtain ⟨r1, b, r2, r3⟩ := e4 hv
          have hr0 : RdD (lentC C T) mk (.rptr k 0 i off) v := ⟨0, false, nw, sz, xs, q1, Nat.le_refl _, e3, fun _ => ⟨r1, b, by
            show (toG T k).bind C.ι = some b
            rw [(toGK ht).2 hg]
            exact r2, r3⟩⟩
          obtain ⟨w1, _, _, _, _, g1, _, _, g4⟩ := hslot _ _ hr0
          rw [f1] at g1
          injection g1 with z1 z2 z3 z4 z5
          subst z1 z2 z3 z4 z5
          obtain ⟨s1, b2, s2, s3⟩ := g4 rfl
          refine ⟨s1, b2, ?_, s3⟩
          show (match toK T g with | some k => C1.ι k | none => C.ι g) = _
          rw [hg]
          exact s2
    | mp g =>
      obtain ⟨kt, et, es, b, e1, e2, e3⟩ := h
      cases hg : toK T g with
      | none => exact ⟨kt, et, es, b, by rw [hat, hg]; exact e1, by show (match toK T g with | some k => C1.ι k | none => C.ι g) = _; rw [hg]; exact e2, e3⟩
      | some k =>
        rcases lentOK_mem hl (toK_mem hg) with ⟨_, q⟩ | ⟨_, _, _, _, _, q⟩ <;> rw [e1] at q <;> cases q
    | sl g n =>
      obtain ⟨frz, nw, cs, b, cap, e1, e2, e3⟩ := h
      cases hg : toK T g with
      | none => exact ⟨frz, nw, cs, b, cap, by rw [hat, hg]; exact e1, by show (match toK T g with | some k => C1.ι k | none => C.ι g) = _; rw [hg]; exact e2, e3⟩
      | some k =>
        rcases lentOK_mem hl (toK_mem hg) with ⟨_, q⟩ | ⟨_, _, _, _, _, q⟩ <;> rw [e1] at q <;> cases q
  have ownB : ∀ k b, (mk'.at k).mut = true → C1.ι k = some b → C.w.heap.size ≤ b ∨ ∃ g, (m.at g).mut = true ∧ C.ι g = some b ∧ toK T g ≠ none := fun k b hm hi => by
    rcases hx.own k b hm hi with q | ⟨k0, q1, q2⟩
    · exact .inl q
    · obtain ⟨g, e1, e2, e3⟩ := mutK k0 b q1 q2
      exact .inr ⟨g, e3, e2, by rw [(toGK ht).1 e1]; simp⟩
  have mutR : ∀ g k, toK T g = some k → (mk'.at k).mut = true := fun g k hg => by
    obtain ⟨nw1, sz1, xs1, f1⟩ := backOK0_mem hb' (toK_mem hg)
    rw [f1]; rfl
  have cross : ∀ g g' k b, toK T g = some k → toK T g' = none → m.at g' ≠ .gone → C1.ι k = some b → C.ι g' = some b → False := fun g g' k b hg hg' hgo i1 i2 => by
    rcases ownB k b (mutR g k hg) i1 with q | ⟨g0, q1, q2, q3⟩
    · have := lt hgo i2; omega
    · have hne : m.at g0 ≠ .gone := by intro h; rw [h] at q1; cases q1
      have := hh.inj g0 g' b hne hgo q2 i2
      subst this
      exact q3 hg'
  refine ⟨⟨hx.os, hx.tape, hx.output, hx.size, fun b hb hn => hx.keep b hb (fun k hm hi => ?_), fun g b h2 h3 => ?_, hx.sS, hx.sN, hx.supS, fun b hb => ?_⟩, ⟨fun g => ?_, fun g g' b h2 h3 i1 i2 => ?_, fun g b h2 h3 h4 => ?_, h1.sdom, h1.ns⟩, RdD.of_S hs⟩
  · obtain ⟨g, _, e2, e3⟩ := mutK k b hm hi
    exact hn g e3 e2
  · rw [hat] at h2
    have h3 : (match toK T g with | some k => C1.ι k | none => C.ι g) = some b := h3
    cases hg : toK T g with
    | none => rw [hg] at h2 h3; exact .inr ⟨g, h2, h3⟩
    | some k =>
      rw [hg] at h3
      rcases ownB k b (mutR g k hg) h3 with q | ⟨g0, q1, q2, _⟩
      · exact .inl q
      · exact .inr ⟨g0, q1, q2⟩
  · rcases hx.supN b hb with q | q | ⟨k, q1, q2⟩
    · exact .inl q
    · exact .inr (.inl q)
    · obtain ⟨g, _, e2, e3⟩ := mutK k b q1 q2
      exact .inr (.inr ⟨g, e3, e2⟩)
  · rw [hat]
    show BoxOK _ _ (match toK T g with | some k => C1.ι k | none => C.ι g) _
    cases hg : toK T g with
    | none =>
      by_cases hgo : m.at g = .gone
      · simp only [hgo]; trivial
      · exact BoxOK.upd (hh.box g) (fun b hb => keepG g b hg hgo hb) hd hs hx.sS hx.sN
    | some k =>
      obtain ⟨nw1, sz1, xs1, f1⟩ := backOK0_mem hb' (toK_mem hg)
      have hb := h1.box k
      rw [f1] at hb
      simp only [f1, inB]
      cases hi : C1.ι k with
      | none => rw [hi] at hb; exact hb
      | some b => rw [hi] at hb; exact hb
  · rw [hat] at h2 h3
    have i1 : (match toK T g with | some k => C1.ι k | none => C.ι g) = some b := i1
    have i2 : (match toK T g' with | some k => C1.ι k | none => C.ι g') = some b := i2
    cases hg : toK T g with
    | none =>
      cases hg' : toK T g' with
      | none =>
        rw [hg] at h2 i1
        rw [hg'] at h3 i2
        exact hh.inj g g' b h2 h3 i1 i2
      | some k' =>
        rw [hg] at h2 i1
        rw [hg'] at i2
        exact (cross g' g k' b hg' hg h2 i2 i1).elim
    | some k =>
      cases hg' : toK T g' with
      | none =>
        rw [hg] at i1
        rw [hg'] at h3 i2
        exact (cross g g' k b hg hg' h3 i1 i2).elim
      | some k' =>
        rw [hg] at i1
        rw [hg'] at i2
        have hm : mk'.at k ≠ .gone := by intro h; have := mutR g k hg; rw [h] at this; cases this
        have hm' : mk'.at k' ≠ .gone := by intro h; have := mutR g' k' hg'; rw [h] at this; cases this
        have := h1.inj k k' b hm hm' i1 i2
        subst this
        have q1 := (toGK ht).2 hg
        have q2 := (toGK ht).2 hg'
        rw [q1] at q2
        injection q2
  · have h3 : (match toK T g with | some k => C1.ι k | none => C.ι g) = some b := h3
    have h4 : C1.S b := h4
    rw [hat] at h2
    cases hg : toK T g with
    | some k =>
      rw [hg] at h3
      exact h1.sep k b (mutR g k hg) h3 h4
    | none =>
      rw [hg] at h2 h3
      have hgo : m.at g ≠ .gone := by intro h; rw [h] at h2; cases h2
      rcases hx.supS b h4 with q | q
      · exact hh.sep g b h2 h3 q
      · rcases hx.supN b q with q | q | ⟨k0, q1, q2⟩
        · exact hh.sep g b h2 h3 (hh.ns b q)
        · have q : C.w.heap.size ≤ b := q
          have := lt hgo h3; omega
        · obtain ⟨g0, e1, e2, e3⟩ := mutK k0 b q1 q2
          have hne : m.at g0 ≠ .gone := by intro h; rw [h] at e3; cases e3
          have := hh.inj g0 g b hne hgo e2 h3
          subst this
          rw [(toGK ht).1 e1] at hg
          cases hg
end
section
variable {P : Program} {e : Operand → D} {m : Mem} {dst : Option Tmp} {ty : TypeId} {pos : String} {af : Array Edge} {gd : Option (Nat × Bool)} {x y : Operand} {t : TypeId}
theorem S_callI {f : FuncId} {args : Array Operand} {ats : Array TypeId} {ds : List D} {ver sz sz' : Nat} {nw nw' : Bool} {xs xs' : List (List V)} (g : Nat) (hc : FnI P f ds [(1000, .row 0 false nw sz xs)] [(1000, .row 0 false nw' sz' xs')])
    (ha : lendL m [(1000, g)] (args.toList.map e) = some ds) (hmg : m.at g = .row ver false nw sz xs) :
    SStep P ⟨dst, .call { callee := .value (.func f), args := args, argTypes := ats }, ty, pos, af, gd⟩ e m ((args.toList.map e).flatMap (refs m)) .any [(g, .row ver false nw' sz' xs')] := by
  intro C m' a next Q hag hm hx hn
  have hmg' : m'.at g = .row ver false nw sz xs := (hag g (.inr (by simp))).trans hmg
  have ht : okT [(1000, g)] = true := rfl
  have hl : lentOK m' [(1000, .row 0 false nw sz xs)] [(1000, g)] := ⟨.inr ⟨ver, nw, sz, xs, rfl, hmg'⟩, trivial⟩
  have hagT : ∀ g', g' ∈ (args.toList.map e).flatMap (refs m) ∨ g' ∈ ([(1000, g)] : Tr).map (·.2) → m'.at g' = m.at g' := fun g' hg => by
    rcases hg with hg | hg
    · exact hag g' (.inl hg)
    · exact hag g' (.inr (by simpa using hg))
  obtain ⟨hlen, hall⟩ := lendL_ok hm ht hl (args.toList.map e) ds hagT ha
  have hrun : (execOp a.eval ⟨dst, .call { callee := .value (.func f), args := args, argTypes := ats }, ty, pos, af, gd⟩).run P C.w = .ok (.enter f (args.map a.eval)) C.w := by
    have hev : a.eval (.func f) = .func (.func f) #[] #[] := rfl
    simp only [execOp, resolve, hev, Deferred.ofValue, Sem.run_bind, Sem.run_pure, Result.andThen_ok, invoke, run_callFunc hc.1]
    simp
  unfold Oper.wp
  rw [hrun]
  show Calls P f (args.map a.eval) C.w _
  refine (hc.2 (lentC C [(1000, g)]) (args.map a.eval) (lent_holds hm ht hl rfl) (by rw [hlen]; simp) ?_).mono ?_
  · intro j d v hd hv
    simp only [Array.getElem?_map, Option.map_eq_some_iff] at hv
    obtain ⟨o, ho, rfl⟩ := hv
    have ho' : (args.toList.map e)[j]? = some (e o) := by simp [ho]
    exact hall j (e o) d _ ho' hd (hx o (by simp only [Op.operands, Call.operands]; exact Array.mem_append.2 (.inr (Array.mem_of_getElem? ho))))
  · rintro e' w' ⟨v, C1, rfl, rfl, hst⟩
    have h2 := back_stepI hm ht hl rfl rfl ⟨⟨nw', sz', xs', rfl⟩, trivial⟩ hst
    have e1 : inM m' [(1000, .row 0 false nw' sz' xs')] [(1000, g)] = [(g, .row ver false nw' sz' xs')] := by
      have : Mem.at [(1000, Box.row 0 false nw' sz' xs')] 1000 = .row 0 false nw' sz' xs' := rfl
      simp [inM, inB, hmg', rowVer, this]
    rw [e1] at h2
    exact hn v (backC C C1 [(1000, g)]) h2 trivial
end
end Go.Proofs.Ytfmaehhloffabaa
