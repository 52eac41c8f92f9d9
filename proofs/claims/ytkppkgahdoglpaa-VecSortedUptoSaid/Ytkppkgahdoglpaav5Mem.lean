/- The D-machine, part 5: what memory-making and writing does to the state. -/
import Derived.Test.Ytkppkgahdoglpaav4Addr
namespace Go.Proofs.Ytkppkgahdoglpaa
open Go.RowKit
theorem Mem.at_cons_same (g : Nat) (b : Box) (m : Mem) : Mem.at ((g, b) :: m) g = b := look_same _ _ _ _
theorem Mem.at_cons_other {g g' : Nat} (b : Box) (m : Mem) (h : g ≠ g') : Mem.at ((g, b) :: m) g' = m.at g' := look_other _ _ _ _ _ h
theorem BoxOK.lt {C : Cf} {m : Mem} (h : HoldsM C m) {g b : Nat} (hg : m.at g ≠ .gone) (hi : C.ι g = some b) : b < C.w.heap.size := by
  have hb := h.box g
  have aux : ∀ {o : Obj}, C.w.heap[b]? = some o → b < C.w.heap.size := fun ho => (Array.getElem?_eq_some_iff.1 ho).1
  rw [hi] at hb
  cases hm : m.at g with
  | gone => exact absurd hm hg
  | cells frz nw cs =>
    rw [hm] at hb
    obtain ⟨b', hb', arr, T, fz, h1, _⟩ := hb
    injection hb' with hb'
    subst hb'
    exact aux h1
  | row ver frz nw sz xs =>
    rw [hm] at hb
    obtain ⟨arr, T, fz, h1, _⟩ := hb
    exact aux h1
  | mapb kt et es =>
    rw [hm] at hb
    obtain ⟨b', hb', ents, clock, h1, _⟩ := hb
    injection hb' with hb'
    subst hb'
    exact aux h1
theorem RdS.upd {C C' : Cf} {m m' : Mem} (g : Nat) (hm : ∀ g', g' ≠ g → m.at g' ≠ .gone → m'.at g' = m.at g') (hi : ∀ g', g' ≠ g → m.at g' ≠ .gone → C'.ι g' = C.ι g')
    (hh : ∀ g' b, g' ≠ g → m.at g' ≠ .gone → C.ι g' = some b → C'.w.heap[b]? = C.w.heap[b]?) (hd : ∀ n x v, RdF C n x v → RdF C' n x v)
    (hown : ∀ ver lo len v, RdS C m (.own g ver lo len) v → RdS C' m' (.own g ver lo len) v) (hptr : ∀ off v, RdS C m (.ptr g off) v → RdS C' m' (.ptr g off) v)
    (hrptr : ∀ ver i off v, RdS C m (.rptr g ver i off) v → RdS C' m' (.rptr g ver i off) v) (hmp : ∀ v, RdS C m (.mp g) v → RdS C' m' (.mp g) v) :
    ∀ d v, RdS C m d v → RdS C' m' d v := by
  intro d v h
  cases d with
  | any => trivial
  | nil => exact h
  | grd b d => exact h.elim
  | aggd cs => exact h.elim
  | fnd _ _ => exact h.elim
  | dat n x => exact hd n x v h
  | own g' ver lo len =>
    by_cases hg : g' = g
    · subst hg; exact hown ver lo len v h
    · obtain ⟨ver', frz, nw, sz, xs, hat, hle, hsl, ho⟩ := h
      have hne : m.at g' ≠ .gone := by rw [hat]; simp
      refine ⟨ver', frz, nw, sz, xs, (hm g' hg hne).trans hat, hle, hsl, fun hv => ?_⟩
      obtain ⟨hl, ho⟩ := ho hv
      refine ⟨hl, ?_⟩
      rw [hi g' hg hne]
      unfold OwnV at *
      cases hio : C.ι g' with
      | none => simp only [hio] at ho ⊢; exact ho
      | some b =>
        simp only [hio] at ho ⊢
        obtain ⟨cap, arr, T, fz, h1, h2, h3⟩ := ho
        exact ⟨cap, arr, T, fz, h1, (hh g' b hg hne hio).trans h2, h3⟩
  | ptr g' off =>
    by_cases hg : g' = g
    · subst hg; exact hptr off v h
    · obtain ⟨frz, nw, cs, b, hat, hio, hv⟩ := h
      have hne : m.at g' ≠ .gone := by rw [hat]; simp
      exact ⟨frz, nw, cs, b, (hm g' hg hne).trans hat, (hi g' hg hne).trans hio, hv⟩
  | rptr g' ver i off =>
    by_cases hg : g' = g
    · subst hg; exact hrptr ver i off v h
    · obtain ⟨ver', frz, nw, sz, xs, hat, hle, hsl, ho⟩ := h
      have hne : m.at g' ≠ .gone := by rw [hat]; simp
      refine ⟨ver', frz, nw, sz, xs, (hm g' hg hne).trans hat, hle, hsl, fun hv => ?_⟩
      rw [hi g' hg hne]
      exact ho hv
  | mp g' =>
    by_cases hg : g' = g
    · subst hg; exact hmp v h
    · obtain ⟨kt, et, es, b, hat, hio, hv⟩ := h
      have hne : m.at g' ≠ .gone := by rw [hat]; simp
      exact ⟨kt, et, es, b, (hm g' hg hne).trans hat, (hi g' hg hne).trans hio, hv⟩
  | sl g' n =>
    obtain ⟨frz, nw, cs, b, cap, hat, hio, hv, hn, hc⟩ := h
    by_cases hg : g' = g
    · subst hg
      obtain ⟨frz', nw', cs', b', h1, h2, h3⟩ := hptr 0 (.pointer (some ⟨b, 0, none⟩)) ⟨frz, nw, cs, b, hat, hio, rfl⟩
      injection h3 with h3; injection h3 with h3; injection h3 with h3
      subst h3
      exact ⟨frz', nw', cs', b, cap, h1, h2, hv, hn, hc⟩
    · have hne : m.at g' ≠ .gone := by rw [hat]; simp
      exact ⟨frz, nw, cs, b, cap, (hm g' hg hne).trans hat, (hi g' hg hne).trans hio, hv, hn, hc⟩
theorem RdD.of_S {C C' : Cf} {m m' : Mem} (hs : ∀ d v, RdS C m d v → RdS C' m' d v) : ∀ d v, RdD C m d v → RdD C' m' d v := by
  intro d
  cases d with
  | grd b d =>
    intro v h
    exact ⟨fun hb => RdD.of_S hs d v (h.1 hb), h.2⟩
  | aggd cs =>
    rintro v ⟨vs, hv, hl, h⟩
    exact ⟨vs, hv, hl, fun j d c hd hc => hs _ _ (h j d c hd hc)⟩
  | fnd f cs =>
    rintro v ⟨vs, hv, hl, h⟩
    exact ⟨vs, hv, hl, fun j d c hd hc => hs _ _ (h j d c hd hc)⟩
  | _ => intro v h; exact hs _ v h
theorem BoxOK.upd {C C' : Cf} {m m' : Mem} {ob : Option Nat} {bx : Box} (h : BoxOK C m ob bx) (hh : ∀ b, ob = some b → C'.w.heap[b]? = C.w.heap[b]?)
    (hd : ∀ n x v, RdF C n x v → RdF C' n x v) (hs : ∀ d v, RdS C m d v → RdS C' m' d v) (hS : ∀ b, C.S b → C'.S b) (hN : ∀ b, C.N b → C'.N b) : BoxOK C' m' ob bx := by
  have hD : ∀ nw b, C.D nw b → C'.D nw b := fun nw b h => by cases nw <;> first | exact hS b h | exact hN b h
  cases bx with
  | gone => trivial
  | cells frz nw cs =>
    obtain ⟨b, hb, arr, T, fz, h1, h2, h3, h4, h5⟩ := h
    exact ⟨b, hb, arr, T, fz, (hh b hb).trans h1, h2, h3, fun j d c hd hc => hs _ _ (h4 j d c hd hc), fun hf => hD _ _ (h5 hf)⟩
  | row ver frz nw sz xs =>
    cases ob with
    | none => exact h
    | some b =>
      obtain ⟨arr, T, fz, h1, h2, h3, h4, h5, h6, h7⟩ := h
      exact ⟨arr, T, fz, (hh b rfl).trans h1, h2, h3, h4, h5, fun i j e d c he hdd hc => hd _ _ _ (h6 i j e d c he hdd hc), fun hf => hN _ (h7 hf)⟩
  | mapb kt et es =>
    obtain ⟨b, hb, ents, clock, h1, h2, h3, h4⟩ := h
    exact ⟨b, hb, ents, clock, (hh b hb).trans h1, h2, h3, fun i p e hp he => by
      obtain ⟨q1, q2, q3⟩ := h4 i p e hp he
      exact ⟨Rd.mono q1 (fun _ h => h.elim) (fun _ h => h.elim), Rd.mono q2 (fun _ h => h.elim) (fun _ h => h.elim), q3⟩⟩
def Cf.set (C : Cf) (g : Nat) (ob : Option Nat) (w : World) : Cf := { C with ι := fun k => if k = g then ob else C.ι k, w := w }
@[simp] theorem Cf.set_same (C : Cf) (g : Nat) (ob : Option Nat) (w : World) : (C.set g ob w).ι g = ob := by simp [Cf.set]
theorem Cf.set_other (C : Cf) {g g' : Nat} (ob : Option Nat) (w : World) (h : g' ≠ g) : (C.set g ob w).ι g' = C.ι g' := by simp [Cf.set, h]
structure Grew (w w' : World) : Prop where
  os : w'.os = w.os
  tape : w'.tape = w.tape
  output : w'.output = w.output
  size : w.heap.size ≤ w'.heap.size
  block : ∀ b, b < w.heap.size → w'.heap[b]? = w.heap[b]?
theorem Grew.alloc (w : World) (o : Obj) : Grew w (w.alloc o) := ⟨rfl, rfl, rfl, by simp, fun b hb => Below.heap_alloc w o b hb⟩
theorem Grew.refl (w : World) : Grew w w := ⟨rfl, rfl, rfl, Nat.le_refl _, fun _ _ => rfl⟩
theorem Grew.trans {a b c : World} (h : Grew a b) (k : Grew b c) : Grew a c :=
  ⟨k.os.trans h.os, k.tape.trans h.tape, k.output.trans h.output, Nat.le_trans h.size k.size, fun i hi => (k.block i (Nat.lt_of_lt_of_le hi h.size)).trans (h.block i hi)⟩
theorem Step.fresh {C : Cf} {m : Mem} {g : Nat} {ob : Option Nat} {w : World} {bx : Box} (hm : HoldsM C m) (hg : m.at g = .gone) (hw : Grew C.w w)
    (hob : ∀ b, ob = some b → C.w.heap.size ≤ b)
    (hbx : (∀ n x v, RdF C n x v → RdF (C.set g ob w) n x v) → (∀ d v, RdS C m d v → RdS (C.set g ob w) ((g, bx) :: m) d v) → BoxOK (C.set g ob w) ((g, bx) :: m) ob bx) :
    Step C m (C.set g ob w) ((g, bx) :: m) := by
  have hne : ∀ {g'}, m.at g' ≠ .gone → g' ≠ g := fun h e => h (e ▸ hg)
  have hlt : ∀ {g' b}, m.at g' ≠ .gone → C.ι g' = some b → b < C.w.heap.size := fun h hi => BoxOK.lt hm h hi
  have hd : ∀ n x v, RdF C n x v → RdF (C.set g ob w) n x v := fun n x v h => by
    cases n
    · exact Rd.mono h (fun _ h => h) (fun b hb => hw.block b (hm.sdom b hb))
    · exact Rd.mono h (fun _ h => h) (fun b hb => hw.block b (hm.sdom b (hm.ns b hb)))
  have hs : ∀ d v, RdS C m d v → RdS (C.set g ob w) ((g, bx) :: m) d v := by
    refine RdS.upd g (fun g' h _ => Mem.at_cons_other _ _ (Ne.symm h)) (fun g' h _ => Cf.set_other _ _ _ h) (fun g' b h h1 h2 => hw.block b (hlt h1 h2)) hd ?_ ?_ ?_ ?_
    · rintro ver lo len v ⟨_, _, _, _, _, hat, _⟩; rw [hg] at hat; cases hat
    · rintro off v ⟨_, _, _, _, hat, _⟩; rw [hg] at hat; cases hat
    · rintro ver i off v ⟨_, _, _, _, _, hat, _⟩; rw [hg] at hat; cases hat
    · rintro v ⟨_, _, _, _, hat, _⟩; rw [hg] at hat; cases hat
  refine ⟨⟨hw.os, hw.tape, hw.output, hw.size, fun b hb _ => hw.block b hb, fun g' b h1 h2 => ?_, fun _ h => h, fun _ h => h, fun _ h => .inl h, fun _ h => .inl h⟩, ⟨fun g' => ?_, ?_, ?_, ?_, hm.ns⟩, RdD.of_S hs⟩
  · by_cases h : g' = g
    · subst h
      rw [Cf.set_same] at h2
      exact .inl (hob b h2)
    · rw [Mem.at_cons_other _ _ (Ne.symm h)] at h1
      rw [Cf.set_other _ _ _ h] at h2
      exact .inr ⟨g', h1, h2⟩
  · by_cases h : g' = g
    · subst h
      rw [Mem.at_cons_same, Cf.set_same]
      exact hbx hd hs
    · rw [Mem.at_cons_other _ _ (Ne.symm h), Cf.set_other _ _ _ h]
      by_cases hgo : m.at g' = .gone
      · rw [hgo]; trivial
      · exact BoxOK.upd (hm.box g') (fun b hb => hw.block b (hlt hgo hb)) hd hs (fun _ h => h) (fun _ h => h)
  · intro g1 g2 b h1 h2 i1 i2
    by_cases e1 : g1 = g <;> by_cases e2 : g2 = g
    · rw [e1, e2]
    · subst e1
      rw [Cf.set_same] at i1
      rw [Cf.set_other _ _ _ e2] at i2
      rw [Mem.at_cons_other _ _ (Ne.symm e2)] at h2
      have := hob b i1
      have := hlt h2 i2
      omega
    · subst e2
      rw [Cf.set_same] at i2
      rw [Cf.set_other _ _ _ e1] at i1
      rw [Mem.at_cons_other _ _ (Ne.symm e1)] at h1
      have := hob b i2
      have := hlt h1 i1
      omega
    · rw [Cf.set_other _ _ _ e1] at i1
      rw [Cf.set_other _ _ _ e2] at i2
      rw [Mem.at_cons_other _ _ (Ne.symm e1)] at h1
      rw [Mem.at_cons_other _ _ (Ne.symm e2)] at h2
      exact hm.inj g1 g2 b h1 h2 i1 i2
  · intro g' b h1 h2 h3
    by_cases h : g' = g
    · subst h
      rw [Cf.set_same] at h2
      have := hob b h2
      have := hm.sdom b h3
      omega
    · rw [Mem.at_cons_other _ _ (Ne.symm h)] at h1
      rw [Cf.set_other _ _ _ h] at h2
      exact hm.sep g' b h1 h2 h3
  · intro b hb
    exact Nat.lt_of_lt_of_le (hm.sdom b hb) hw.size
theorem Step.write {C : Cf} {m : Mem} {g b : Nat} {w : World} {bx : Box} (hm : HoldsM C m) (hg : (m.at g).mut = true) (hi : C.ι g = some b)
    (hos : w.os = C.w.os) (htp : w.tape = C.w.tape) (hout : w.output = C.w.output) (hsz : w.heap.size = C.w.heap.size) (hk : ∀ k, k ≠ b → w.heap[k]? = C.w.heap[k]?)
    (hown : ∀ ver lo len v, RdS C m (.own g ver lo len) v → RdS { C with w := w } ((g, bx) :: m) (.own g ver lo len) v) (hptr : ∀ off v, RdS C m (.ptr g off) v → RdS { C with w := w } ((g, bx) :: m) (.ptr g off) v)
    (hrptr : ∀ ver i off v, RdS C m (.rptr g ver i off) v → RdS { C with w := w } ((g, bx) :: m) (.rptr g ver i off) v) (hmp : ∀ v, RdS C m (.mp g) v → RdS { C with w := w } ((g, bx) :: m) (.mp g) v)
    (hbx : (∀ n x v, RdF C n x v → RdF { C with w := w } n x v) → (∀ d v, RdS C m d v → RdS { C with w := w } ((g, bx) :: m) d v) → BoxOK { C with w := w } ((g, bx) :: m) (some b) bx) :
    Step C m { C with w := w } ((g, bx) :: m) := by
  have hgo : m.at g ≠ .gone := by intro h; rw [h] at hg; simp [Box.mut] at hg
  have hbS : ¬ C.S b := hm.sep g b hg hi
  have hkS : ∀ k, C.S k → w.heap[k]? = C.w.heap[k]? := fun k hks => hk k (fun e => hbS (e ▸ hks))
  have hkg : ∀ g' k, g' ≠ g → m.at g' ≠ .gone → C.ι g' = some k → w.heap[k]? = C.w.heap[k]? := fun g' k hne h1 h2 => hk k (fun e => hne (hm.inj g' g k h1 hgo h2 (e ▸ hi)))
  have hd : ∀ n x v, RdF C n x v → RdF { C with w := w } n x v := fun n x v h => by
    cases n
    · exact Rd.mono h (fun _ h => h) hkS
    · exact Rd.mono h (fun _ h => h) (fun k h => hkS k (hm.ns k h))
  have hs : ∀ d v, RdS C m d v → RdS { C with w := w } ((g, bx) :: m) d v :=
    RdS.upd g (fun g' h _ => Mem.at_cons_other _ _ (Ne.symm h)) (fun _ _ _ => rfl) hkg hd hown hptr hrptr hmp
  refine ⟨⟨hos, htp, hout, Nat.le_of_eq hsz.symm, fun k hkl hn => hk k (fun e => hn g hg (e ▸ hi)), fun g' k h1 h2 => ?_, fun _ h => h, fun _ h => h, fun _ h => .inl h, fun _ h => .inl h⟩, ⟨fun g' => ?_, ?_, ?_, ?_, hm.ns⟩, RdD.of_S hs⟩
  · by_cases h : g' = g
    · subst h; exact .inr ⟨g', hg, h2⟩
    · rw [Mem.at_cons_other _ _ (Ne.symm h)] at h1
      exact .inr ⟨g', h1, h2⟩
  · by_cases h : g' = g
    · subst h
      rw [Mem.at_cons_same]
      show BoxOK _ _ (C.ι g') bx
      rw [hi]
      exact hbx hd hs
    · rw [Mem.at_cons_other _ _ (Ne.symm h)]
      by_cases hgo' : m.at g' = .gone
      · rw [hgo']; trivial
      · exact BoxOK.upd (hm.box g') (fun k hkk => hkg g' k h hgo' hkk) hd hs (fun _ h => h) (fun _ h => h)
  · intro g1 g2 k h1 h2 i1 i2
    refine hm.inj g1 g2 k ?_ ?_ i1 i2
    · by_cases e : g1 = g
      · rw [e]; exact hgo
      · rwa [Mem.at_cons_other _ _ (Ne.symm e)] at h1
    · by_cases e : g2 = g
      · rw [e]; exact hgo
      · rwa [Mem.at_cons_other _ _ (Ne.symm e)] at h2
  · intro g' k h1 h2 h3
    by_cases e : g' = g
    · subst e; exact hm.sep g' k hg h2 h3
    · rw [Mem.at_cons_other _ _ (Ne.symm e)] at h1
      exact hm.sep g' k h1 h2 h3
  · intro k hks
    show k < w.heap.size
    rw [hsz]; exact hm.sdom k hks
end Go.Proofs.Ytkppkgahdoglpaa
