/- The D-machine, part 12: states read as weaker ones: slots and boxes forgotten, renamed, frozen; nil as an empty row. -/
import Derived.Test.YtfmaehhloffabaaybArith
namespace Go.Proofs.Ytfmaehhloffabaa
open Go.RowKit
def ownView (m : Mem) : D → Option (Nat × Nat × Nat × Bool × Bool × Nat × List (List V))
  | .own g ver lo len => match m.at g with
    | .row ver' frz nw sz xs => bif Nat.beq ver ver' then some (g, lo, len, frz, nw, sz, xs) else none
    | _ => none
  | _ => none
theorem ownView_ok {m : Mem} {d : D} {g lo len sz : Nat} {frz nw : Bool} {xs : List (List V)} (h : ownView m d = some (g, lo, len, frz, nw, sz, xs)) : ∃ ver, d = .own g ver lo len ∧ m.at g = .row ver frz nw sz xs := by
  cases d with
  | own g' ver lo' len' =>
    simp only [ownView] at h
    cases hm : m.at g' with
    | row ver' frz' nw' sz' xs' =>
      simp only [hm] at h
      cases hb : Nat.beq ver ver' with
      | false => simp [hb] at h
      | true =>
        simp only [hb, cond_true, Option.some.injEq, Prod.mk.injEq] at h
        obtain ⟨rfl, rfl, rfl, rfl, rfl, rfl, rfl⟩ := h
        have := Nat.eq_of_beq_eq_true hb
        subst this
        exact ⟨ver, rfl, hm⟩
    | _ => simp [hm] at h
  | _ => simp [ownView] at h
def capLe (e : Mem) (ρ : Nat → Option Nat) : D → D → Prop
  | d, .ptr g off => ∃ g0 frz nw cs, ρ g = some g0 ∧ d = .ptr g0 off ∧ e.at g = .cells frz nw cs
  | _, _ => False
def capsLe (e : Mem) (ρ : Nat → Option Nat) : List D → List D → Prop
  | [], [] => True
  | a :: r, b :: r' => capLe e ρ a b ∧ capsLe e ρ r r'
  | _, _ => False
theorem capsLe_get {e : Mem} {ρ : Nat → Option Nat} : ∀ {l l' : List D}, capsLe e ρ l l' → l.length = l'.length ∧ ∀ (j : Nat) d d', l[j]? = some d → l'[j]? = some d' → capLe e ρ d d'
  | [], [], _ => ⟨rfl, by simp⟩
  | a :: r, b :: r', h => by
    obtain ⟨h1, h2⟩ := capsLe_get h.2
    refine ⟨by simp [h1], fun j d d' q q' => ?_⟩
    cases j with
    | zero => simp only [List.getElem?_cons_zero, Option.some.injEq] at q q'; subst q q'; exact h.1
    | succ j => exact h2 j d d' (by simpa using q) (by simpa using q')
  | [], _ :: _, h => h.elim
  | _ :: _, [], h => h.elim
def slotLe (s e : Mem) (ρ : Nat → Option Nat) (d : D) : D → Prop
  | .any => True
  | .nil => d = .nil
  | .dat n x => ∃ n', asV s d = some (n', x) ∧ (n' = n ∨ n = false ∨ x.flatB = true)
  | .own g ver lo len => match ρ g with
    | some g0 => ∃ r, ownView s d = some (g0, r) ∧ ownView e (.own g ver lo len) = some (g, r)
    | none => d = .nil ∧ ∃ nw sz, ownView e (.own g ver lo len) = some (g, 0, 0, false, nw, sz, [])
  | .ptr g off => ∃ g0 frz nw cs, ρ g = some g0 ∧ d = .ptr g0 off ∧ e.at g = .cells frz nw cs
  | .rptr g ver i off => ∃ g0 frz nw sz xs ver0, ρ g = some g0 ∧ d = .rptr g0 ver0 i off ∧ s.at g0 = .row ver0 frz nw sz xs ∧ e.at g = .row ver frz nw sz xs
  | .mp g => ∃ g0 kt et es, ρ g = some g0 ∧ d = .mp g0 ∧ e.at g = .mapb kt et es
  | .sl g n => ∃ g0 frz nw cs, ρ g = some g0 ∧ d = .sl g0 n ∧ e.at g = .cells frz nw cs
  | .grd _ _ => False
  | .aggd _ => False
  | .fnd f cs => ∃ cs0, d = .fnd f cs0 ∧ capsLe e ρ cs0 cs
def listLe (s e : Mem) (ρ : Nat → Option Nat) : List D → List D → Prop
  | [], [] => True
  | d :: r, d' :: r' => slotLe s e ρ d d' ∧ listLe s e ρ r r'
  | _, _ => False
def boxLe (s e : Mem) (ρ : Nat → Option Nat) (g : Nat) : Box → Prop
  | .gone => True
  | .row _ frz nw sz xs => match ρ g with
    | some g0 => ∃ ver0, s.at g0 = .row ver0 frz nw sz xs
    | none => xs = [] ∧ frz = false
  | .cells frz nw cs' => ∃ g0 cs, ρ g = some g0 ∧ s.at g0 = .cells frz nw cs ∧ listLe s e ρ cs cs'
  | .mapb kt et es => ∃ g0, ρ g = some g0 ∧ s.at g0 = .mapb kt et es
def envLe (s : St) (e : St) (ρ : Nat → Option Nat) : Env → Prop
  | [] => True
  | (t, d') :: r => slotLe s.mem e.mem ρ (s.env.at t) d' ∧ envLe s e ρ r
def memLe (s : St) (e : St) (ρ : Nat → Option Nat) : Mem → Prop
  | [] => True
  | (g, b) :: r => boxLe s.mem e.mem ρ g b ∧ memLe s e ρ r
def injOn (ρ : Nat → Option Nat) : List Nat → Bool
  | [] => true
  | g :: r => r.all (fun g' => Nat.beq g g' || (match ρ g, ρ g' with | some a, some b => !Nat.beq a b | _, _ => true)) && injOn ρ r
theorem envLe_at {s e : St} {ρ : Nat → Option Nat} : ∀ {l : Env}, envLe s e ρ l → ∀ t, slotLe s.mem e.mem ρ (s.env.at t) (Env.at l t)
  | [], _, t => trivial
  | (u, d) :: r, h, t => by
    unfold Env.at
    rw [look_cons]
    by_cases hu : u = t
    · subst hu; rw [if_pos rfl]; exact h.1
    · rw [if_neg hu]; exact envLe_at h.2 t
theorem memLe_at {s e : St} {ρ : Nat → Option Nat} : ∀ {l : Mem}, memLe s e ρ l → ∀ g, boxLe s.mem e.mem ρ g (Mem.at l g)
  | [], _, g => trivial
  | (u, d) :: r, h, g => by
    unfold Mem.at
    rw [look_cons]
    by_cases hu : u = g
    · subst hu; rw [if_pos rfl]; exact h.1
    · rw [if_neg hu]; exact memLe_at h.2 g
theorem mem_keys {l : Mem} {g : Nat} (h : l.at g ≠ .gone) : g ∈ l.map (·.1) := by
  induction l with
  | nil => exact absurd rfl h
  | cons p r ih =>
    obtain ⟨u, b⟩ := p
    unfold Mem.at at *
    rw [look_cons] at h
    by_cases hu : u = g
    · simp [hu]
    · rw [if_neg hu] at h
      simp only [List.map_cons, List.mem_cons]
      exact .inr (ih h)
theorem injOn_ok {ρ : Nat → Option Nat} : ∀ {l : List Nat}, injOn ρ l = true → ∀ {g g' a : Nat}, g ∈ l → g' ∈ l → ρ g = some a → ρ g' = some a → g = g'
  | [], _, g, _, _, h, _, _, _ => by cases h
  | u :: r, h, g, g', a, h1, h2, e1, e2 => by
    simp only [injOn, Bool.and_eq_true, List.all_eq_true] at h
    have key : ∀ {k k' : Nat}, k = u → k' ∈ r → ρ k = some a → ρ k' = some a → k = k' := by
      intro k k' hk hk' q1 q2
      subst hk
      have := h.1 k' hk'
      rw [q1, q2] at this
      simp only [Bool.or_eq_true, Bool.not_eq_true'] at this
      rcases this with this | this
      · exact Nat.eq_of_beq_eq_true this
      · simp at this
    rcases List.mem_cons.1 h1 with h1 | h1 <;> rcases List.mem_cons.1 h2 with h2 | h2
    · rw [h1, h2]
    · exact key h1 h2 e1 e2
    · exact (key h2 h1 e2 e1).symm
    · exact injOn_ok h.2 h1 h2 e1 e2
theorem slotLe_ok {C : Cf} {s e : Mem} {ρ : Nat → Option Nat} {d d' : D} {v : Value} (hm : HoldsM C s) (h : slotLe s e ρ d d') (hd : RdD C s d v) :
    RdD { C with ι := fun g => (ρ g).bind C.ι } e d' v := by
  cases d' with
  | any => trivial
  | nil =>
    have h : d = .nil := h
    subst h
    exact hd
  | dat n x =>
    obtain ⟨n', h, hn⟩ := h
    have := asV_ok hm (fun _ _ => rfl) h hd
    rcases hn with rfl | rfl | hf
    · exact this
    · exact RdF.weak (C := C) this hm
    · exact RdF.flat (C := C) this (flat_of hf)
  | own g ver lo len =>
    simp only [slotLe] at h
    cases hρ : ρ g with
    | some g0 =>
      rw [hρ] at h
      obtain ⟨⟨lo', len', frz, nw, sz, xs⟩, h1, h2⟩ := h
      obtain ⟨ver0, rfl, hs⟩ := ownView_ok h1
      obtain ⟨ver1, he1, he2⟩ := ownView_ok h2
      injection he1 with e1 e2 e3 e4
      subst e2; subst e3; subst e4
      obtain ⟨ver', frz', nw', sz', xs', hat, hle, hsl, ho⟩ := hd
      rw [hs] at hat
      injection hat with q1 q2 q3 q4 q5
      subst q1; subst q2; subst q3; subst q4; subst q5
      obtain ⟨hl, ho⟩ := ho rfl
      exact ⟨ver, frz, nw, sz, xs, he2, Nat.le_refl _, hsl, fun _ => ⟨hl, by simpa [hρ] using ho⟩⟩
    | none =>
      rw [hρ] at h
      obtain ⟨rfl, nw, sz, h2⟩ := h
      obtain ⟨ver1, he1, he2⟩ := ownView_ok h2
      injection he1 with e1 e2 e3 e4
      subst e2; subst e3; subst e4
      have hv : v = .slice none 0 0 := hd
      subst hv
      exact ⟨ver, false, nw, sz, [], he2, Nat.le_refl _, ⟨_, _, _, rfl⟩, fun _ => ⟨by simp, by simp [OwnV, hρ]⟩⟩
  | ptr g off =>
    obtain ⟨g0, frz, nw, cs, h1, rfl, h3⟩ := h
    obtain ⟨_, _, _, b, _, hi, hv⟩ := hd
    exact ⟨frz, nw, cs, b, h3, by simp [h1, hi], hv⟩
  | rptr g ver i off =>
    obtain ⟨g0, frz, nw, sz, xs, ver0, h1, rfl, h3, h4⟩ := h
    obtain ⟨ver', frz', nw', sz', xs', hat, hle, hsl, ho⟩ := hd
    rw [h3] at hat
    injection hat with q1 q2 q3 q4 q5
    subst q1; subst q2; subst q3; subst q4; subst q5
    obtain ⟨hl, b, hi, hv⟩ := ho rfl
    exact ⟨ver, frz, nw, sz, xs, h4, Nat.le_refl _, hsl, fun _ => ⟨hl, b, by simp [h1, hi], hv⟩⟩
  | mp g =>
    obtain ⟨g0, kt, et, es, h1, rfl, h3⟩ := h
    obtain ⟨_, _, _, b, _, hi, hv⟩ := hd
    exact ⟨kt, et, es, b, h3, by simp [h1, hi], hv⟩
  | sl g n =>
    obtain ⟨g0, frz, nw, cs, h1, rfl, h3⟩ := h
    obtain ⟨_, _, _, b, cap, _, hi, hv⟩ := hd
    exact ⟨frz, nw, cs, b, cap, h3, by simp [h1, hi], hv⟩
  | grd _ _ => exact h.elim
  | aggd _ => exact h.elim
  | fnd f cs =>
    obtain ⟨cs0, rfl, hc⟩ := h
    obtain ⟨vs, hv, hl, hall⟩ := hd
    obtain ⟨hle, hget⟩ := capsLe_get hc
    refine ⟨vs, hv, by omega, fun j d' c h1 h2 => ?_⟩
    have hj : j < cs0.length := by have := (List.getElem?_eq_some_iff.1 h1).1; omega
    have hq := hget j _ d' (List.getElem?_eq_getElem hj) h1
    have hr := hall j _ c (List.getElem?_eq_getElem hj) h2
    cases d' with
    | ptr g off =>
      obtain ⟨g0, frz, nw, cs, h1, h2, h3⟩ := hq
      rw [h2] at hr
      obtain ⟨_, _, _, b, _, hi, hv⟩ := hr
      exact ⟨frz, nw, cs, b, h3, by simp [h1, hi], hv⟩
    | _ => exact hq.elim
theorem slotLe_S {C : Cf} {s e : Mem} {ρ : Nat → Option Nat} {d d' : D} {v : Value} (hm : HoldsM C s) (h : slotLe s e ρ d d') (hd : RdS C s d v) :
    RdS { C with ι := fun g => (ρ g).bind C.ι } e d' v := by
  have := slotLe_ok hm h hd.rd
  cases d' with
  | grd _ _ => exact h.elim
  | aggd _ => exact h.elim
  | fnd f cs =>
    obtain ⟨cs0, rfl, _⟩ := h
    exact hd.elim
  | _ => exact this
theorem listLe_get {s e : Mem} {ρ : Nat → Option Nat} : ∀ {l l' : List D}, listLe s e ρ l l' → l.length = l'.length ∧ ∀ (j : Nat) d d', l[j]? = some d → l'[j]? = some d' → slotLe s e ρ d d'
  | [], [], _ => ⟨rfl, by simp⟩
  | d :: r, d' :: r', h => by
    obtain ⟨h1, h2⟩ := listLe_get h.2
    refine ⟨by simp [h1], fun j x x' hx hx' => ?_⟩
    cases j with
    | zero => simp at hx hx'; subst hx; subst hx'; exact h.1
    | succ j => exact h2 j x x' (by simpa using hx) (by simpa using hx')
  | [], _ :: _, h => h.elim
  | _ :: _, [], h => h.elim
theorem Wk_gen {s e : St} (ρ : Nat → Option Nat) (hn : s.n = e.n) (hinj : injOn ρ (e.mem.map (·.1)) = true) (hm : memLe s e ρ e.mem) (he : envLe s e ρ e.env) : Wk s e := by
  intro C a hh
  have hbox : ∀ g, boxLe s.mem e.mem ρ g (e.mem.at g) := memLe_at hm
  have hlive : ∀ g b, e.mem.at g ≠ .gone → (ρ g).bind C.ι = some b → ∃ g0, ρ g = some g0 ∧ C.ι g0 = some b ∧ s.mem.at g0 ≠ .gone ∧ (s.mem.at g0).mut = (e.mem.at g).mut := by
    intro g b hg hi
    have hb := hbox g
    cases hbx : e.mem.at g with
    | gone => exact absurd hbx hg
    | row ver frz nw sz xs =>
      rw [hbx] at hb
      simp only [boxLe] at hb
      cases hρ : ρ g with
      | none => simp [hρ] at hi
      | some g0 =>
        rw [hρ] at hb hi
        obtain ⟨ver0, hs⟩ := hb
        exact ⟨g0, rfl, hi, by rw [hs]; simp, by rw [hs]; rfl⟩
    | cells frz nw cs =>
      rw [hbx] at hb
      obtain ⟨g0, cs0, hρ, hs, _⟩ := hb
      rw [hρ] at hi
      exact ⟨g0, hρ, hi, by rw [hs]; simp, by rw [hs]; rfl⟩
    | mapb kt et es =>
      rw [hbx] at hb
      obtain ⟨g0, hρ, hs⟩ := hb
      rw [hρ] at hi
      exact ⟨g0, hρ, hi, by rw [hs]; simp, by rw [hs]⟩
  refine ⟨{ C with ι := fun g => (ρ g).bind C.ι }, rfl, ⟨⟨fun g => ?_, ?_, ?_, hh.mem.sdom, hh.mem.ns⟩, hh.defers, hh.size.trans hn, fun t => slotLe_ok hh.mem (envLe_at he t) (hh.env t)⟩, ?_⟩
  · have hb := hbox g
    show BoxOK _ _ ((ρ g).bind C.ι) _
    cases hbx : e.mem.at g with
    | gone => trivial
    | row ver frz nw sz xs =>
      rw [hbx] at hb
      simp only [boxLe] at hb
      cases hρ : ρ g with
      | none =>
        rw [hρ] at hb
        exact hb.1
      | some g0 =>
        rw [hρ] at hb
        obtain ⟨ver0, hs⟩ := hb
        have h0 := hh.mem.box g0
        rw [hs] at h0
        simp only [Option.bind_some]
        cases hi : C.ι g0 with
        | none => rw [hi] at h0; exact h0
        | some b => rw [hi] at h0; exact h0
    | cells frz nw cs =>
      rw [hbx] at hb
      obtain ⟨g0, cs0, hρ, hs, hl⟩ := hb
      have h0 := hh.mem.box g0
      rw [hs] at h0
      obtain ⟨b, hi, arr, T, fz, h1, h2, h3, h4, h5⟩ := h0
      obtain ⟨hlen, hget⟩ := listLe_get hl
      refine ⟨b, by simp [hρ, hi], arr, T, fz, h1, h2, by omega, fun j d c hd hc => ?_, h5⟩
      have hj : j < cs0.length := by have := (List.getElem?_eq_some_iff.1 hd).1; omega
      have hcs : cs0[j]? = some cs0[j] := List.getElem?_eq_getElem hj
      exact slotLe_S hh.mem (hget j cs0[j] d hcs hd) (h4 j cs0[j] c hcs hc)
    | mapb kt et es =>
      rw [hbx] at hb
      obtain ⟨g0, hρ, hs⟩ := hb
      have h0 := hh.mem.box g0
      rw [hs] at h0
      obtain ⟨b, hi, h0⟩ := h0
      exact ⟨b, by simp [hρ, hi], h0⟩
  · intro g g' b h1 h2 i1 i2
    obtain ⟨g0, q1, q2, q3, _⟩ := hlive g b h1 i1
    obtain ⟨g1, r1, r2, r3, _⟩ := hlive g' b h2 i2
    have := hh.mem.inj g0 g1 b q3 r3 q2 r2
    subst this
    exact injOn_ok hinj (mem_keys h1) (mem_keys h2) q1 r1
  · intro g b h1 h2
    have hg : e.mem.at g ≠ .gone := by intro h; rw [h] at h1; cases h1
    obtain ⟨g0, q1, q2, q3, q4⟩ := hlive g b hg h2
    exact hh.mem.sep g0 b (by rw [q4]; exact h1) q2
  · refine ⟨rfl, rfl, rfl, Nat.le_refl _, fun _ _ _ => rfl, fun g b h1 h2 => ?_, fun _ h => h, fun _ h => h, fun _ h => .inl h, fun _ h => .inl h⟩
    have hg : e.mem.at g ≠ .gone := by intro h; rw [h] at h1; cases h1
    obtain ⟨g0, q1, q2, q3, q4⟩ := hlive g b hg h2
    exact .inr ⟨g0, by rw [q4]; exact h1, q2⟩
def frzBox : Box → Box
  | .cells _ nw cs => .cells true nw cs
  | .row ver _ nw sz xs => .row ver true nw sz xs
  | b => b
theorem Wk_freeze {env : Env} {mem : Mem} {n : Nat} (g : Nat) (hk : ∀ kt et es, mem.at g ≠ .mapb kt et es) : Wk ⟨env, mem, n⟩ ⟨env, (g, frzBox (mem.at g)) :: mem, n⟩ := by
  intro C a hh
  let X : Nat → Prop := fun b => (mem.at g).mut = true ∧ C.ι g = some b
  let C' : Cf := { C with S := fun b => C.S b ∨ X b, N := fun b => C.N b ∨ X b }
  have hD : ∀ nw b, C.D nw b → C'.D nw b := fun nw b h => by cases nw <;> exact .inl h
  have hd : ∀ n x v, RdF C n x v → RdF C' n x v := fun n x v h => Rd.mono h (hD n) (fun _ _ => rfl)
  have hat : ∀ g', Mem.at ((g, frzBox (mem.at g)) :: mem) g' = if g = g' then frzBox (mem.at g) else mem.at g' := fun g' => look_cons _ _ _ _ _
  have hs : ∀ d v, RdS C mem d v → RdS C' ((g, frzBox (mem.at g)) :: mem) d v := by
    intro d v h
    cases d with
    | any => trivial
    | nil => exact h
    | dat n x => exact hd n x v h
    | own g' ver lo len =>
      obtain ⟨ver', frz, nw, sz, xs, h1, h2, h3, h4⟩ := h
      by_cases hg : g = g'
      · subst hg
        exact ⟨ver', true, nw, sz, xs, by rw [hat, if_pos rfl, h1]; rfl, h2, h3, h4⟩
      · exact ⟨ver', frz, nw, sz, xs, by rw [hat, if_neg hg]; exact h1, h2, h3, h4⟩
    | ptr g' off =>
      obtain ⟨frz, nw, cs, b, h1, h2, h3⟩ := h
      by_cases hg : g = g'
      · subst hg
        exact ⟨true, nw, cs, b, by rw [hat, if_pos rfl, h1]; rfl, h2, h3⟩
      · exact ⟨frz, nw, cs, b, by rw [hat, if_neg hg]; exact h1, h2, h3⟩
    | rptr g' ver i off =>
      obtain ⟨ver', frz, nw, sz, xs, h1, h2, h3, h4⟩ := h
      by_cases hg : g = g'
      · subst hg
        exact ⟨ver', true, nw, sz, xs, by rw [hat, if_pos rfl, h1]; rfl, h2, h3, h4⟩
      · exact ⟨ver', frz, nw, sz, xs, by rw [hat, if_neg hg]; exact h1, h2, h3, h4⟩
    | mp g' =>
      obtain ⟨kt, et, es, b, h1, h2, h3⟩ := h
      have hg : g ≠ g' := by rintro rfl; exact hk _ _ _ h1
      exact ⟨kt, et, es, b, by rw [hat, if_neg hg]; exact h1, h2, h3⟩
    | sl g' n =>
      obtain ⟨frz, nw, cs, b, cap, h1, h2, h3⟩ := h
      by_cases hg : g = g'
      · subst hg
        exact ⟨true, nw, cs, b, cap, by rw [hat, if_pos rfl, h1]; rfl, h2, h3⟩
      · exact ⟨frz, nw, cs, b, cap, by rw [hat, if_neg hg]; exact h1, h2, h3⟩
    | _ => exact h.elim
  have hmutne : ∀ g', (Mem.at ((g, frzBox (mem.at g)) :: mem) g').mut = true → g ≠ g' ∧ (mem.at g').mut = true := by
    intro g' h
    rw [hat] at h
    by_cases hg : g = g'
    · rw [if_pos hg] at h
      cases hb : mem.at g with
      | mapb kt et es => exact absurd hb (hk _ _ _)
      | _ => rw [hb] at h; simp [frzBox, Box.mut] at h
    · rw [if_neg hg] at h
      exact ⟨hg, h⟩
  have hgone : ∀ g', Mem.at ((g, frzBox (mem.at g)) :: mem) g' ≠ .gone → mem.at g' ≠ .gone := by
    intro g' h
    rw [hat] at h
    by_cases hg : g = g'
    · rw [if_pos hg] at h
      subst hg
      intro h0
      rw [h0] at h
      exact h rfl
    · rwa [if_neg hg] at h
  refine ⟨C', rfl, ⟨⟨fun g' => ?_, fun g1 g2 b h1 h2 => hh.mem.inj g1 g2 b (hgone g1 h1) (hgone g2 h2), fun g' b h1 h2 h3 => ?_, fun b hb => ?_, fun b hb => hb.imp (hh.mem.ns b) id⟩, hh.defers, hh.size, fun t => RdD.of_S hs _ _ (hh.env t)⟩, ?_⟩
  · have h0 := BoxOK.upd (hh.mem.box g') (C' := C') (fun _ _ => rfl) hd hs (fun b h => .inl h) (fun b h => .inl h)
    show BoxOK C' _ (C.ι g') _
    rw [hat]
    by_cases hg : g = g'
    · subst hg
      rw [if_pos rfl]
      cases hb : mem.at g with
      | cells frz nw cs =>
        rw [show St.mem ⟨env, mem, n⟩ = mem from rfl, hb] at h0
        obtain ⟨b, hi, arr, T, fz, h1, h2, h3, h4, h5⟩ := h0
        refine ⟨b, hi, arr, T, fz, h1, h2, h3, h4, fun _ => ?_⟩
        cases frz with
        | true => exact h5 rfl
        | false =>
          have hx : X b := ⟨by rw [hb]; rfl, hi⟩
          cases nw <;> exact .inr hx
      | row ver frz nw sz xs =>
        rw [show St.mem ⟨env, mem, n⟩ = mem from rfl, hb] at h0
        cases hi : C.ι g with
        | none => rw [hi] at h0; exact h0
        | some b =>
          rw [hi] at h0
          obtain ⟨arr, T, fz, h1, h2, h3, h4, h5, h6, h7⟩ := h0
          refine ⟨arr, T, fz, h1, h2, h3, h4, h5, h6, fun _ => ?_⟩
          cases frz with
          | true => exact h7 rfl
          | false => exact .inr ⟨by rw [hb]; rfl, hi⟩
      | mapb kt et es => exact absurd hb (hk _ _ _)
      | gone => trivial
    · rw [if_neg hg]
      exact h0
  · obtain ⟨hg, hmt⟩ := hmutne g' h1
    rcases h3 with h3 | ⟨h3, h4⟩
    · exact hh.mem.sep g' b hmt h2 h3
    · refine hg (hh.mem.inj g g' b ?_ ?_ h4 h2)
      · intro h0
        have h0 : mem.at g = .gone := h0
        rw [h0] at h3; cases h3
      · intro h0
        have h0 : mem.at g' = .gone := h0
        rw [h0] at hmt; cases hmt
  · rcases hb with hb | ⟨h1, h2⟩
    · exact hh.mem.sdom b hb
    · exact BoxOK.lt hh.mem (g := g) (by intro h0; have h0 : mem.at g = .gone := h0; rw [h0] at h1; cases h1) h2
  · refine ⟨rfl, rfl, rfl, Nat.le_refl _, fun _ _ _ => rfl, fun g' b h1 h2 => .inr ⟨g', (hmutne g' h1).2, h2⟩, fun _ h => .inl h, fun _ h => .inl h, fun b hb => ?_, fun b hb => ?_⟩
    · rcases hb with hb | hb
      · exact .inl hb
      · exact .inr (.inr hb)
    · rcases hb with hb | ⟨h1, h2⟩
      · exact .inl hb
      · exact .inr (.inr ⟨g, h1, h2⟩)
theorem DW_freeze {P : Program} {c : Code} {Q : Exit → St → Prop} {env : Env} {mem : Mem} {n : Nat} (g : Nat) (hk : ∀ kt et es, mem.at g ≠ .mapb kt et es) (h : DW P c Q ⟨env, (g, frzBox (mem.at g)) :: mem, n⟩) : DW P c Q ⟨env, mem, n⟩ :=
  DW_weak (Wk_freeze g hk) h
theorem DW_len {P : Program} {c : Code} {Q : Exit → St → Prop} {s : St} (t : Nat) {n : Bool} {xs : List (List V)} (h : s.env.at t = .dat n (.slice xs)) (k : xs.length ≤ 9223372036854775807 → DW P c Q s) : DW P c Q s := fun C a hh => by
  refine k ?_ C a hh
  have hr := hh.env t
  rw [h] at hr
  generalize a.tmps.getD t undef = v at hr
  cases hr with
  | nil => simp
  | mt => simp
  | slice _ b off cap sz cell hc hm => unfold maxLen at hm; omega
end Go.Proofs.Ytfmaehhloffabaa
