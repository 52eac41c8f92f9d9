/- Own memory that is frozen by an operation, before it. -/
import Derived.Test.YtpdoplmnedpdaaabSl
namespace Go.Proofs.Ytpdoplmnedpdaaa
open Go.RowKit
theorem frz_step {C : Cf} {mem : Mem} (hm : HoldsM C mem) (g : Nat) (hk : ∀ kt et es, mem.at g ≠ .mapb kt et es) : ∃ C', C'.w = C.w ∧ Step C mem C' ((g, frzBox (mem.at g)) :: mem) := by
  let X : Nat → Prop := fun b => (mem.at g).mut = true ∧ C.ι g = some b
  let C' : Cf := { C with S := fun b => C.S b ∨ X b, N := fun b => C.N b ∨ X b }
  have hD : ∀ nw b, C.D nw b → C'.D nw b := fun nw b h => by cases nw <;> exact .inl h
  have hd : ∀ n x v, RdF C n x v → RdF C' n x v := fun n x v h => Rd.mono h (hD n) (fun _ _ => rfl)
  have hat : ∀ g', Mem.at ((g, frzBox (mem.at g)) :: mem) g' = if g = g' then frzBox (mem.at g) else mem.at g' := fun g' => look_cons _ _ _ _ _
  have hs : ∀ d v, RdS C mem d v → RdS C' ((g, frzBox (mem.at g)) :: mem) d v := by
    intro d v h
    cases d with
    | any => trivial
    | nil => exact h
    | dat n x => exact hd n x v h
    | own g' ver lo len =>
      obtain ⟨ver', frz, nw, sz, xs, h1, h2, h3, h4⟩ := h
      by_cases hg : g = g'
      · subst hg
        exact ⟨ver', true, nw, sz, xs, by rw [hat, if_pos rfl, h1]; rfl, h2, h3, h4⟩
      · exact ⟨ver', frz, nw, sz, xs, by rw [hat, if_neg hg]; exact h1, h2, h3, h4⟩
    | ptr g' off =>
      obtain ⟨frz, nw, cs, b, h1, h2, h3⟩ := h
      by_cases hg : g = g'
      · subst hg
        exact ⟨true, nw, cs, b, by rw [hat, if_pos rfl, h1]; rfl, h2, h3⟩
      · exact ⟨frz, nw, cs, b, by rw [hat, if_neg hg]; exact h1, h2, h3⟩
    | rptr g' ver i off =>
      obtain ⟨ver', frz, nw, sz, xs, h1, h2, h3, h4⟩ := h
      by_cases hg : g = g'
      · subst hg
        exact ⟨ver', true, nw, sz, xs, by rw [hat, if_pos rfl, h1]; rfl, h2, h3, h4⟩
      · exact ⟨ver', frz, nw, sz, xs, by rw [hat, if_neg hg]; exact h1, h2, h3, h4⟩
    | mp g' =>
      obtain ⟨kt, et, es, b, h1, h2, h3⟩ := h
      have hg : g ≠ g' := by rintro rfl; exact hk _ _ _ h1
      exact ⟨kt, et, es, b, by rw [hat, if_neg hg]; exact h1, h2, h3⟩
    | sl g' n =>
      obtain ⟨frz, nw, cs, b, cap, h1, h2, h3⟩ := h
      by_cases hg : g = g'
      · subst hg
        exact ⟨true, nw, cs, b, cap, by rw [hat, if_pos rfl, h1]; rfl, h2, h3⟩
      · exact ⟨frz, nw, cs, b, cap, by rw [hat, if_neg hg]; exact h1, h2, h3⟩
    | _ => exact h.elim
  have hmutne : ∀ g', (Mem.at ((g, frzBox (mem.at g)) :: mem) g').mut = true → g ≠ g' ∧ (mem.at g').mut = true := by
    intro g' h
    rw [hat] at h
    by_cases hg : g = g'
    · rw [if_pos hg] at h
      cases hb : mem.at g with
      | mapb kt et es => exact absurd hb (hk _ _ _)
      | _ => rw [hb] at h; simp [frzBox, Box.mut] at h
    · rw [if_neg hg] at h
      exact ⟨hg, h⟩
  have hgone : ∀ g', Mem.at ((g, frzBox (mem.at g)) :: mem) g' ≠ .gone → mem.at g' ≠ .gone := by
    intro g' h
    rw [hat] at h
    by_cases hg : g = g'
    · rw [if_pos hg] at h
      subst hg
      intro h0
      rw [h0] at h
      exact h rfl
    · rwa [if_neg hg] at h
  have hext : Ext C mem C' ((g, frzBox (mem.at g)) :: mem) := by
    refine ⟨rfl, rfl, rfl, Nat.le_refl _, fun _ _ _ => rfl, fun g' b h1 h2 => .inr ⟨g', (hmutne g' h1).2, h2⟩, fun _ h => .inl h, fun _ h => .inl h, fun b hb => ?_, fun b hb => ?_⟩
    · rcases hb with hb | hb
      · exact .inl hb
      · exact .inr (.inr hb)
    · rcases hb with hb | ⟨h1, h2⟩
      · exact .inl hb
      · exact .inr (.inr ⟨g, h1, h2⟩)
  refine ⟨C', rfl, ⟨hext, ⟨fun g' => ?_, fun g1 g2 b h1 h2 => hm.inj g1 g2 b (hgone g1 h1) (hgone g2 h2), fun g' b h1 h2 h3 => ?_, fun b hb => ?_, fun b hb => hb.imp (hm.ns b) id⟩, fun d v h => RdD.of_S hs d v h⟩⟩
  · have h0 := BoxOK.upd (hm.box g') (C' := C') (fun _ _ => rfl) hd hs (fun b h => .inl h) (fun b h => .inl h)
    show BoxOK C' _ (C.ι g') _
    rw [hat]
    by_cases hg : g = g'
    · subst hg
      rw [if_pos rfl]
      cases hb : mem.at g with
      | cells frz nw cs =>
        rw [hb] at h0
        obtain ⟨b, hi, arr, T, fz, h1, h2, h3, h4, h5⟩ := h0
        refine ⟨b, hi, arr, T, fz, h1, h2, h3, h4, fun _ => ?_⟩
        cases frz with
        | true => exact h5 rfl
        | false =>
          have hx : X b := ⟨by rw [hb]; rfl, hi⟩
          cases nw <;> exact .inr hx
      | row ver frz nw sz xs =>
        rw [hb] at h0
        cases hi : C.ι g with
        | none => rw [hi] at h0; exact h0
        | some b =>
          rw [hi] at h0
          obtain ⟨arr, T, fz, h1, h2, h3, h4, h5, h6, h7⟩ := h0
          refine ⟨arr, T, fz, h1, h2, h3, h4, h5, h6, fun _ => ?_⟩
          cases frz with
          | true => exact h7 rfl
          | false => exact .inr ⟨by rw [hb]; rfl, hi⟩
      | mapb kt et es => exact absurd hb (hk _ _ _)
      | gone => trivial
    · rw [if_neg hg]
      exact h0
  · obtain ⟨hg, hmt⟩ := hmutne g' h1
    rcases h3 with h3 | ⟨h3, h4⟩
    · exact hm.sep g' b hmt h2 h3
    · refine hg (hm.inj g g' b ?_ ?_ h4 h2)
      · intro h0
        have h0 : mem.at g = .gone := h0
        rw [h0] at h3; cases h3
      · intro h0
        have h0 : mem.at g' = .gone := h0
        rw [h0] at hmt; cases hmt
  · rcases hb with hb | ⟨h1, h2⟩
    · exact hm.sdom b hb
    · exact BoxOK.lt hm (g := g) (by intro h0; have h0 : mem.at g = .gone := h0; rw [h0] at h1; cases h1) h2

section
variable {P : Program} {e : Operand → D} {m : Mem} {o : Oper} {rd : List Nat} {val : D} {wr : Mem}
/-- An operation that would do with g frozen. -/
theorem S_frz (g : Nat) {bx : Box} (hmg : m.at g = bx) (hk : (match bx with | .mapb _ _ _ => false | _ => true) = true) (h : SStep P o e ((g, frzBox bx) :: m) rd val wr) :
    SStep P o e m (g :: rd) val (wr ++ [(g, frzBox bx)]) := by
  intro C m' a next Q hag hm hxs hn
  have hg' : m'.at g = bx := (hag g (.inl (List.mem_cons.2 (.inl rfl)))).trans hmg
  obtain ⟨C1, e1, h1⟩ := frz_step hm g (fun kt et es h0 => by rw [hg'] at h0; subst h0; cases hk)
  rw [hg'] at h1
  rw [← e1]
  refine h C1 ((g, frzBox bx) :: m') a next Q (fun g' hg'' => ?_) h1.holds (fun x hx' => h1.slot _ _ (hxs x hx')) (fun v C2 h2 hv => ?_)
  · show Mem.at ((g, frzBox bx) :: m') g' = Mem.at ((g, frzBox bx) :: m) g'
    unfold Mem.at
    rw [look_cons, look_cons]
    by_cases he : g = g'
    · rw [if_pos he, if_pos he]
    · rw [if_neg he, if_neg he]
      refine hag g' ?_
      rcases hg'' with h0 | h0
      · exact .inl (List.mem_cons.2 (.inr h0))
      · refine .inr ?_
        rw [List.map_append, List.mem_append]
        exact .inl h0
  · have e2 : wr ++ [(g, frzBox bx)] ++ m' = wr ++ ((g, frzBox bx) :: m') := by simp
    refine hn v C2 ?_ ?_
    · rw [e2]; exact h1.trans h2
    · rw [e2]; exact hv
end
section
variable {P : Program} {ops : Array Oper} {r : List Oper} {env : Env} {mem : Mem} {nt : Nat} {acc : List (List Nat × List Nat)} {K : List (List Nat × List Nat) → St → Prop} {rd : List Nat} {val : D} {wr : Mem}
  {t : Nat} {c : Call} {ty : TypeId} {pos : String} {af : Array Edge}
/-- A call that writes two boxes. -/
theorem dm2C {g g2 : Nat} {bx b2 : Box} (hd : Nat.blt t nt = true) (h : SStep P ⟨some t, .call c, ty, pos, af, none⟩ (ev ⟨env, mem, nt⟩) mem rd val [(g, bx), (g2, b2)]) (k : DOps P ops r ⟨(t, val) :: env, (g, bx) :: (g2, b2) :: mem, nt⟩ ((rd, [g, g2]) :: acc) K) :
    DOps P ops (⟨some t, .call c, ty, pos, af, none⟩ :: r) ⟨env, mem, nt⟩ acc K := dstep hd (.plain rfl h) k
theorem dm2On {op : Op} {j : Nat} {b : Bool} {g g2 : Nat} {bx b2 : Box} (hd : Nat.blt t nt = true) (hj : guardB b (guardD ⟨env, mem, nt⟩ ops j) = some true) (h : SStep P ⟨some t, op, ty, pos, af, some (j, b)⟩ (ev ⟨env, mem, nt⟩) mem rd val [(g, bx), (g2, b2)])
    (k : DOps P ops r ⟨(t, val) :: env, (g, bx) :: (g2, b2) :: mem, nt⟩ ((rd, [g, g2]) :: acc) K) : DOps P ops (⟨some t, op, ty, pos, af, some (j, b)⟩ :: r) ⟨env, mem, nt⟩ acc K := dstep hd (.on rfl hj h) k
end
end Go.Proofs.Ytpdoplmnedpdaaa
