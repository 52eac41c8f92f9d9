/- Own slices that lie in own boxes of cells: a row turned into cells, slices over cells, many boxes renamed or frozen at once, cells read as data. -/
import Derived.Test.YtfmaehhloffabaaybInp
namespace Go.Proofs.Ytfmaehhloffabaa
open Go.RowKit
section
variable {P : Program} {e : Operand → D} {m : Mem} {dst : Option Tmp} {ty : TypeId} {pos : String} {af : Array Edge} {gd : Option (Nat × Bool)} {x y z : Operand} {t : TypeId} {yt : TypeId}
theorem S_len_sl {g n : Nat} {el : Nat} [hu : SlcI P t el] (h : e x = .sl g n) :
    SStep P ⟨dst, .call { callee := .builtin .len, args := #[x], argTypes := #[t] }, ty, pos, af, gd⟩ e m [] (.dat true (.int .i64 n)) [] :=
  .pure fun C m' ac ha hh hx => by
    have g1 := hx x (by simp [Op.operands, Call.operands]); rw [h] at g1
    refine ⟨.int .i64 n, ?_, mk_int⟩
    obtain ⟨frz, nw, cs, b, cap, hat, hi, hv, _⟩ := g1
    simp [execOp, resolve, invoke, builtin, Builtin.len_, run_under hu.out, hv, goInt]
theorem S_ix_sl {n' : Bool} {k : IntKind} {i : Int} {el s by_ g n : Nat} {agg : Bool} {zs : List V} [hu : SlcI P t el] [ht : TyI P el agg s by_ zs]
    (h1 : e x = .sl g n) (h2 : e y = .dat n' (.int k i)) (hi : 0 ≤ i) (hc : i < n) :
    SStep P ⟨dst, .indexAddr t x y, ty, pos, af, gd⟩ e m [] (.ptr g (i.toNat * s)) [] :=
  .pure fun C m' ac ha hh hx => by
    have g1 := hx x (by simp [Op.operands]); rw [h1] at g1
    have g2 := hx y (by simp [Op.operands]); rw [h2] at g2
    have g2 := rd_int g2
    obtain ⟨frz, nw, cs, b, cap, hat, hio, hv, _⟩ := g1
    refine ⟨.pointer (some ⟨b, 0 + i.toNat * s, none⟩), ?_, ⟨frz, nw, cs, b, hat, hio, by rw [Nat.zero_add]⟩⟩
    simp only [execOp, hv, g2, Instr.indexAt, asIntOf, Sem.run_bind, Sem.run_pure, Result.andThen_ok, run_under hu.out]
    simp only [hi, hc, and_self, if_true, Sem.run_bind, run_size ht, Result.andThen_ok, Sem.run_pure, aadd]
theorem S_mkC {el by_ l : Nat} {n1 n2 : Bool} {k1 k2 : IntKind} {z : V} {a b : Int} (g : Nat) [hu : SlcI P t el] [ht : TyI P el false 1 by_ [z]] (h1 : e x = .dat n1 (.int k1 a)) (h2 : e y = .dat n2 (.int k2 b)) (ha : a = (l : Int)) (hb : b = (l : Int))
    (hby : l * (by_ + 1) ≤ 140737488355328) (hg : m.at g = .gone) :
    SStep P ⟨dst, .makeSlice t x y, ty, pos, af, gd⟩ e m [] (.sl g l) [(g, .cells false true (List.replicate l z.zD))] := by
  intro C m' ac next Q hag hm hx hn
  have g1 := rd_int (by have := hx x (by simp [Op.operands]); rwa [h1] at this)
  have g2 := rd_int (by have := hx y (by simp [Op.operands]); rwa [h2] at this)
  obtain ⟨i, hi, hsz, hbt, hz⟩ := ht.info
  have hb1 : l * by_ ≤ 140737488355328 := Nat.le_trans (Nat.mul_le_mul_left _ (Nat.le_succ _)) hby
  have hb2 : l ≤ 140737488355328 := by
    have : l * 1 ≤ l * (by_ + 1) := Nat.mul_le_mul_left _ (by omega)
    omega
  have hrun := run_make (P := P) C.w t el i _ hu.out hi hz k1 k2 l l (by omega) (by omega) (by
    rw [hbt]
    have : ((by_ * l : Nat) : Int) ≤ 281474976710656 := by rw [Nat.mul_comm]; omega
    rwa [Int.natCast_mul] at this) (by omega)
  simp only [Int.toNat_natCast, hsz] at hrun
  have hexec : (execOp ac.eval ⟨dst, .makeSlice t x y, ty, pos, af, gd⟩).run P C.w = .ok (.value (.slice (some ⟨C.w.heap.size, 0, none⟩) l l)) (C.w.alloc (.cells (madeCells (zval false [z]).cells (l * 1)) el)) := by
    simp [execOp, g1, g2, ha, hb, hrun]
  have hg' : m'.at g = .gone := (hag g (by simp)).trans hg
  have hz0 := zcells ht
  have hzc := ht.zc
  rw [List.all_eq_true] at hzc
  have hst := step_cells (g := g) (cs := List.replicate l z.zD) (arr := madeCells (zval false [z]).cells (l * 1)) (T := el) hm hg' (Grew.refl C.w) rfl (by rw [size_madeCells]; simp) (fun j d c hd hc => by
    rw [List.getElem?_replicate] at hd
    split at hd
    · rename_i hj
      injection hd with hd
      subst hd
      rw [madeCells_get (by omega), hz0] at hc
      simp [Nat.mod_one] at hc
      rw [← hc]
      exact val_ok (hzc z (by simp))
    · cases hd)
  refine wp_of_value hexec (hn _ _ hst ?_)
  refine ⟨false, true, List.replicate l z.zD, C.w.heap.size, l, Mem.at_cons_same _ _ _, by rw [Cf.set_same], rfl, Nat.le_refl _, by unfold maxLen; omega⟩
end
theorem DW_slot {P : Program} {c : Code} {Q : Exit → St → Prop} {env : Env} {mem : Mem} {n : Nat} (t : Nat) (d' : D) (h : ∀ (C : Cf) (v : Value), HoldsM C mem → RdD C mem (env.at t) v → RdD C mem d' v)
    (k : DW P c Q ⟨(t, d') :: env, mem, n⟩) : DW P c Q ⟨env, mem, n⟩ :=
  DW_weak (s' := ⟨(t, d') :: env, mem, n⟩) (fun C a hh => ⟨C, rfl, ⟨hh.mem, hh.defers, hh.size, fun t' => by
    show RdD C mem (look .any ((t, d') :: env) t') _
    rw [look_cons]
    by_cases ht : t = t'
    · subst ht; rw [if_pos rfl]; exact h C _ hh.mem (hh.env t)
    · rw [if_neg ht]; exact hh.env t'⟩, .refl _ _⟩) k
theorem flatten_get {α : Type} {sz : Nat} : ∀ (xs : List (List α)), (∀ (i : Nat) e, xs[i]? = some e → e.length = sz) → ∀ (i j : Nat), j < sz → xs.flatten[i * sz + j]? = (xs[i]?).bind (·[j]?)
  | [], _, _, _, _ => by simp
  | x :: r, h, i, j, hj => by
    have hx := h 0 x rfl
    rw [List.flatten_cons, List.getElem?_append]
    cases i with
    | zero => simp [hx, hj]
    | succ i =>
      have hn : ¬ (i + 1) * sz + j < x.length := by rw [hx, Nat.add_mul]; omega
      rw [if_neg hn, hx, show (i + 1) * sz + j - sz = i * sz + j by rw [Nat.add_mul]; omega, flatten_get r (fun i e he => h (i + 1) e he) i j hj]
      simp
theorem flatten_len {α : Type} {sz : Nat} : ∀ (xs : List (List α)), (∀ (i : Nat) e, xs[i]? = some e → e.length = sz) → xs.flatten.length = xs.length * sz
  | [], _ => by simp
  | x :: r, h => by
    have := h 0 x rfl
    rw [List.flatten_cons, List.length_append, flatten_len r (fun i e he => h (i + 1) e he), this, List.length_cons, Nat.add_mul]; omega
/-! A row is a box of cells from here on. -/
def cvD (g ver : Nat) : D → D
  | .own g' v lo len => bif Nat.beq g g' then (bif Nat.beq v ver && Nat.beq lo 0 then .sl g len else .any) else .own g' v lo len
  | .rptr g' v i off => bif Nat.beq g g' then .any else .rptr g' v i off
  | .grd _ _ => .any
  | .aggd _ => .any
  | .fnd _ _ => .any
  | d => d
def cvB (g ver : Nat) : Box → Box
  | .cells frz nw cs => .cells frz nw (cs.map (cvD g ver))
  | b => b
def cvE (g ver : Nat) (e : Env) : Env := e.map fun p => (p.1, cvD g ver p.2)
def cvM (g ver : Nat) : Mem → Mem
  | [] => []
  | (k, b) :: r => bif Nat.beq g k then cvM g ver r else (k, cvB g ver b) :: cvM g ver r
theorem cvE_at (g ver : Nat) : ∀ (e : Env) (t : Nat), Env.at (cvE g ver e) t = cvD g ver (e.at t)
  | [], _ => rfl
  | (k, d) :: r, t => by
    show look .any ((k, cvD g ver d) :: cvE g ver r) t = _
    rw [look_cons]
    show _ = cvD g ver (look .any ((k, d) :: r) t)
    rw [look_cons]
    by_cases h : k = t
    · rw [if_pos h, if_pos h]
    · rw [if_neg h, if_neg h]; exact cvE_at g ver r t
theorem cvM_at (g ver : Nat) : ∀ (m : Mem) (t : Nat), g ≠ t → Mem.at (cvM g ver m) t = cvB g ver (m.at t)
  | [], _, _ => rfl
  | (k, d) :: r, t, hgt => by
    rw [show Mem.at ((k, d) :: r) t = look .gone ((k, d) :: r) t from rfl, look_cons]
    simp only [cvM]
    cases hb : Nat.beq g k with
    | true =>
      have := Nat.eq_of_beq_eq_true hb
      subst this
      rw [if_neg hgt]
      exact cvM_at g ver r t hgt
    | false =>
      show look .gone ((k, cvB g ver d) :: cvM g ver r) t = _
      rw [look_cons]
      by_cases h : k = t
      · rw [if_pos h, if_pos h]
      · rw [if_neg h, if_neg h]; exact cvM_at g ver r t hgt
theorem DW_sw {P : Program} {c : Code} {Q : Exit → St → Prop} {s s' : St} (h : SWk s s') (k : DW P c Q s') : DW P c Q s :=
  DW_weak (fun C _a hh => ⟨C, rfl, h.holds hh, (Step.ofSW h hh).ext⟩) k
theorem DW_mark {P : Program} {c : Code} {Q : Exit → St → Prop} {env : Env} {mem : Mem} {n : Nat} (g : Nat) {bx : Box} (_ : mem.at g = bx) (k : Unit → DW P c Q ⟨env, mem, n⟩) : DW P c Q ⟨env, mem, n⟩ := k ()
/-! Boxes renamed, by functions. -/
theorem Wk_fun {s e : St} (ρ : Nat → Option Nat) (hn : s.n = e.n) (hinj : ∀ g g' a, e.mem.at g ≠ .gone → e.mem.at g' ≠ .gone → ρ g = some a → ρ g' = some a → g = g')
    (hbox : ∀ g, boxLe s.mem e.mem ρ g (e.mem.at g)) (he : ∀ t, slotLe s.mem e.mem ρ (s.env.at t) (e.env.at t)) : Wk s e := by
  intro C a hh
  have hlive : ∀ g b, e.mem.at g ≠ .gone → (ρ g).bind C.ι = some b → ∃ g0, ρ g = some g0 ∧ C.ι g0 = some b ∧ s.mem.at g0 ≠ .gone ∧ (s.mem.at g0).mut = (e.mem.at g).mut := by
    intro g b hg hi
    have hb := hbox g
    cases hbx : e.mem.at g with
    | gone => exact absurd hbx hg
    | row ver frz nw sz xs =>
      rw [hbx] at hb
      simp only [boxLe] at hb
      cases hρ : ρ g with
      | none => simp [hρ] at hi
      | some g0 =>
        rw [hρ] at hb hi
        obtain ⟨ver0, hs⟩ := hb
        exact ⟨g0, rfl, hi, by rw [hs]; simp, by rw [hs]; rfl⟩
    | cells frz nw cs =>
      rw [hbx] at hb
      obtain ⟨g0, cs0, hρ, hs, _⟩ := hb
      rw [hρ] at hi
      exact ⟨g0, hρ, hi, by rw [hs]; simp, by rw [hs]; rfl⟩
    | mapb kt et es =>
      rw [hbx] at hb
      obtain ⟨g0, hρ, hs⟩ := hb
      rw [hρ] at hi
      exact ⟨g0, hρ, hi, by rw [hs]; simp, by rw [hs]⟩
  refine ⟨{ C with ι := fun g => (ρ g).bind C.ι }, rfl, ⟨⟨fun g => ?_, ?_, ?_, hh.mem.sdom, hh.mem.ns⟩, hh.defers, hh.size.trans hn, fun t => slotLe_ok hh.mem (he t) (hh.env t)⟩, ?_⟩
  · have hb := hbox g
    show BoxOK _ _ ((ρ g).bind C.ι) _
    cases hbx : e.mem.at g with
    | gone => trivial
    | row ver frz nw sz xs =>
      rw [hbx] at hb
      simp only [boxLe] at hb
      cases hρ : ρ g with
      | none =>
        rw [hρ] at hb
        exact hb.1
      | some g0 =>
        rw [hρ] at hb
        obtain ⟨ver0, hs⟩ := hb
        have h0 := hh.mem.box g0
        rw [hs] at h0
        simp only [Option.bind_some]
        cases hi : C.ι g0 with
        | none => rw [hi] at h0; exact h0
        | some b => rw [hi] at h0; exact h0
    | cells frz nw cs =>
      rw [hbx] at hb
      obtain ⟨g0, cs0, hρ, hs, hl⟩ := hb
      have h0 := hh.mem.box g0
      rw [hs] at h0
      obtain ⟨b, hi, arr, T, fz, h1, h2, h3, h4, h5⟩ := h0
      obtain ⟨hlen, hget⟩ := listLe_get hl
      refine ⟨b, by simp [hρ, hi], arr, T, fz, h1, h2, by omega, fun j d c hd hc => ?_, h5⟩
      have hj : j < cs0.length := by have := (List.getElem?_eq_some_iff.1 hd).1; omega
      have hcs : cs0[j]? = some cs0[j] := List.getElem?_eq_getElem hj
      exact slotLe_S hh.mem (hget j cs0[j] d hcs hd) (h4 j cs0[j] c hcs hc)
    | mapb kt et es =>
      rw [hbx] at hb
      obtain ⟨g0, hρ, hs⟩ := hb
      have h0 := hh.mem.box g0
      rw [hs] at h0
      obtain ⟨b, hi, h0⟩ := h0
      exact ⟨b, by simp [hρ, hi], h0⟩
  · intro g g' b h1 h2 i1 i2
    obtain ⟨g0, q1, q2, q3, _⟩ := hlive g b h1 i1
    obtain ⟨g1, r1, r2, r3, _⟩ := hlive g' b h2 i2
    have := hh.mem.inj g0 g1 b q3 r3 q2 r2
    subst this
    exact hinj g g' g0 h1 h2 q1 r1
  · intro g b h1 h2
    have hg : e.mem.at g ≠ .gone := by intro h; rw [h] at h1; cases h1
    obtain ⟨g0, q1, q2, q3, q4⟩ := hlive g b hg h2
    exact hh.mem.sep g0 b (by rw [q4]; exact h1) q2
  · refine ⟨rfl, rfl, rfl, Nat.le_refl _, fun _ _ _ => rfl, fun g b h1 h2 => ?_, fun _ h => h, fun _ h => h, fun _ h => .inl h, fun _ h => .inl h⟩
    have hg : e.mem.at g ≠ .gone := by intro h; rw [h] at h1; cases h1
    obtain ⟨g0, q1, q2, q3, q4⟩ := hlive g b hg h2
    exact .inr ⟨g0, by rw [q4]; exact h1, q2⟩
theorem Wk_freezeS {env : Env} {mem mem' : Mem} {n : Nat} (p : Nat → Bool) (hat : ∀ g, mem'.at g = if p g = true then frzBox (mem.at g) else mem.at g) (hk : ∀ g kt et es, p g = true → mem.at g ≠ .mapb kt et es) : Wk ⟨env, mem, n⟩ ⟨env, mem', n⟩ := by
  intro C a hh
  let X : Nat → Prop := fun b => ∃ g, p g = true ∧ (mem.at g).mut = true ∧ C.ι g = some b
  let C' : Cf := { C with S := fun b => C.S b ∨ X b, N := fun b => C.N b ∨ X b }
  have hD : ∀ nw b, C.D nw b → C'.D nw b := fun nw b h => by cases nw <;> exact .inl h
  have hd : ∀ n x v, RdF C n x v → RdF C' n x v := fun n x v h => Rd.mono h (hD n) (fun _ _ => rfl)
  have hs : ∀ d v, RdS C mem d v → RdS C' mem' d v := by
    intro d v h
    cases d with
    | any => trivial
    | nil => exact h
    | dat n x => exact hd n x v h
    | own g' ver lo len =>
      obtain ⟨ver', frz, nw, sz, xs, h1, h2, h3, h4⟩ := h
      by_cases hg : p g' = true
      · exact ⟨ver', true, nw, sz, xs, by rw [hat, if_pos hg, h1]; rfl, h2, h3, h4⟩
      · exact ⟨ver', frz, nw, sz, xs, by rw [hat, if_neg hg]; exact h1, h2, h3, h4⟩
    | ptr g' off =>
      obtain ⟨frz, nw, cs, b, h1, h2, h3⟩ := h
      by_cases hg : p g' = true
      · exact ⟨true, nw, cs, b, by rw [hat, if_pos hg, h1]; rfl, h2, h3⟩
      · exact ⟨frz, nw, cs, b, by rw [hat, if_neg hg]; exact h1, h2, h3⟩
    | sl g' n =>
      obtain ⟨frz, nw, cs, b, cap, h1, h2, h3⟩ := h
      by_cases hg : p g' = true
      · exact ⟨true, nw, cs, b, cap, by rw [hat, if_pos hg, h1]; rfl, h2, h3⟩
      · exact ⟨frz, nw, cs, b, cap, by rw [hat, if_neg hg]; exact h1, h2, h3⟩
    | rptr g' ver i off =>
      obtain ⟨ver', frz, nw, sz, xs, h1, h2, h3, h4⟩ := h
      by_cases hg : p g' = true
      · exact ⟨ver', true, nw, sz, xs, by rw [hat, if_pos hg, h1]; rfl, h2, h3, h4⟩
      · exact ⟨ver', frz, nw, sz, xs, by rw [hat, if_neg hg]; exact h1, h2, h3, h4⟩
    | mp g' =>
      obtain ⟨kt, et, es, b, h1, h2, h3⟩ := h
      have hg : ¬ p g' = true := fun hp => hk g' _ _ _ hp h1
      exact ⟨kt, et, es, b, by rw [hat, if_neg hg]; exact h1, h2, h3⟩
    | _ => exact h.elim
  have hmutne : ∀ g', (mem'.at g').mut = true → ¬ p g' = true ∧ (mem.at g').mut = true := by
    intro g' h
    rw [hat] at h
    by_cases hg : p g' = true
    · rw [if_pos hg] at h
      cases hb : mem.at g' with
      | mapb kt et es => exact absurd hb (hk _ _ _ _ hg)
      | _ => rw [hb] at h; simp [frzBox, Box.mut] at h
    · rw [if_neg hg] at h
      exact ⟨hg, h⟩
  have hgone : ∀ g', mem'.at g' ≠ .gone → mem.at g' ≠ .gone := by
    intro g' h
    rw [hat] at h
    by_cases hg : p g' = true
    · rw [if_pos hg] at h
      intro h0
      rw [h0] at h
      exact h rfl
    · rwa [if_neg hg] at h
  refine ⟨C', rfl, ⟨⟨fun g' => ?_, fun g1 g2 b h1 h2 => hh.mem.inj g1 g2 b (hgone g1 h1) (hgone g2 h2), fun g' b h1 h2 h3 => ?_, fun b hb => ?_, fun b hb => hb.imp (hh.mem.ns b) id⟩, hh.defers, hh.size, fun t => RdD.of_S hs _ _ (hh.env t)⟩, ?_⟩
  · have h0 := BoxOK.upd (hh.mem.box g') (C' := C') (fun _ _ => rfl) hd hs (fun b h => .inl h) (fun b h => .inl h)
    show BoxOK C' mem' (C.ι g') (mem'.at g')
    rw [hat]
    by_cases hg : p g' = true
    · rw [if_pos hg]
      cases hb : mem.at g' with
      | cells frz nw cs =>
        rw [show St.mem ⟨env, mem, n⟩ = mem from rfl, hb] at h0
        obtain ⟨b, hi, arr, T, fz, h1, h2, h3, h4, h5⟩ := h0
        refine ⟨b, hi, arr, T, fz, h1, h2, h3, h4, fun _ => ?_⟩
        cases frz with
        | true => exact h5 rfl
        | false =>
          have hx : X b := ⟨g', hg, by rw [hb]; rfl, hi⟩
          cases nw <;> exact .inr hx
      | row ver frz nw sz xs =>
        rw [show St.mem ⟨env, mem, n⟩ = mem from rfl, hb] at h0
        cases hi : C.ι g' with
        | none => rw [hi] at h0; exact h0
        | some b =>
          rw [hi] at h0
          obtain ⟨arr, T, fz, h1, h2, h3, h4, h5, h6, h7⟩ := h0
          refine ⟨arr, T, fz, h1, h2, h3, h4, h5, h6, fun _ => ?_⟩
          cases frz with
          | true => exact h7 rfl
          | false => exact .inr ⟨g', hg, by rw [hb]; rfl, hi⟩
      | mapb kt et es => exact absurd hb (hk _ _ _ _ hg)
      | gone => trivial
    · rw [if_neg hg]
      exact h0
  · obtain ⟨hg, hmt⟩ := hmutne g' h1
    rcases h3 with h3 | ⟨g, hp, h3, h4⟩
    · exact hh.mem.sep g' b hmt h2 h3
    · refine hg ?_
      have := hh.mem.inj g g' b ?_ ?_ h4 h2
      · rw [← this]; exact hp
      · intro h0
        have h0 : mem.at g = .gone := h0
        rw [h0] at h3; cases h3
      · intro h0
        have h0 : mem.at g' = .gone := h0
        rw [h0] at hmt; cases hmt
  · rcases hb with hb | ⟨g, _, h1, h2⟩
    · exact hh.mem.sdom b hb
    · exact BoxOK.lt hh.mem (g := g) (by intro h0; have h0 : mem.at g = .gone := h0; rw [h0] at h1; cases h1) h2
  · refine ⟨rfl, rfl, rfl, Nat.le_refl _, fun _ _ _ => rfl, fun g' b h1 h2 => .inr ⟨g', (hmutne g' h1).2, h2⟩, fun _ h => .inl h, fun _ h => .inl h, fun b hb => ?_, fun b hb => ?_⟩
    · rcases hb with hb | hb
      · exact .inl hb
      · exact .inr (.inr hb)
    · rcases hb with hb | ⟨g, _, h1, h2⟩
      · exact .inl hb
      · exact .inr (.inr ⟨g, h1, h2⟩)
theorem rd_sl {C : Cf} {m : Mem} {g n sz : Nat} {v : Value} {fl nw : Bool} {cs : List D} (hm : HoldsM C m) (hg : m.at g = .cells true nw cs) (hnw : fl = true → nw = true) (xs : List (List V))
    (hsz : ∀ (i : Nat) (e : List V), xs[i]? = some e → e.length = sz)
    (hc : ∀ (i j : Nat) (e : List V) (x : V), xs[i]? = some e → e[j]? = some x → x.one = true ∧ ∃ d n', cs[i * sz + j]? = some d ∧ asV0 m d = some (n', x) ∧ (fl = true → n' = true ∨ x.isI = true))
    (hl : n = xs.length) (h : RdS C m (.sl g n) v) : RdF C fl (.slice xs) v := by
  obtain ⟨frz, nw', cs', b, cap, e1, hi, rfl, hle, hmx⟩ := h
  have hb := hm.box g
  rw [hg] at hb
  obtain ⟨b', hi', arr, T, fz, h1, h2, h3, h4, h5⟩ := hb
  rw [hi] at hi'
  injection hi' with hi'
  subst hi'
  have hS : C.D fl b := by
    have := h5 rfl
    cases fl with
    | true => rw [hnw rfl] at this; exact this
    | false =>
      cases nw with
      | true => exact hm.ns b this
      | false => exact this
  subst hl
  have key : ∀ (i j : Nat) (e : List V) (x : V), xs[i]? = some e → e[j]? = some x → arr[i * sz + j]? = some (arr.getD (i * sz + j) undef) ∧ RdF C fl x (arr.getD (i * sz + j) undef) := by
    intro i j e x hx hj
    obtain ⟨_, d, n', hd, hv, hf⟩ := hc i j e x hx hj
    have hlt : i * sz + j < arr.size := by have := (List.getElem?_eq_some_iff.1 hd).1; omega
    have ha : arr[i * sz + j]? = some (arr.getD (i * sz + j) undef) := by simp [hlt]
    refine ⟨ha, ?_⟩
    have hr := asV0_ok hm (fun _ _ => rfl) hv (h4 _ _ _ hd ha).rd
    cases fl with
    | false => exact hr.weak hm
    | true =>
      have hr := hr.word
      rcases hf rfl with q | q
      · rw [q] at hr; exact hr
      · rw [q, Bool.or_true] at hr; exact hr
  refine Rd.slice xs b 0 cap sz (fun i j => arr.getD (i * sz + j) undef) hle hmx hsz (fun i j e d q1 q2 => (hc i j e d q1 q2).1) (fun _ => hS) (fun i j e d q1 q2 => ?_) (fun i j e d q1 q2 => (key i j e d q1 q2).2)
  rw [Nat.zero_add, cell_of_arr h1]
  exact (key i j e d q1 q2).1
end Go.Proofs.Ytfmaehhloffabaa
