/- A call that works on some of the caller's memory in its place, under the same names: contracts (FnM), the frame around them, the calls. -/
import Derived.Test.YtfmaehhloffabaaybFm5
import Derived.Test.YtfmaehhloffabaaybLnd
import Derived.Test.YtfmaehhloffabaaybNst
import Derived.Test.YtfmaehhloffabaaybInp
namespace Go.Proofs.Ytfmaehhloffabaa
open Go.RowKit
attribute [local irreducible] nm ix
def cellB (k i : Nat) (b : Bridge) : List D :=
  [.dat true (.int .u64 b.addr), if i < k then .own (nm i) 0 0 b.prios.length else .dat false (.slice (b.prios.map intV1)), .dat true (.str b.region.name), .dat true (.int .i64 b.region.rev), .dat (decide (i < k)) (.slice (b.region.ways.map wayV))]
theorem cellB_len (k i : Nat) (b : Bridge) : (cellB k i b).length = 5 := rfl
def brCS (k : Nat) (bs : List Bridge) : List D := (bs.mapIdx (cellB k)).flatten
theorem brCS_len (k : Nat) (bs : List Bridge) : (brCS k bs).length = bs.length * 5 := by
  unfold brCS
  rw [flatten_len (sz := 5) _ (fun i e h => by
    rw [List.getElem?_mapIdx] at h
    obtain ⟨b, _, rfl⟩ := Option.map_eq_some_iff.1 h
    exact cellB_len k i b), List.length_mapIdx]
theorem brCS_get (k : Nat) (bs : List Bridge) (i o : Nat) (ho : o < 5) : (brCS k bs)[i * 5 + o]? = (bs[i]?).bind fun b => (cellB k i b)[o]? := by
  unfold brCS
  rw [flatten_get (sz := 5) _ (fun i e h => by
    rw [List.getElem?_mapIdx] at h
    obtain ⟨b, _, rfl⟩ := Option.map_eq_some_iff.1 h
    exact cellB_len k i b) i o ho, List.getElem?_mapIdx]
  cases bs[i]? <;> rfl
theorem cellB_get {k i o : Nat} {b : Bridge} {d : D} (h : (cellB k i b)[o]? = some d) : (∃ n x, d = .dat n x) ∨ (o = 1 ∧ i < k ∧ d = .own (nm i) 0 0 b.prios.length) := by
  match o with
  | 0 => injection h with h; exact .inl ⟨_, _, h.symm⟩
  | 1 =>
    injection h with h
    by_cases hk : i < k
    · rw [if_pos hk] at h; exact .inr ⟨rfl, hk, h.symm⟩
    · rw [if_neg hk] at h; exact .inl ⟨_, _, h.symm⟩
  | 2 => injection h with h; exact .inl ⟨_, _, h.symm⟩
  | 3 => injection h with h; exact .inl ⟨_, _, h.symm⟩
  | 4 => injection h with h; exact .inl ⟨_, _, h.symm⟩
  | o + 5 => simp [cellB] at h
def priosOf (k : Nat) (bs : List Bridge) : List (List Int) := (bs.take k).map (·.prios)
theorem priosOf_get {k i : Nat} {bs : List Bridge} (h : i < k) : (priosOf k bs)[i]? = (bs[i]?).map (·.prios) := by
  unfold priosOf
  rw [List.getElem?_map, List.getElem?_take, if_pos h]
theorem brCS_at {k j : Nat} {bs : List Bridge} {d : D} (h : (brCS k bs)[j]? = some d) : ∃ b, bs[j / 5]? = some b ∧ (cellB k (j / 5) b)[j % 5]? = some d := by
  have e : j = j / 5 * 5 + j % 5 := by omega
  rw [e, brCS_get k bs _ _ (Nat.mod_lt _ (by decide))] at h
  obtain ⟨b, hb, hd⟩ := Option.bind_eq_some_iff.1 h
  exact ⟨b, hb, hd⟩
def brT (k K : Nat) (bs : List Bridge) : List D := brCS k bs ++ List.replicate K .any
theorem brT_get {k K j : Nat} {bs : List Bridge} (h : j < bs.length * 5) : (brT k K bs)[j]? = (brCS k bs)[j]? := by
  unfold brT
  rw [List.getElem?_append_left (by rw [brCS_len]; exact h)]
theorem brCS_own {k i : Nat} {bs : List Bridge} {b : Bridge} (hi : i < k) (hb : bs[i]? = some b) : (brCS k bs)[i * 5 + 1]? = some (.own (nm i) 0 0 b.prios.length) := by
  rw [brCS_get k bs i 1 (by decide), hb]
  show some (if i < k then D.own (nm i) 0 0 b.prios.length else _) = _
  rw [if_pos hi]
theorem brCS_uq {k i : Nat} {bs : List Bridge} (j len : Nat) (h : (brCS k bs)[j]? = some (.own (nm i) 0 0 len)) : j = i * 5 + 1 := by
  obtain ⟨b, hb, hd⟩ := brCS_at h
  rcases cellB_get hd with ⟨n, x, e⟩ | ⟨ho, _, e⟩
  · cases e
  · injection e with e
    have := nm_inj e
    omega
theorem brCS_dat {bs : List Bridge} (j : Nat) (d : D) (h : (brCS 0 bs)[j]? = some d) : ∃ n x, d = .dat n x := by
  obtain ⟨b, hb, hd⟩ := brCS_at h
  rcases cellB_get hd with ⟨n, x, rfl⟩ | ⟨_, hk, _⟩
  · exact ⟨n, x, rfl⟩
  · omega
theorem brCS_step {k : Nat} {bs : List Bridge} {b : Bridge} (hb : bs[k]? = some b) (d : D) : ((brCS k bs).set (k * 5 + 1) d).set (k * 5 + 4) (.dat true (.slice (b.region.ways.map wayV))) = (brCS (k + 1) bs).set (k * 5 + 1) d := by
  have hk := (List.getElem?_eq_some_iff.1 hb).1
  refine List.ext_getElem? fun j => ?_
  rw [List.getElem?_set, List.getElem?_set, List.getElem?_set, List.length_set, brCS_len, brCS_len]
  by_cases h4 : k * 5 + 4 = j
  · rw [if_pos h4, if_pos (by omega), if_neg (by omega), ← h4, brCS_get (k + 1) bs k 4 (by decide), hb]
    show _ = some (D.dat (decide (k < k + 1)) _)
    rw [decide_eq_true (by omega)]
  rw [if_neg h4]
  split
  · rfl
  · rename_i hj
    have e : j = j / 5 * 5 + j % 5 := by omega
    have h5 : j % 5 < 5 := Nat.mod_lt _ (by decide)
    rw [e, brCS_get k bs _ _ h5, brCS_get (k + 1) bs _ _ h5]
    cases hbj : bs[j / 5]? with
    | none => rfl
    | some b1 =>
      show (cellB k (j / 5) b1)[j % 5]? = (cellB (k + 1) (j / 5) b1)[j % 5]?
      by_cases h1 : j / 5 = k
      · have ho : j % 5 = 0 ∨ j % 5 = 2 ∨ j % 5 = 3 := by omega
        rcases ho with ho | ho | ho <;> rw [ho] <;> rfl
      · have hlt : j / 5 < k ↔ j / 5 < k + 1 := by omega
        unfold cellB
        simp only [hlt]
theorem brCS_put {k A : Nat} {bs : List Bridge} {b : Bridge} {ps : List Int} (_hA : A < k) (hb : bs[A]? = some b) (d : D) : (brCS k (bs.set A { b with prios := ps })).set (A * 5 + 1) d = (brCS k bs).set (A * 5 + 1) d := by
  have hAl := (List.getElem?_eq_some_iff.1 hb).1
  refine List.ext_getElem? fun j => ?_
  rw [List.getElem?_set, List.getElem?_set, brCS_len, brCS_len, List.length_set]
  split
  · rfl
  · rename_i hj
    have e : j = j / 5 * 5 + j % 5 := by omega
    have h5 : j % 5 < 5 := Nat.mod_lt _ (by decide)
    rw [e, brCS_get k _ _ _ h5, brCS_get k bs _ _ h5, List.getElem?_set]
    by_cases h1 : A = j / 5
    · have ho : j % 5 = 0 ∨ j % 5 = 2 ∨ j % 5 = 3 ∨ j % 5 = 4 := by omega
      rw [if_pos h1, if_pos hAl, ← h1, hb]
      show (cellB k A { b with prios := ps })[j % 5]? = (cellB k A b)[j % 5]?
      rcases ho with ho | ho | ho | ho <;> rw [ho] <;> rfl
    · rw [if_neg h1]
theorem lnd_net {m : Mem} {N ver vl K : Nat} {frz nw fr2 : Bool} {n : Net} (h1 : m.at N = .cells frz nw [.sl 950 n.bridges.length, .own 941 ver 0 n.links.length]) (h2 : m.at 950 = .cells false true (brT n.bridges.length K n.bridges)) (h3 : m.at 941 = .row vl fr2 true 6 (n.links.map linkV)) (hv : ver = vl)
    (h4 : ∀ (k : Nat) b, n.bridges[k]? = some b → m.at (nm k) = .row 0 false true 1 (b.prios.map intV1)) : Lnd m (.ptr N 0) (.rp n.cells) := by
  subst hv
  have hasb : ∀ d x, asB0 m d = some x → (∀ g off, d ≠ .ptr g off) → (∀ g v i o, d ≠ .rptr g v i o) → (∀ cs, d ≠ .aggd cs) → asB m d = some x := fun d x h q1 q2 q3 => by
    cases d with
    | ptr g off => exact absurd rfl (q1 g off)
    | rptr g v i o => exact absurd rfl (q2 g v i o)
    | aggd cs => exact absurd rfl (q3 cs)
    | _ => exact h
  refine .ptr (fun j => if j = 0 then .sl 950 n.bridges.length else .own 941 ver 0 n.links.length) h1 (fun j x hx => ?_) (fun j x hx => ?_) (fun j x hx => ?_)
  · match j with
    | 0 => simp [Net.cells] at hx; subst hx; rfl
    | 1 => simp [Net.cells] at hx; subst hx; rfl
    | j + 2 => simp [Net.cells] at hx
  · match j with
    | 0 => rfl
    | 1 => rfl
    | j + 2 => simp [Net.cells] at hx
  · match j with
    | 0 =>
      simp only [Net.cells, List.getElem?_cons_zero, Option.some.injEq] at hx
      subst hx
      rw [if_pos rfl]
      have hget : ∀ (i : Nat) (e : List V), (n.bridges.map bridgeV)[i]? = some e → ∃ b, n.bridges[i]? = some b ∧ e = bridgeV b := fun i e h => by
        rw [List.getElem?_map] at h
        obtain ⟨b, hb, rfl⟩ := Option.map_eq_some_iff.1 h
        exact ⟨b, hb, rfl⟩
      have h5 : ∀ (b : Bridge), (bridgeV b).length = 5 := fun _ => rfl
      have hcell : ∀ (i o : Nat) (b : Bridge) (x : V), n.bridges[i]? = some b → (bridgeV b)[o]? = some x → (brT n.bridges.length K n.bridges)[i * 5 + o]? = some (if o = 1 then .own (nm i) 0 0 b.prios.length else .dat true x) := fun i o b x hb hx => by
        have ho : o < 5 := by have := (List.getElem?_eq_some_iff.1 hx).1; rw [h5] at this; exact this
        have hil := (List.getElem?_eq_some_iff.1 hb).1
        rw [brT_get (by omega), brCS_get _ _ i o ho, hb]
        show (cellB n.bridges.length i b)[o]? = _
        unfold cellB
        rw [if_pos hil, decide_eq_true hil]
        match o, ho, hx with
        | 0, _, hx => injection hx with hx; subst hx; rfl
        | 1, _, hx => rfl
        | 2, _, hx => injection hx with hx; subst hx; rfl
        | 3, _, hx => injection hx with hx; subst hx; rfl
        | 4, _, hx => injection hx with hx; subst hx; rfl
      refine .sl (sz := 5) (fun i o => ((brT n.bridges.length K n.bridges)[i * 5 + o]?).getD .any) h2 (by simp) (fun i e he => ?_) (fun i j e x he hx => ?_) (fun i j e x he hx => ?_) (fun i j e x he hx => ?_)
      · obtain ⟨b, _, rfl⟩ := hget i e he
        rfl
      · obtain ⟨b, _, rfl⟩ := hget i e he
        have := List.mem_of_getElem? hx
        simp only [bridgeV, List.mem_cons, List.mem_nil_iff, or_false] at this
        rcases this with rfl | rfl | rfl | rfl | rfl <;> rfl
      · obtain ⟨b, hb, rfl⟩ := hget i e he
        rw [hcell i j b x hb hx]; rfl
      · obtain ⟨b, hb, rfl⟩ := hget i e he
        rw [hcell i j b x hb hx, Option.getD_some]
        by_cases h1 : j = 1
        · subst h1
          rw [if_pos rfl]
          have hx : some (V.slice (b.prios.map intV1)) = some x := hx
          injection hx with hx
          subst hx
          refine .asb (hasb _ _ ?_ (fun _ _ => nofun) (fun _ _ _ _ => nofun) (fun _ => nofun))
          simp only [asB0, h4 i b hb]
          show some (V.slice (((b.prios.map intV1).drop 0).take b.prios.length)) = _
          rw [List.drop_zero, List.take_of_length_le (by simp)]
        · rw [if_neg h1]
          exact .asb rfl
    | 1 =>
      simp only [Net.cells, List.getElem?_cons_succ, List.getElem?_cons_zero, Option.some.injEq] at hx
      subst hx
      rw [if_neg (by decide)]
      refine .asb (hasb _ _ ?_ (fun _ _ => nofun) (fun _ _ _ _ => nofun) (fun _ => nofun))
      simp only [asB0, h3, show Nat.beq ver ver = true from Nat.beq_refl _]
      show some (V.slice (((n.links.map linkV).drop 0).take n.links.length)) = _
      rw [List.drop_zero, List.take_of_length_le (by simp)]
    | j + 2 => simp [Net.cells] at hx
end Go.Proofs.Ytfmaehhloffabaa
namespace Go.Proofs.Ytfmaehhloffabaa
open Go.RowKit
theorem DW_cellsOfN {P : Program} {c : Code} {Q : Exit → St → Prop} {env : Env} {mem : Mem} {n : Nat} (g : Nat) {ver sz : Nat} {nw : Bool} {xs : List (List V)} (hg : mem.at g = .row ver false nw sz xs) (hsz : 0 < sz) (hne : xs ≠ [])
    (k : DW P c Q ⟨cvE g ver env, (g, .cells false true (xs.flatten.map (.dat nw))) :: cvM g ver mem, n⟩) : DW P c Q ⟨env, mem, n⟩ := by
  intro C a hh
  have hb := hh.mem.box g
  rw [show St.mem ⟨env, mem, n⟩ = mem from rfl, hg] at hb
  cases hi : C.ι g with
  | none => rw [hi] at hb; exact absurd hb hne
  | some b =>
    rw [hi] at hb
    obtain ⟨arr, T, fz, h1, h2, h3, h4, h5, h6, h7⟩ := hb
    have hfl : xs.flatten.length = xs.length * sz := flatten_len xs h4
    let cs := xs.flatten.map (D.dat nw)
    have hcl : cs.length ≤ arr.size := by show (xs.flatten.map (D.dat nw)).length ≤ _; rw [List.length_map, hfl]; omega
    let m' : Mem := (g, .cells false true cs) :: cvM g ver mem
    have hat : ∀ k, Mem.at m' k = if g = k then .cells false true cs else cvB g ver (mem.at k) := fun k => by
      rw [show Mem.at m' k = look .gone ((g, .cells false true cs) :: cvM g ver mem) k from rfl, look_cons]
      by_cases h : g = k
      · rw [if_pos h, if_pos h]
      · rw [if_neg h, if_neg h]; exact cvM_at g ver mem k h
    have hmut : ∀ k, (Mem.at m' k).mut = (mem.at k).mut := fun k => by
      rw [hat]
      by_cases hk : g = k
      · subst hk; rw [if_pos rfl, hg]; rfl
      · rw [if_neg hk]; cases mem.at k <;> rfl
    have hgone : ∀ k, Mem.at m' k ≠ .gone → mem.at k ≠ .gone := fun k h => by
      rw [hat] at h
      by_cases hk : g = k
      · subst hk; rw [hg]; simp
      · rw [if_neg hk] at h
        intro h0; rw [h0] at h; exact h rfl
    have hs : ∀ d v, RdS C mem d v → RdS C m' (cvD g ver d) v := by
      intro d v h
      cases d with
      | any => trivial
      | nil => exact h
      | dat n x => exact h
      | grd _ _ => exact h.elim
      | aggd _ => exact h.elim
      | fnd _ _ => exact h.elim
      | own g' v' lo len =>
        obtain ⟨ver', frz, nw', sz', xs', e1, e2, e3, e4⟩ := id h
        simp only [cvD]
        cases hb : Nat.beq g g' with
        | false =>
          have hne' : g ≠ g' := fun h => by subst h; simp at hb
          exact ⟨ver', frz, nw', sz', xs', by rw [hat, if_neg hne', e1]; rfl, e2, e3, e4⟩
        | true =>
          have := Nat.eq_of_beq_eq_true hb
          subst this
          simp only [cond_true]
          cases hv : (Nat.beq v' ver && Nat.beq lo 0) with
          | false => trivial
          | true =>
            simp only [Bool.and_eq_true] at hv
            have q1 := Nat.eq_of_beq_eq_true hv.1
            have q2 := Nat.eq_of_beq_eq_true hv.2
            subst q1 q2
            rw [hg] at e1
            injection e1 with z1 z2 z3 z4 z5
            obtain ⟨r1, r2⟩ := e4 z1
            unfold OwnV at r2
            simp only [hi] at r2
            obtain ⟨cap, arr', T', fz', y1, y2, y3, y4, y5⟩ := r2
            exact ⟨false, true, cs, b, cap, by rw [hat, if_pos rfl], hi, by rw [y1, Nat.zero_mul], y4, y5⟩
      | ptr g' off =>
        obtain ⟨frz, nw', cs', b', e1, e2, e3⟩ := h
        have hne' : g ≠ g' := fun h => by subst h; rw [hg] at e1; cases e1
        exact ⟨frz, nw', cs'.map (cvD g ver), b', by rw [hat, if_neg hne', e1]; rfl, e2, e3⟩
      | sl g' n' =>
        obtain ⟨frz, nw', cs', b', cap, e1, e2, e3⟩ := h
        have hne' : g ≠ g' := fun h => by subst h; rw [hg] at e1; cases e1
        exact ⟨frz, nw', cs'.map (cvD g ver), b', cap, by rw [hat, if_neg hne', e1]; rfl, e2, e3⟩
      | rptr g' v' i off =>
        obtain ⟨ver', frz, nw', sz', xs', e1, e2, e3, e4⟩ := id h
        simp only [cvD]
        cases hb : Nat.beq g g' with
        | false =>
          have hne' : g ≠ g' := fun h => by subst h; simp at hb
          exact ⟨ver', frz, nw', sz', xs', by rw [hat, if_neg hne', e1]; rfl, e2, e3, e4⟩
        | true => trivial
      | mp g' =>
        obtain ⟨kt, et, es, b', e1, e2, e3⟩ := h
        have hne' : g ≠ g' := fun h => by subst h; rw [hg] at e1; cases e1
        exact ⟨kt, et, es, b', by rw [hat, if_neg hne', e1]; rfl, e2, e3⟩
    have hsD : ∀ d v, RdD C mem d v → RdD C m' (cvD g ver d) v := by
      intro d v h
      cases d with
      | grd _ _ => trivial
      | aggd _ => trivial
      | fnd _ _ => trivial
      | _ => exact RdS.rd (hs _ _ h)
    have hh' : Holds C ⟨cvE g ver env, m', n⟩ a := by
      refine ⟨⟨fun k => ?_, fun k k' b1 q1 q2 => hh.mem.inj k k' b1 (hgone k q1) (hgone k' q2), fun k b1 q1 => hh.mem.sep k b1 (by rw [← hmut k]; exact q1), hh.mem.sdom, hh.mem.ns⟩, hh.defers, hh.size, fun t => ?_⟩
      · show BoxOK C m' (C.ι k) (Mem.at m' k)
        rw [hat]
        by_cases hk : g = k
        · subst hk
          rw [if_pos rfl, hi]
          refine ⟨b, rfl, arr, T, fz, h1, ⟨h2.1, h2.2.1, .inl rfl⟩, hcl, fun j d c hd hc => ?_, fun h => by cases h⟩
          have hj : j < xs.length * sz := by
            have := (List.getElem?_eq_some_iff.1 hd).1
            rw [show cs.length = xs.length * sz from by show (xs.flatten.map (D.dat nw)).length = _; rw [List.length_map, hfl]] at this
            exact this
          have hd : (xs.flatten.map (D.dat nw))[j]? = some d := hd
          rw [List.getElem?_map] at hd
          obtain ⟨x, hx, rfl⟩ := Option.map_eq_some_iff.1 hd
          have hj2 : j % sz < sz := Nat.mod_lt _ hsz
          have he : j / sz * sz + j % sz = j := by rw [Nat.mul_comm]; exact Nat.div_add_mod j sz
          rw [← he, flatten_get xs h4 _ _ hj2] at hx
          obtain ⟨u, hu, hx⟩ := Option.bind_eq_some_iff.1 hx
          exact h6 _ _ u x c hu hx (by rw [he]; exact hc)
        · rw [if_neg hk]
          have h0 := hh.mem.box k
          rw [show St.mem ⟨env, mem, n⟩ = mem from rfl] at h0
          cases hbx : mem.at k with
          | gone => trivial
          | row ver' frz' nw' sz' xs' => rw [hbx] at h0; exact h0
          | mapb kt et es => rw [hbx] at h0; exact h0
          | cells frz' nw' cs' =>
            rw [hbx] at h0
            obtain ⟨b', y0, arr', T', fz', y1, y2, y3, y4, y5⟩ := h0
            refine ⟨b', y0, arr', T', fz', y1, y2, by simpa using y3, fun j d c hd hc => ?_, y5⟩
            rw [List.getElem?_map] at hd
            obtain ⟨d0, hd0, rfl⟩ := Option.map_eq_some_iff.1 hd
            exact hs _ _ (y4 j d0 c hd0 hc)
      · show RdD C m' (Env.at (cvE g ver env) t) _
        rw [cvE_at]
        exact hsD _ _ (hh.env t)
    have hx : Ext C mem C m' := ⟨rfl, rfl, rfl, Nat.le_refl _, fun _ _ _ => rfl, fun k b1 q1 q2 => .inr ⟨k, by rw [← hmut k]; exact q1, q2⟩, fun _ h => h, fun _ h => h, fun _ h => .inl h, fun _ h => .inl h⟩
    exact Code.wp_mono (fun ex a2 w2 ⟨C2, s2, e2, q2, r2, x2⟩ => ⟨C2, s2, e2, q2, r2, hx.trans x2⟩) (k C a hh')
end Go.Proofs.Ytfmaehhloffabaa
namespace Go.Proofs.Ytfmaehhloffabaa
open Go.RowKit
def FnM (P : Program) (f : FuncId) (ds : List D) (mk : Mem) (r : D) (mk' : Mem) : Prop := Callable P f ∧
  ∀ (C : Cf) (vs : Array Value), HoldsM C mk → vs.size = ds.length → (∀ (j : Nat) d v, ds[j]? = some d → vs[j]? = some v → RdD C mk d v) →
    Calls P f vs C.w fun e w' => ∃ v C', e = .returned v ∧ C'.w = w' ∧ Step C mk C' mk' ∧ RdD C' mk' r v
def mixC (K : List Nat) (C C1 : Cf) : Cf := { C1 with ι := fun g => if K.contains g then C1.ι g else C.ι g }
def mixM (mk' : Mem) : List Nat → Mem
  | [] => []
  | g :: r => (g, mk'.at g) :: mixM mk' r
theorem mixM_at {mk' M : Mem} (g : Nat) : ∀ K : List Nat, Mem.at (mixM mk' K ++ M) g = if K.contains g then mk'.at g else M.at g
  | [] => rfl
  | k :: r => by
    show look _ ((k, _) :: (mixM mk' r ++ M)) g = _
    rw [look_cons]
    by_cases h : k = g
    · subst h; rw [if_pos rfl]; simp
    · rw [if_neg h]
      have ih := mixM_at (mk' := mk') (M := M) g r
      unfold Mem.at at ih ⊢
      rw [ih]
      have : (k :: r).contains g = r.contains g := by
        simp only [List.contains_cons]
        have : (g == k) = false := by simp; exact fun e => h e.symm
        rw [this]; rfl
      rw [this]
def refD : D → Option Nat
  | .own g _ _ _ => some g
  | .ptr g _ => some g
  | .rptr g _ _ _ => some g
  | .mp g => some g
  | .sl g _ => some g
  | _ => none
def inKD (K : List Nat) (d : D) : Prop := ∀ g, refD d = some g → K.contains g = true
theorem RdS_to {C C' : Cf} {m m' : Mem} {d : D} {v : Value} (hw : C'.w = C.w) (hS : C'.S = C.S) (hN : C'.N = C.N) (h : ∀ g, refD d = some g → m'.at g = m.at g ∧ C'.ι g = C.ι g) (hr : RdS C m d v) : RdS C' m' d v := by
  have hD : ∀ n, C'.D n = C.D n := fun n => by unfold Cf.D; rw [hS, hN]
  cases d with
  | any => trivial
  | nil => exact hr
  | grd b d => exact hr.elim
  | aggd cs => exact hr.elim
  | fnd _ _ => exact hr.elim
  | dat n x =>
    have hr : Rd (C.D n) C.w x v := hr
    show Rd (C'.D n) C'.w x v
    rw [hD, hw]; exact hr
  | own g ver lo len =>
    obtain ⟨e1, e2⟩ := h g rfl
    obtain ⟨ver', frz, nw, sz, xs, p1, p2, p3, p4⟩ := hr
    refine ⟨ver', frz, nw, sz, xs, e1.trans p1, p2, p3, fun hv => ?_⟩
    rw [hw, e2]; exact p4 hv
  | ptr g off =>
    obtain ⟨e1, e2⟩ := h g rfl
    obtain ⟨frz, nw, cs, b, p1, p2, p3⟩ := hr
    exact ⟨frz, nw, cs, b, e1.trans p1, e2.trans p2, p3⟩
  | rptr g ver i off =>
    obtain ⟨e1, e2⟩ := h g rfl
    obtain ⟨ver', frz, nw, sz, xs, p1, p2, p3, p4⟩ := hr
    refine ⟨ver', frz, nw, sz, xs, e1.trans p1, p2, p3, fun hv => ?_⟩
    obtain ⟨q1, b, q2, q3⟩ := p4 hv
    exact ⟨q1, b, e2.trans q2, q3⟩
  | mp g =>
    obtain ⟨e1, e2⟩ := h g rfl
    obtain ⟨kt, et, es, b, p1, p2, p3⟩ := hr
    exact ⟨kt, et, es, b, e1.trans p1, e2.trans p2, p3⟩
  | sl g n =>
    obtain ⟨e1, e2⟩ := h g rfl
    obtain ⟨frz, nw, cs, b, cap, p1, p2, p3⟩ := hr
    exact ⟨frz, nw, cs, b, cap, e1.trans p1, e2.trans p2, p3⟩
theorem RdS_back {C : Cf} {m : Mem} {d : D} {v : Value} (h : RdD C m d v) (hn : ∀ b d', d ≠ .grd b d') (hn2 : ∀ cs, d ≠ .aggd cs) (hn3 : ∀ f cs, d ≠ .fnd f cs) : RdS C m d v := by
  cases d <;> first | exact h | exact absurd rfl (hn _ _) | exact absurd rfl (hn2 _) | exact absurd rfl (hn3 _ _)
theorem RdS_live {C : Cf} {m : Mem} {d : D} {v : Value} (h : RdS C m d v) {g : Nat} (hg : refD d = some g) : m.at g ≠ .gone := by
  intro e
  cases d with
  | own g' ver lo len => injection hg with hg; subst hg; obtain ⟨_, _, _, _, _, q, _⟩ := h; rw [e] at q; cases q
  | ptr g' off => injection hg with hg; subst hg; obtain ⟨_, _, _, _, q, _⟩ := h; rw [e] at q; cases q
  | rptr g' ver i off => injection hg with hg; subst hg; obtain ⟨_, _, _, _, _, q, _⟩ := h; rw [e] at q; cases q
  | mp g' => injection hg with hg; subst hg; obtain ⟨_, _, _, _, q, _⟩ := h; rw [e] at q; cases q
  | sl g' n => injection hg with hg; subst hg; obtain ⟨_, _, _, _, _, q, _⟩ := h; rw [e] at q; cases q
  | any => cases hg
  | nil => cases hg
  | grd b d => cases hg
  | dat n x => cases hg
  | aggd cs => cases hg
  | fnd _ _ => cases hg
section
variable {C C1 : Cf} {M mk mk' : Mem} {K : List Nat}
theorem sub_holds (hh : HoldsM C M) (hin : ∀ g, K.contains g = true → mk.at g = M.at g) (hout : ∀ g, K.contains g = false → mk.at g = .gone)
    (hcl : ∀ g frz nw cs, mk.at g = .cells frz nw cs → ∀ d ∈ cs, inKD K d) : HoldsM C mk := by
  have hat : ∀ g, mk.at g ≠ .gone → mk.at g = M.at g := fun g h => by
    cases hk : K.contains g
    · exact absurd (hout g hk) h
    · exact hin g hk
  refine ⟨fun g => ?_, fun g g' b h1 h2 => hh.inj g g' b (by rw [← hat g h1]; exact h1) (by rw [← hat g' h2]; exact h2), fun g b hm => ?_, hh.sdom, hh.ns⟩
  · by_cases hg : mk.at g = .gone
    · rw [hg]; trivial
    · have hb := hh.box g
      rw [← hat g hg] at hb
      cases hbx : mk.at g with
      | gone => trivial
      | cells frz nw cs =>
        rw [hbx] at hb
        obtain ⟨b, e, arr, T, fz, q1, q2, q3, q4, q5⟩ := hb
        refine ⟨b, e, arr, T, fz, q1, q2, q3, fun j d c hd hc => RdS_to rfl rfl rfl (fun g' hg' => ⟨?_, rfl⟩) (q4 j d c hd hc), q5⟩
        exact hin g' (hcl g frz nw cs hbx d (List.mem_of_getElem? hd) g' hg')
      | row ver frz nw sz xs => rw [hbx] at hb; exact hb
      | mapb kt et es => rw [hbx] at hb; exact hb
  · have hne : mk.at g ≠ .gone := by intro e; rw [e] at hm; cases hm
    rw [hat g hne] at hm
    exact hh.sep g b hm
theorem frame_step (hh : HoldsM C M) (hin : ∀ g, K.contains g = true → mk.at g = M.at g) (hout : ∀ g, K.contains g = false → mk.at g = .gone) (hout' : ∀ g, K.contains g = false → mk'.at g = .gone) (hmut : ∀ g, mk'.at g ≠ .gone → (mk'.at g).mut = true)
    (hst : Step C mk C1 mk') : Step C M (mixC K C C1) (mixM mk' K ++ M) := by
  have hx := hst.ext
  have h1 := hst.holds
  have hslot := hst.slot
  have hat := mixM_at (mk' := mk') (M := M)
  have hι : ∀ g, (mixC K C C1).ι g = if K.contains g then C1.ι g else C.ι g := fun _ => rfl
  have lt : ∀ {g b}, M.at g ≠ .gone → C.ι g = some b → b < C.w.heap.size := fun h i => BoxOK.lt hh h i
  have mutK : ∀ k, (mk.at k).mut = true → K.contains k = true ∧ (M.at k).mut = true := fun k hm => by
    cases hk : K.contains k
    · rw [hout k hk] at hm; cases hm
    · exact ⟨rfl, by rw [← hin k hk]; exact hm⟩
  have keepS : ∀ b, C.S b → C1.w.heap[b]? = C.w.heap[b]? := fun b hb => hx.keep b (hh.sdom b hb) (fun k hm hi => hh.sep k b (mutK k hm).2 hi hb)
  have keepG : ∀ g b, K.contains g = false → M.at g ≠ .gone → C.ι g = some b → C1.w.heap[b]? = C.w.heap[b]? := fun g b hg hgo hi => hx.keep b (lt hgo hi) (fun k hm hik => by
    obtain ⟨hk, mu⟩ := mutK k hm
    have : M.at k ≠ .gone := by intro h; rw [h] at mu; cases mu
    have := hh.inj k g b this hgo hik hi
    subst this
    rw [hk] at hg; cases hg)
  have hd : ∀ n x v, RdF C n x v → RdF (mixC K C C1) n x v := fun n x v h => by
    cases n
    · exact Rd.mono h hx.sS keepS
    · exact Rd.mono h hx.sN (fun b hb => keepS b (hh.ns b hb))
  have hs : ∀ d v, RdS C M d v → RdS (mixC K C C1) (mixM mk' K ++ M) d v := by
    intro d v h
    by_cases hk : ∃ g, refD d = some g ∧ K.contains g = true
    · obtain ⟨g, hg, hgk⟩ := hk
      have h2 : RdS C mk d v := RdS_to rfl rfl rfl (fun g' hg' => ⟨by rw [hg] at hg'; injection hg' with hg'; subst hg'; exact hin g hgk, rfl⟩) h
      have h3 : RdS C1 mk' d v := RdS_back (hslot d v h2.rd) (fun b d' e => by subst e; exact h.elim) (fun cs e => by subst e; exact h.elim) (fun f cs e => by subst e; exact h.elim)
      exact RdS_to (C := C1) (m := mk') rfl rfl rfl (fun g' hg' => by
        rw [hg] at hg'; injection hg' with hg'; subst hg'
        exact ⟨by rw [hat, hgk]; rfl, by rw [hι, hgk]; rfl⟩) h3
    · have hout2 : ∀ g, refD d = some g → K.contains g = false := fun g hg => Bool.eq_false_iff.2 fun hc => hk ⟨g, hg, hc⟩
      have hgo : ∀ g, refD d = some g → M.at g ≠ .gone := fun g hg => RdS_live h hg
      cases d with
      | any => trivial
      | nil => exact h
      | grd b d => exact h.elim
      | aggd cs => exact h.elim
      | fnd _ _ => exact h.elim
      | dat n x => exact hd n x v h
      | own g ver lo len =>
        obtain ⟨ver', frz, nw, sz, xs, e1, e2, e3, e4⟩ := h
        have hg := hout2 g rfl
        refine ⟨ver', frz, nw, sz, xs, by rw [hat, hg]; exact e1, e2, e3, fun hv => ?_⟩
        obtain ⟨q1, q2⟩ := e4 hv
        refine ⟨q1, ?_⟩
        rw [hι, hg]
        show OwnV C1.w sz (C.ι g) lo len v
        unfold OwnV at *
        cases hi : C.ι g with
        | none => simp only [hi] at q2 ⊢; exact q2
        | some b =>
          simp only [hi] at q2 ⊢
          obtain ⟨cap, arr, T', fz, p1, p2, p3⟩ := q2
          exact ⟨cap, arr, T', fz, p1, (keepG g b hg (hgo g rfl) hi).trans p2, p3⟩
      | ptr g off =>
        obtain ⟨frz, nw, cs, b, e1, e2, e3⟩ := h
        have hg := hout2 g rfl
        exact ⟨frz, nw, cs, b, by rw [hat, hg]; exact e1, by rw [hι, hg]; exact e2, e3⟩
      | rptr g ver i off =>
        obtain ⟨ver', frz, nw, sz, xs, e1, e2, e3, e4⟩ := h
        have hg := hout2 g rfl
        refine ⟨ver', frz, nw, sz, xs, by rw [hat, hg]; exact e1, e2, e3, fun hv => ?_⟩
        obtain ⟨q1, b, q2, q3⟩ := e4 hv
        exact ⟨q1, b, by rw [hι, hg]; exact q2, q3⟩
      | mp g =>
        obtain ⟨kt, et, es, b, e1, e2, e3⟩ := h
        have hg := hout2 g rfl
        exact ⟨kt, et, es, b, by rw [hat, hg]; exact e1, by rw [hι, hg]; exact e2, e3⟩
      | sl g n =>
        obtain ⟨frz, nw, cs, b, cap, e1, e2, e3⟩ := h
        have hg := hout2 g rfl
        exact ⟨frz, nw, cs, b, cap, by rw [hat, hg]; exact e1, by rw [hι, hg]; exact e2, e3⟩
  have ownB : ∀ k b, (mk'.at k).mut = true → C1.ι k = some b → C.w.heap.size ≤ b ∨ ∃ g, (M.at g).mut = true ∧ C.ι g = some b ∧ K.contains g = true := fun k b hm hi => by
    rcases hx.own k b hm hi with q | ⟨k0, q1, q2⟩
    · exact .inl q
    · exact .inr ⟨k0, (mutK k0 q1).2, q2, (mutK k0 q1).1⟩
  have cross : ∀ k g' b, K.contains k = true → mk'.at k ≠ .gone → K.contains g' = false → M.at g' ≠ .gone → C1.ι k = some b → C.ι g' = some b → False := fun k g' b _ hko hg' hgo i1 i2 => by
    rcases ownB k b (hmut k hko) i1 with q | ⟨g0, q1, q2, q3⟩
    · have := lt hgo i2; omega
    · have hne : M.at g0 ≠ .gone := by intro h; rw [h] at q1; cases q1
      have := hh.inj g0 g' b hne hgo q2 i2
      subst this
      rw [q3] at hg'; cases hg'
  refine ⟨⟨hx.os, hx.tape, hx.output, hx.size, fun b hb hn => hx.keep b hb (fun k hm hi => hn k (mutK k hm).2 hi), fun g b h2 h3 => ?_, hx.sS, hx.sN, hx.supS, fun b hb => ?_⟩, ⟨fun g => ?_, fun g g' b h2 h3 i1 i2 => ?_, fun g b h2 h3 h4 => ?_, h1.sdom, h1.ns⟩, RdD.of_S hs⟩
  · rw [hat] at h2
    rw [hι] at h3
    cases hg : K.contains g with
    | false => rw [hg] at h2 h3; exact .inr ⟨g, h2, h3⟩
    | true =>
      rw [hg] at h2 h3
      rcases ownB g b h2 h3 with q | ⟨g0, q1, q2, _⟩
      · exact .inl q
      · exact .inr ⟨g0, q1, q2⟩
  · rcases hx.supN b hb with q | q | ⟨k, q1, q2⟩
    · exact .inl q
    · exact .inr (.inl q)
    · exact .inr (.inr ⟨k, (mutK k q1).2, q2⟩)
  · rw [hat, hι]
    cases hg : K.contains g with
    | false =>
      by_cases hgo : M.at g = .gone
      · simp only [hgo]; trivial
      · exact BoxOK.upd (hh.box g) (fun b hb => keepG g b hg hgo hb) hd hs hx.sS hx.sN
    | true =>
      have hb := h1.box g
      cases hbx : mk'.at g with
      | gone => simp only [if_pos]; trivial
      | cells frz nw cs =>
        rw [hbx] at hb
        obtain ⟨b, e, arr, T, fz, q1, q2, q3, q4, q5⟩ := hb
        simp only [if_pos]
        refine ⟨b, e, arr, T, fz, q1, q2, q3, fun j d c hd hc => ?_, q5⟩
        have h4 := q4 j d c hd hc
        refine RdS_to (C := C1) (m := mk') rfl rfl rfl (fun g' hg' => ?_) h4
        have hgk : K.contains g' = true := by
          cases hq : K.contains g'
          · exact absurd (hout' g' hq) (RdS_live h4 hg')
          · rfl
        exact ⟨by rw [hat, hgk]; rfl, by rw [hι, hgk]; rfl⟩
      | row ver frz nw sz xs => rw [hbx] at hb; simp only [if_pos]; exact hb
      | mapb kt et es => rw [hbx] at hb; simp only [if_pos]; exact hb
  · rw [hat] at h2 h3
    rw [hι] at i1 i2
    cases hg : K.contains g with
    | false =>
      cases hg' : K.contains g' with
      | false =>
        rw [hg] at h2 i1
        rw [hg'] at h3 i2
        exact hh.inj g g' b h2 h3 i1 i2
      | true =>
        rw [hg] at h2 i1
        rw [hg'] at h3 i2
        exact (cross g' g b hg' h3 hg h2 i2 i1).elim
    | true =>
      cases hg' : K.contains g' with
      | false =>
        rw [hg] at h2 i1
        rw [hg'] at h3 i2
        exact (cross g g' b hg h2 hg' h3 i1 i2).elim
      | true =>
        rw [hg] at h2 i1
        rw [hg'] at h3 i2
        exact h1.inj g g' b h2 h3 i1 i2
  · rw [hι] at h3
    have h4 : C1.S b := h4
    rw [hat] at h2
    cases hg : K.contains g with
    | true => rw [hg] at h2 h3; exact h1.sep g b h2 h3 h4
    | false =>
      rw [hg] at h2 h3
      have hgo : M.at g ≠ .gone := by intro h; rw [h] at h2; cases h2
      rcases hx.supS b h4 with q | q
      · exact hh.sep g b h2 h3 q
      · rcases hx.supN b q with q | q | ⟨k0, q1, q2⟩
        · exact hh.sep g b h2 h3 (hh.ns b q)
        · have := lt hgo h3; omega
        · obtain ⟨e1, e3⟩ := mutK k0 q1
          have hne : M.at k0 ≠ .gone := by intro h; rw [h] at e3; cases e3
          have := hh.inj k0 g b hne hgo q2 h3
          subst this
          rw [e1] at hg; cases hg
end
def refsK : D → List Nat
  | .aggd cs => cs.filterMap refD
  | .fnd _ cs => cs.filterMap refD
  | d => (refD d).toList
theorem RdD_to {C C' : Cf} {m m' : Mem} {d : D} {v : Value} (hw : C'.w = C.w) (hS : C'.S = C.S) (hN : C'.N = C.N) (hng : ∀ b d', d ≠ .grd b d') (h : ∀ g, g ∈ refsK d → m'.at g = m.at g ∧ C'.ι g = C.ι g) (hr : RdD C m d v) : RdD C' m' d v := by
  cases d with
  | grd b d => exact absurd rfl (hng b d)
  | aggd cs =>
    obtain ⟨vs, e, hl, hall⟩ := hr
    refine ⟨vs, e, hl, fun j d c h1 h2 => RdS_to hw hS hN (fun g hg => h g ?_) (hall j d c h1 h2)⟩
    exact List.mem_filterMap.2 ⟨d, List.mem_of_getElem? h1, hg⟩
  | fnd f cs =>
    obtain ⟨vs, e, hl, hall⟩ := hr
    refine ⟨vs, e, hl, fun j d c h1 h2 => RdS_to hw hS hN (fun g hg => h g ?_) (hall j d c h1 h2)⟩
    exact List.mem_filterMap.2 ⟨d, List.mem_of_getElem? h1, hg⟩
  | _ => exact (RdS_to hw hS hN (fun g hg => h g (by simp only [refsK]; rw [hg]; simp)) hr : RdS C' m' _ v)
def closedM (K : List Nat) (mk : Mem) : Bool := mk.all fun p => K.contains p.1 && match p.2 with | .cells _ _ cs => cs.all fun d => (refD d).all fun g => K.contains g | _ => true
theorem at_mem : ∀ {m : Mem} {g : Nat}, m.at g ≠ .gone → (g, m.at g) ∈ m
  | [], _, h => absurd rfl h
  | (k, b) :: r, g, h => by
    have e : Mem.at ((k, b) :: r) g = if k = g then b else Mem.at r g := look_cons _ _ _ _ _
    rw [e] at h ⊢
    by_cases hk : k = g
    · subst hk; rw [if_pos rfl]; exact List.mem_cons_self ..
    · rw [if_neg hk] at h ⊢; exact List.mem_cons_of_mem _ (at_mem h)
theorem closedM_out {K : List Nat} {mk : Mem} (h : closedM K mk = true) {g : Nat} (hg : K.contains g = false) : mk.at g = .gone := Classical.byContradiction fun hn => by
  have := List.all_eq_true.1 h _ (at_mem hn)
  rw [Bool.and_eq_true] at this
  rw [this.1] at hg; cases hg
theorem closedM_in {K : List Nat} {mk : Mem} (h : closedM K mk = true) {g : Nat} {frz nw : Bool} {cs : List D} (hg : mk.at g = .cells frz nw cs) : ∀ d ∈ cs, inKD K d := fun d hd g' hr => by
  have := List.all_eq_true.1 h _ (at_mem (by rw [hg]; simp : mk.at g ≠ .gone))
  rw [Bool.and_eq_true] at this
  have h2 := this.2
  simp only [hg] at h2
  have h3 := List.all_eq_true.1 h2 d hd
  rw [hr] at h3
  simpa using h3
def noGrd : D → Bool
  | .grd _ _ => false
  | _ => true
theorem noGrd_ok {d : D} (h : noGrd d = true) : ∀ b d', d ≠ .grd b d' := fun b d' e => by subst e; cases h
section
variable {P : Program} {e : Operand → D} {m : Mem} {dst : Option Tmp} {ty : TypeId} {pos : String} {af : Array Edge} {gd : Option (Nat × Bool)} {x : Operand}
end
section
variable {P : Program} {e : Operand → D} {m : Mem} {dst : Option Tmp} {ty : TypeId} {pos : String} {af : Array Edge} {gd : Option (Nat × Bool)} {x : Operand}
end
def endM (P : Program) (res : List ResultVar) (r : V) (m' : Mem) : Exit → St → Prop
  | .normal, s => (∃ xs, RetOK P s res xs ∧ pack xs = r) ∧ ∀ g, s.mem.at g = m'.at g
  | .ret, s => (∃ xs, RetOK P s res xs ∧ pack xs = r) ∧ ∀ g, s.mem.at g = m'.at g
  | _, _ => False
theorem fnM_of {P : Program} {f : FuncId} {fn : Func} {c : Code} {ds : List D} {m m' : Mem} {r : V} (hf : P.funcs[f]? = some fn) (hb : fn.body = some c) (hn : Nat.ble ds.length fn.ntmps = true) (hname : (fn.name == "runtime.NumGoroutine") = false)
    (h : DWS P c (endM P fn.results.toList r m') ⟨envD 0 ds, m, fn.ntmps⟩) : FnM P f ds m (.dat true r) m' := by
  refine ⟨⟨fn, hf, by rw [hb]; rfl, hname⟩, ?_⟩
  intro C vs hh hl hr
  refine calls_of_wp hf hb ?_
  have h0 : Holds C ⟨envD 0 ds, m, fn.ntmps⟩ ⟨vs ++ Array.replicate (fn.ntmps - vs.size) undef, []⟩ := by
    refine ⟨hh, rfl, by simp; have := Nat.le_of_ble_eq_true hn; omega, fun t => ?_⟩
    show RdD C m (Env.at (envD 0 ds) t) _
    rw [envD_at, if_pos (Nat.zero_le _), Nat.sub_zero]
    cases hd : ds[t]? with
    | none => exact trivial
    | some d =>
      have hlt : t < vs.size := by rw [hl]; exact (List.getElem?_eq_some_iff.1 hd).1
      have hv : vs[t]? = some vs[t] := Array.getElem?_eq_getElem hlt
      have : (vs ++ Array.replicate (fn.ntmps - vs.size) undef).getD t undef = vs[t] := by
        rw [Array.getD_eq_getD_getElem?, Array.getElem?_append_left hlt, hv]; rfl
      rw [this]
      exact hr t d _ hd hv
  refine Code.wp_mono ?_ (h _ _ h0)
  rintro e a' w' ⟨C', s', rfl, hq, h', hx⟩
  have fin : ((∃ xs, RetOK P s' fn.results.toList xs ∧ pack xs = r) ∧ ∀ g, s'.mem.at g = m'.at g) → a'.defers = [] ∧ ∃ v, (results fn a'.tmps).run P C'.w = .ok v C'.w ∧ ∃ v' C1, Ending.returned v = .returned v' ∧ C1.w = C'.w ∧ Step C m C1 m' ∧ RdD C1 m' (.dat true r) v' := by
    rintro ⟨⟨xs, hro, rfl⟩, hm⟩
    obtain ⟨us, l1, l2, r1, r2⟩ := ret_ok h' hro
    refine ⟨h'.defers, _, run_results us l1 r1, _, C', rfl, rfl, Step_congr (fun _ => rfl) hm hx, ?_⟩
    exact pack_rdF (n := true) (by omega) r2
  cases e with
  | normal => exact fin hq
  | ret => exact fin hq
  | _ => exact hq.elim
end Go.Proofs.Ytfmaehhloffabaa
