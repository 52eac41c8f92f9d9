/- Who is joined by links; the links that forward make a spanning tree: mathematics. -/
import Derived.Test.YtkppkgahdoglpaaydPlQ
namespace Go.Proofs.Ytkppkgahdoglpaa
open Go.RowKit
theorem sidesP_nodup : ∀ {ls : List Link} {p : Link → Bool}, (sidesP ls).Nodup → (sidesP (ls.filter p)).Nodup ∧ ∀ x ∈ sidesP (ls.filter p), x ∈ sidesP ls
  | [], p, _ => by simp [sidesP]
  | l :: r, p, h => by
    have hs : sidesP (l :: r) = (l.a, l.pa) :: (l.b, l.pb) :: sidesP r := rfl
    rw [hs] at h ⊢
    simp only [List.nodup_cons, List.mem_cons, not_or] at h
    obtain ⟨ih1, ih2⟩ := sidesP_nodup (p := p) h.2.2
    rw [List.filter_cons]
    split
    · have hs2 : sidesP (l :: r.filter p) = (l.a, l.pa) :: (l.b, l.pb) :: sidesP (r.filter p) := rfl
      rw [hs2]
      refine ⟨?_, fun x hx => ?_⟩
      · simp only [List.nodup_cons, List.mem_cons, not_or]
        exact ⟨⟨h.1.1, fun hm => h.1.2 (ih2 _ hm)⟩, fun hm => h.2.1 (ih2 _ hm), ih1⟩
      · rcases List.mem_cons.1 hx with rfl | hx
        · exact List.mem_cons_self ..
        · rcases List.mem_cons.1 hx with rfl | hx
          · exact List.mem_cons_of_mem _ (List.mem_cons_self ..)
          · exact List.mem_cons_of_mem _ (List.mem_cons_of_mem _ (ih2 _ hx))
    · exact ⟨ih1, fun x hx => List.mem_cons_of_mem _ (List.mem_cons_of_mem _ (ih2 _ hx))⟩
theorem role_of {p : Place} {ps : List Int} {f : Int → Int} (h1 : p.ports = ps) (h2 : p.roles = ps.map f) (q : Int) : p.role q = if q ∈ ps then f q else 0 := by
  obtain ⟨v, r, a, b⟩ := p
  simp only at h1 h2
  subst h1 h2
  exact role_map q
attribute [local irreducible] SStep DW DWin DOps thenQ inBlk loopQ retQ retQG FnF FnG FnI Wk IntKind.wrap IntKind.andI IntKind.orI IntKind.xorI IntKind.andNotI IntKind.shlI IntKind.shrI Net.wrong Bridge.id Bridge.prio identR idsR liveB planA planF liveL sF pF portsOf roleF idN Place.role
end Go.Proofs.Ytkppkgahdoglpaa
namespace Go.Proofs.Ytkppkgahdoglpaa
def labN (s : List Int) (a b : Int) : List Int := s.map fun v => if v = a ∨ v = b then min a b else v
def joinStep (s : List Int × Bool) (p : Int × Int) : List Int × Bool :=
  (labN s.1 ((s.1[p.1.toNat]?).getD 0) ((s.1[p.2.toNat]?).getD 0), s.2 || decide ((s.1[p.1.toNat]?).getD 0 = (s.1[p.2.toNat]?).getD 0))
def join0 (nb : Nat) : List Int := (List.range nb).map fun (i : Nat) => (i : Int)
def joinF (nb : Nat) (ps : List (Int × Int)) : List Int × Bool := ps.foldl joinStep (join0 nb, false)
theorem labN_len (s : List Int) (a b : Int) : (labN s a b).length = s.length := by simp [labN]
theorem joinF_snoc (nb : Nat) (ps : List (Int × Int)) (p : Int × Int) : joinF nb (ps ++ [p]) = joinStep (joinF nb ps) p := by simp [joinF]
structure JInv (nb : Nat) (l : List (Int × Int)) (g : List Int) : Prop where
  len : g.length = nb
  lab : ∀ i, i < nb → ∃ j : Nat, g[i]? = some (j : Int) ∧ j ≤ i ∧ g[j]? = some (j : Int)
  edge : ∀ p ∈ l, g[p.1.toNat]? = g[p.2.toNat]?
  resp : ∀ h : Nat → Prop, (∀ p ∈ l, (h p.1.toNat ↔ h p.2.toNat)) → ∀ i j : Nat, g[i]? = some (j : Int) → (h i ↔ h j)
theorem jinv_zero (nb : Nat) : JInv nb [] (join0 nb) where
  len := by simp [join0]
  lab i hi := ⟨i, by simp [join0, hi], Nat.le_refl _, by simp [join0, hi]⟩
  edge p h := by cases h
  resp h _ i j e := by
    unfold join0 at e
    rw [List.getElem?_map, Option.map_eq_some_iff] at e
    obtain ⟨k, hk, e⟩ := e
    rw [List.getElem?_range (by simpa using (List.getElem?_eq_some_iff.1 hk).1)] at hk
    injection hk with hk
    have : i = j := by omega
    rw [this]
theorem jinv_step {nb : Nat} {l : List (Int × Int)} {g : List Int} (H : JInv nb l g) {p : Int × Int} (h1 : p.1.toNat < nb) (h2 : p.2.toNat < nb) :
    JInv nb (l ++ [p]) (labN g ((g[p.1.toNat]?).getD 0) ((g[p.2.toNat]?).getD 0)) := by
  obtain ⟨a, ea, ha, fa⟩ := H.lab _ h1
  obtain ⟨b, eb, hb, fb⟩ := H.lab _ h2
  rw [ea, eb, Option.getD_some, Option.getD_some]
  have hg : ∀ i, (labN g a b)[i]? = (g[i]?).map fun (v : Int) => if v = (a : Int) ∨ v = (b : Int) then min (a : Int) b else v := fun i => by unfold labN; rw [List.getElem?_map]
  have hm : ∃ m : Nat, min (a : Int) b = (m : Int) ∧ m ≤ a ∧ m ≤ b ∧ (m = a ∨ m = b) := by
    by_cases hab : a ≤ b
    · exact ⟨a, by omega, Nat.le_refl _, hab, .inl rfl⟩
    · exact ⟨b, by omega, by omega, Nat.le_refl _, .inr rfl⟩
  obtain ⟨m, em, m1, m2, m3⟩ := hm
  rw [em] at hg
  have hmm : (labN g a b)[m]? = some (m : Int) := by
    rw [hg]
    rcases m3 with rfl | rfl
    · rw [fa]; simp
    · rw [fb]; simp
  refine ⟨by rw [labN_len]; exact H.len, fun i hi => ?_, fun q hq => ?_, fun h hr i j e => ?_⟩
  · obtain ⟨j, e1, e2, e3⟩ := H.lab i hi
    by_cases hj : (j : Int) = a ∨ (j : Int) = b
    · refine ⟨m, by rw [hg, e1]; simp [hj], by omega, hmm⟩
    · refine ⟨j, by rw [hg, e1]; simp [hj], e2, by rw [hg, e3]; simp [hj]⟩
  · rcases List.mem_append.1 hq with hq | hq
    · rw [hg, hg, H.edge q hq]
    · simp only [List.mem_singleton] at hq
      subst hq
      rw [hg, hg, ea, eb]; simp
  · have hr' : ∀ q ∈ l, (h q.1.toNat ↔ h q.2.toNat) := fun q hq => hr q (List.mem_append.2 (.inl hq))
    have hp := hr p (List.mem_append.2 (.inr (List.mem_singleton.2 rfl)))
    have hpa := H.resp h hr' _ _ ea
    have hpb := H.resp h hr' _ _ eb
    rw [hg] at e
    cases e0 : g[i]? with
    | none => rw [e0] at e; cases e
    | some v =>
      rw [e0, Option.map_some, Option.some.injEq] at e
      have hi : i < nb := by have := (List.getElem?_eq_some_iff.1 e0).1; rw [H.len] at this; exact this
      obtain ⟨k, e1, _, _⟩ := H.lab i hi
      rw [e0] at e1
      injection e1 with e1
      subst e1
      have hik := H.resp h hr' _ _ e0
      by_cases hk : (k : Int) = a ∨ (k : Int) = b
      · rw [if_pos hk] at e
        have ej : j = m := by omega
        subst ej
        rcases hk with hk | hk <;> rcases m3 with m3 | m3
        · have : k = a := by omega
          subst this m3; exact hik
        · have : k = a := by omega
          subst this m3; exact hik.trans (hpa.symm.trans (hp.trans hpb))
        · have : k = b := by omega
          subst this m3; exact hik.trans (hpb.symm.trans (hp.symm.trans hpa))
        · have : k = b := by omega
          subst this m3; exact hik
      · rw [if_neg hk] at e
        have : j = k := by omega
        subst this; exact hik
theorem jinv_fold {nb : Nat} : ∀ (ps l : List (Int × Int)) (g : List Int) (r : Bool), JInv nb l g → (∀ p ∈ ps, p.1.toNat < nb ∧ p.2.toNat < nb) → JInv nb (l ++ ps) (ps.foldl joinStep (g, r)).1
  | [], l, g, r, h, _ => by simpa using h
  | p :: ps, l, g, r, h, hb => by
    have hp := hb p (List.mem_cons_self ..)
    have := jinv_fold ps (l ++ [p]) _ (r || decide ((g[p.1.toNat]?).getD 0 = (g[p.2.toNat]?).getD 0)) (jinv_step h hp.1 hp.2) (fun q hq => hb q (List.mem_cons_of_mem _ hq))
    rw [List.append_assoc] at this
    exact this
theorem joinF_inv {nb : Nat} {ps : List (Int × Int)} (hb : ∀ p ∈ ps, p.1.toNat < nb ∧ p.2.toNat < nb) : JInv nb ps (joinF nb ps).1 := by
  have := jinv_fold ps [] (join0 nb) false (jinv_zero nb) hb
  simpa [joinF] using this
theorem no_ring {nb : Nat} : ∀ (ps l : List (Int × Int)) (g : List Int) (r : Bool), JInv nb l g → (∀ p ∈ ps, p.1.toNat < nb ∧ p.2.toNat < nb) →
    (∀ p1 p p2, ps = p1 ++ p :: p2 → ∃ h : Nat → Prop, (∀ q ∈ l ++ p1, (h q.1.toNat ↔ h q.2.toNat)) ∧ ¬ (h p.1.toNat ↔ h p.2.toNat)) → (ps.foldl joinStep (g, r)).2 = r
  | [], _, _, _, _, _, _ => rfl
  | p :: ps, l, g, r, h, hb, hs => by
    have hp := hb p (List.mem_cons_self ..)
    obtain ⟨a, ea, _, _⟩ := h.lab _ hp.1
    obtain ⟨b, eb, _, _⟩ := h.lab _ hp.2
    have hne : ¬ (g[p.1.toNat]?).getD 0 = (g[p.2.toNat]?).getD 0 := by
      rw [ea, eb, Option.getD_some, Option.getD_some]
      intro e
      have e : a = b := by omega
      subst e
      obtain ⟨f, f1, f2⟩ := hs [] p ps rfl
      have r1 := h.resp f (by simpa using f1) _ _ ea
      have r2 := h.resp f (by simpa using f1) _ _ eb
      exact f2 (r1.trans r2.symm)
    have := no_ring ps (l ++ [p]) _ (r || decide ((g[p.1.toNat]?).getD 0 = (g[p.2.toNat]?).getD 0)) (jinv_step h hp.1 hp.2) (fun q hq => hb q (List.mem_cons_of_mem _ hq)) (fun p1 q p2 e => by
      obtain ⟨f, f1, f2⟩ := hs (p :: p1) q p2 (by rw [e]; rfl)
      exact ⟨f, by simpa using f1, f2⟩)
    rw [decide_eq_false hne, Bool.or_false] at this
    rw [List.foldl_cons]
    unfold joinStep at this ⊢
    rw [decide_eq_false hne, Bool.or_false]
    exact this
theorem joined_same {nb : Nat} {l l' : List (Int × Int)} {g g' : List Int} (H : JInv nb l g) (H' : JInv nb l' g') (h1 : ∀ h : Nat → Prop, (∀ p ∈ l', (h p.1.toNat ↔ h p.2.toNat)) → ∀ p ∈ l, (h p.1.toNat ↔ h p.2.toNat))
    (h2 : ∀ h : Nat → Prop, (∀ p ∈ l, (h p.1.toNat ↔ h p.2.toNat)) → ∀ p ∈ l', (h p.1.toNat ↔ h p.2.toNat)) : g = g' := by
  apply List.ext_getElem?
  intro i
  by_cases hi : i < nb
  · obtain ⟨a, ea, la, fa⟩ := H.lab i hi
    obtain ⟨b, eb, lb, fb⟩ := H'.lab i hi
    have ra := H.resp (fun x => g'[x]? = some (b : Int)) (h1 (fun x => g'[x]? = some (b : Int)) (fun p hp => by simp only [H'.edge p hp])) _ _ ea
    have rb := H'.resp (fun x => g[x]? = some (a : Int)) (h2 (fun x => g[x]? = some (a : Int)) (fun p hp => by simp only [H.edge p hp])) _ _ eb
    have ga : g'[a]? = some (b : Int) := ra.1 eb
    have gb : g[b]? = some (a : Int) := rb.1 ea
    obtain ⟨a', ea', la', _⟩ := H'.lab a (by omega)
    obtain ⟨b', eb', lb', _⟩ := H.lab b (by omega)
    rw [ga] at ea'
    rw [gb] at eb'
    injection ea' with ea'
    injection eb' with eb'
    rw [ea, eb]
    congr 1; omega
  · rw [List.getElem?_eq_none (by rw [H.len]; omega), List.getElem?_eq_none (by rw [H'.len]; omega)]
def prL (x : Link) : Int × Int := (x.a, x.b)
def fwdR (r : Int) : Bool := decide (r = 1) || decide (r = 2)
def fwdL (n : Net) (tree : Int) (x : Link) : Bool := fwdR (roleF n tree x.a.toNat x.pa) && fwdR (roleF n tree x.b.toNat x.pb)
def isPar (n : Net) (tree : Int) (i j : Nat) : Prop := ∃ e, adjN n i e ∧ pF n tree i = e.port ∧ e.other.toNat = j
inductive Desc (n : Net) (tree : Int) (c : Nat) : Nat → Prop
  | refl : Desc n tree c c
  | step {i j : Nat} (h : isPar n tree i j) (d : Desc n tree c j) : Desc n tree c i
section
variable {n : Net} (h : n.good) (tree : Int)
include h
theorem par_one {i j j' : Nat} (h1 : isPar n tree i j) (h2 : isPar n tree i j') : j = j' := by
  obtain ⟨e, a1, p1, o1⟩ := h1
  obtain ⟨e', a2, p2, o2⟩ := h2
  have : e = e' := h.end_one a1 a2 (by rw [← p1, ← p2])
  subst this; omega
theorem par_cost {i j : Nat} (hi : i < n.bridges.length) (h1 : isPar n tree i j) : (sF n tree j).cost < (sF n tree i).cost ∧ j < n.bridges.length := by
  obtain ⟨e, a1, p1, o1⟩ := h1
  have hk := adj_ok h a1
  subst o1
  rcases fin_at h tree hi with ⟨_, _, h3, _⟩ | ⟨e', he', _, h2, h3, _⟩
  · omega
  · have : e' = e := h.end_one he' a1 (by rw [← h3, p1])
    subst this
    exact ⟨by omega, hk.2.2.1⟩
theorem desc_cost {c i : Nat} (hi : i < n.bridges.length) (d : Desc n tree c i) : (sF n tree c).cost ≤ (sF n tree i).cost := by
  induction d with
  | refl => exact Int.le_refl _
  | step hp _ ih =>
    obtain ⟨h1, h2⟩ := par_cost h tree hi hp
    have := ih h2
    omega
theorem fwd_two {x : Link} (hx : x ∈ liveL n) : fwdL n tree x = true ↔ isPar n tree x.a.toNat x.b.toNat ∧ pF n tree x.a.toNat = x.pa ∨ isPar n tree x.b.toNat x.a.toNat ∧ pF n tree x.b.toNat = x.pb := by
  have hk := h.lk x (live_sub hx)
  have a0 := hk.a0
  have a1 := hk.a1
  have b0 := hk.b0
  have b1 := hk.b1
  have hai : x.a.toNat < n.bridges.length := by omega
  obtain ⟨ad1, ad2⟩ := adj_of_live h hx
  have r2 := role_two h tree hai ad1
  simp only at r2
  unfold fwdL fwdR
  rcases r2 with ⟨g1, g2, g3, g4, _⟩ | ⟨g1, g2, g3, g4, _⟩ | ⟨g1, g2, g3, g4⟩ | ⟨g1, g2, g3, g4⟩
  · rw [g1, g2]
    exact ⟨fun _ => .inl ⟨⟨_, ad1, g3, rfl⟩, g3⟩, fun _ => rfl⟩
  · rw [g1, g2]
    exact ⟨fun _ => .inr ⟨⟨_, ad2, g3, rfl⟩, g3⟩, fun _ => rfl⟩
  · rw [g1, g2]
    refine ⟨fun hh => (by simp at hh), fun hh => ?_⟩
    rcases hh with ⟨_, hh⟩ | ⟨_, hh⟩
    · exact absurd hh g3
    · exact absurd hh g4
  · rw [g1, g2]
    refine ⟨fun hh => (by simp at hh), fun hh => ?_⟩
    rcases hh with ⟨_, hh⟩ | ⟨_, hh⟩
    · exact absurd hh g3
    · exact absurd hh g4
theorem to_root (f : Nat → Prop) (hf : ∀ x ∈ liveL n, fwdL n tree x = true → (f x.a.toNat ↔ f x.b.toNat)) : ∀ (c : Nat) {i : Nat}, i < n.bridges.length → (sF n tree i).cost ≤ c → ∃ r, r < n.bridges.length ∧ idN n tree r = (sF n tree i).root ∧ (f i ↔ f r)
  | c, i, hi, hc => by
    rcases fin_at h tree hi with ⟨h1, _⟩ | ⟨e, he, h1, h2, h3, h4, _⟩
    · exact ⟨i, hi, h1.symm, Iff.rfl⟩
    · have hk := adj_ok h he
      have hcj := fin_cost h tree hk.2.2.1
      have hfe : f i ↔ f e.other.toNat := by
        unfold adjN rawE at he
        obtain ⟨l, hl, hle⟩ := List.mem_flatMap.1 he
        have he' : adjN n i e := he
        have hlk := h.lk l (live_sub hl)
        unfold endAt at hle
        rcases List.mem_append.1 hle with hle | hle
        · split at hle
          · rename_i ha
            simp only [List.mem_singleton] at hle
            subst hle
            have ei : l.a.toNat = i := by omega
            have hw := (fwd_two h tree hl).2 (.inl ⟨by rw [ei]; exact ⟨_, he', h3, rfl⟩, by rw [ei]; exact h3⟩)
            have := hf l hl hw
            rw [ei] at this
            exact this
          · cases hle
        · split at hle
          · rename_i ha
            simp only [List.mem_singleton] at hle
            subst hle
            have ei : l.b.toNat = i := by omega
            have hw := (fwd_two h tree hl).2 (.inr ⟨by rw [ei]; exact ⟨_, he', h3, rfl⟩, by rw [ei]; exact h3⟩)
            have := hf l hl hw
            rw [ei] at this
            exact this.symm
          · cases hle
      match c, hc with
      | 0, hc => exfalso; have := hcj.1; simp only [Int.natCast_zero] at hc; omega
      | c + 1, hc =>
        obtain ⟨r, r1, r2, r3⟩ := to_root f hf c hk.2.2.1 (by omega)
        exact ⟨r, r1, by rw [r2, h1], hfe.trans r3⟩
end
theorem tree_joins {n : Net} (h : n.good) (tree : Int) : (joinF n.bridges.length ((liveL n).map prL)).1 = (joinF n.bridges.length (((liveL n).filter (fwdL n tree)).map prL)).1 := by
  have hb : ∀ x ∈ liveL n, x.a.toNat < n.bridges.length ∧ x.b.toNat < n.bridges.length := fun x hx => by
    have hk := h.lk x (live_sub hx)
    have := hk.a0; have := hk.a1; have := hk.b0; have := hk.b1
    omega
  refine joined_same (joinF_inv fun p hp => ?_) (joinF_inv fun p hp => ?_) (fun f hf p hp => ?_) (fun f hf p hp => ?_)
  · obtain ⟨x, hx, rfl⟩ := List.mem_map.1 hp; exact hb x hx
  · obtain ⟨x, hx, rfl⟩ := List.mem_map.1 hp; exact hb x (List.mem_filter.1 hx).1
  · obtain ⟨x, hx, rfl⟩ := List.mem_map.1 hp
    have hf' : ∀ y ∈ liveL n, fwdL n tree y = true → (f y.a.toNat ↔ f y.b.toNat) := fun y hy hw => hf (prL y) (List.mem_map.2 ⟨y, List.mem_filter.2 ⟨hy, hw⟩, rfl⟩)
    obtain ⟨ba, bb⟩ := hb x hx
    obtain ⟨r, r1, r2, r3⟩ := to_root h tree f hf' 2600000 ba (fin_cost h tree ba).2
    obtain ⟨s, s1, s2, s3⟩ := to_root h tree f hf' 2600000 bb (fin_cost h tree bb).2
    have hr := fin_root h tree ba (adj_of_live h hx).1
    simp only at hr
    have : r = s := idN_inj h tree r1 s1 (by rw [r2, s2, hr])
    subst this
    exact r3.trans s3.symm
  · obtain ⟨x, hx, rfl⟩ := List.mem_map.1 hp
    exact hf (prL x) (List.mem_map.2 ⟨x, (List.mem_filter.1 hx).1, rfl⟩)
theorem tree_noring {n : Net} (h : n.good) (tree : Int) : (joinF n.bridges.length (((liveL n).filter (fwdL n tree)).map prL)).2 = false := by
  have hb : ∀ x ∈ liveL n, x.a.toNat < n.bridges.length ∧ x.b.toNat < n.bridges.length := fun x hx => by
    have hk := h.lk x (live_sub hx)
    have := hk.a0; have := hk.a1; have := hk.b0; have := hk.b1
    omega
  refine no_ring _ [] (join0 _) false (jinv_zero _) (fun p hp => ?_) (fun p1 p p2 e => ?_)
  · obtain ⟨x, hx, rfl⟩ := List.mem_map.1 hp; exact hb x (List.mem_filter.1 hx).1
  · obtain ⟨l1, l2', e0, e1, e2⟩ := List.map_eq_append_iff.1 e
    obtain ⟨x, l2, e3, e4, e5⟩ := List.map_eq_cons_iff.1 e2
    subst e1 e4 e3
    have hon : (sidesP (l1 ++ x :: l2)).Nodup := by
      rw [← e0]
      have := (sidesP_nodup (p := liveB n.bridges) h.po).1
      exact (sidesP_nodup (p := fwdL n tree) this).1
    have hx : x ∈ (liveL n).filter (fwdL n tree) := by rw [e0]; simp
    obtain ⟨hxl, hxf⟩ := List.mem_filter.1 hx
    obtain ⟨ba, bb⟩ := hb x hxl
    have hk := h.lk x (live_sub hxl)
    have x0 := hk.a0
    have x1 := hk.b0
    -- the child
    have key : ∀ c : Nat, (∀ y ∈ l1, ∀ c' j', isPar n tree c' j' → ((y.a = c' ∧ y.pa = pF n tree c') ∨ (y.b = c' ∧ y.pb = pF n tree c')) → c' ≠ c) → ∀ q ∈ [] ++ l1.map prL, (Desc n tree c q.1.toNat ↔ Desc n tree c q.2.toNat) := by
      intro c hc q hq
      rw [List.nil_append] at hq
      obtain ⟨y, hy, rfl⟩ := List.mem_map.1 hq
      have hyl : y ∈ (liveL n).filter (fwdL n tree) := by rw [e0]; simp [hy]
      obtain ⟨hyl, hyf⟩ := List.mem_filter.1 hyl
      have hky := h.lk y (live_sub hyl)
      have y0 := hky.a0
      have y1 := hky.b0
      have par : ∀ i j, isPar n tree i j → i ≠ c → (Desc n tree c i ↔ Desc n tree c j) := fun i j hp hne => by
        constructor
        · intro d
          cases d with
          | refl => exact absurd rfl hne
          | step hp' d' => rw [par_one h tree hp hp']; exact d'
        · intro d; exact .step hp d
      rcases (fwd_two h tree hyl).1 hyf with ⟨g1, g2⟩ | ⟨g1, g2⟩
      · exact par _ _ g1 (hc y hy _ _ g1 (.inl ⟨by show y.a = ((y.a.toNat : Nat) : Int); omega, g2.symm⟩))
      · exact (par _ _ g1 (hc y hy _ _ g1 (.inr ⟨by show y.b = ((y.b.toNat : Nat) : Int); omega, g2.symm⟩))).symm
    have hsp : sidesP (l1 ++ x :: l2) = sidesP l1 ++ (x.a, x.pa) :: (x.b, x.pb) :: sidesP l2 := by unfold sidesP; rw [List.flatMap_append, List.flatMap_cons]; rfl
    rw [hsp, List.nodup_append] at hon
    have hdis : ∀ y ∈ l1, ∀ k : Int × Int, k = (x.a, x.pa) ∨ k = (x.b, x.pb) → ¬ ((y.a, y.pa) = k ∨ (y.b, y.pb) = k) := fun y hy k hk2 hh => by
      have m1 : (y.a, y.pa) ∈ sidesP l1 := List.mem_flatMap.2 ⟨y, hy, List.mem_cons_self ..⟩
      have m2 : (y.b, y.pb) ∈ sidesP l1 := List.mem_flatMap.2 ⟨y, hy, List.mem_cons_of_mem _ (List.mem_cons_self ..)⟩
      have m3 : k ∈ (x.a, x.pa) :: (x.b, x.pb) :: sidesP l2 := by rcases hk2 with rfl | rfl <;> simp
      rcases hh with hh | hh
      · rw [hh] at m1; exact hon.2.2 _ m1 _ m3 rfl
      · rw [hh] at m2; exact hon.2.2 _ m2 _ m3 rfl
    rcases (fwd_two h tree hxl).1 hxf with ⟨g1, g2⟩ | ⟨g1, g2⟩
    · refine ⟨Desc n tree x.a.toNat, key _ (fun y hy c' j' hp hc hcc => ?_), fun hh => ?_⟩
      · subst hcc
        refine hdis y hy (x.a, x.pa) (.inl rfl) ?_
        rcases hc with ⟨c1, c2⟩ | ⟨c1, c2⟩
        · exact .inl (by rw [c1, c2, g2]; congr 1; omega)
        · exact .inr (by rw [c1, c2, g2]; congr 1; omega)
      · have d := desc_cost h tree bb (hh.1 .refl)
        have := (par_cost h tree ba g1).1
        exact absurd d (by show ¬ (sF n tree x.a.toNat).cost ≤ (sF n tree x.b.toNat).cost; omega)
    · refine ⟨Desc n tree x.b.toNat, key _ (fun y hy c' j' hp hc hcc => ?_), fun hh => ?_⟩
      · subst hcc
        refine hdis y hy (x.b, x.pb) (.inr rfl) ?_
        rcases hc with ⟨c1, c2⟩ | ⟨c1, c2⟩
        · exact .inl (by rw [c1, c2, g2]; congr 1; omega)
        · exact .inr (by rw [c1, c2, g2]; congr 1; omega)
      · have d := desc_cost h tree ba (hh.2 .refl)
        have := (par_cost h tree bb g1).1
        exact absurd d (by show ¬ (sF n tree x.b.toNat).cost ≤ (sF n tree x.a.toNat).cost; omega)
end Go.Proofs.Ytkppkgahdoglpaa
