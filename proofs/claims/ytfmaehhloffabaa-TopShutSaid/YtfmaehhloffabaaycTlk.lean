/- Talk: minds, ticks: what they are, in plain Lean. -/
import Derived.Test.YtfmaehhloffabaaycChM
namespace Go.Proofs.Ytfmaehhloffabaa
def leL (r c r' c' : Int) : Prop := r < r' ∨ (r = r' ∧ c ≤ c')
theorem leL_trans {a b c d e f : Int} (h : leL a b c d) (k : leL c d e f) : leL a b e f := by unfold leL at *; omega
theorem leL_anti {a b c d : Int} (h : leL a b c d) (k : leL c d a b) : a = c ∧ b = d := by unfold leL at *; omega
theorem leL_refl (a b : Int) : leL a b a b := by unfold leL; omega
theorem leL_add {a b c d : Int} (e : Int) (h : leL a b c d) : leL a (b + e) c (d + e) := by unfold leL at *; omega
def idN (n : Net) (tree : Int) (i : Nat) : Int := ((n.bridges[i]?).map (·.id tree)).getD 0
theorem idN_of {n : Net} {tree : Int} {i : Nat} {b : Bridge} (h : n.bridges[i]? = some b) : idN n tree i = b.id tree := by unfold idN; rw [h]; rfl
def sayN (n : Net) (tree : Int) (t i : Nat) : Vec := ((saysN n tree t)[i]?).getD .zero
theorem sayN_get {n : Net} {tree : Int} {t i : Nat} (h : i < n.bridges.length) : (saysN n tree t)[i]? = some (sayN n tree t i) := by
  unfold sayN; rw [List.getElem?_eq_getElem (by rw [saysN_len]; exact h)]; rfl
theorem idN_inj {n : Net} (h : n.good) (tree : Int) {i j : Nat} (hi : i < n.bridges.length) (hj : j < n.bridges.length) (he : idN n tree i = idN n tree j) : i = j := by
  rw [idN_of (List.getElem?_eq_getElem hi), idN_of (List.getElem?_eq_getElem hj)] at he
  have o1 := h.br _ (List.getElem_mem hi)
  have o2 := h.br _ (List.getElem_mem hj)
  have had : n.bridges[i].addr = n.bridges[j].addr := by
    have := o1.a0; have := o1.a1; have := o2.a0; have := o2.a1
    unfold Bridge.id at he
    omega
  rcases Nat.lt_trichotomy i j with hl | hl | hl
  · exact absurd had (List.pairwise_iff_getElem.1 h.ad i j hi hj hl)
  · exact hl
  · exact absurd had.symm (List.pairwise_iff_getElem.1 h.ad j i hj hi hl)
def adjN (n : Net) (i : Nat) (e : End) : Prop := e ∈ rawE (liveL n) i
theorem adj_ok {n : Net} (h : n.good) {i : Nat} {e : End} (he : adjN n i e) : (1 ≤ e.port ∧ e.port ≤ 30) ∧ (1 ≤ e.cost ∧ e.cost ≤ 200000) ∧ e.other.toNat < n.bridges.length ∧ 0 ≤ e.other ∧ e.other ≠ i := by
  obtain ⟨h1, h2, h3, _, h4⟩ := rawE_ok h he
  exact ⟨h1, h2, by omega, h3.1, h4⟩
theorem sayN_ids {n : Net} {tree : Int} {t i : Nat} (h : i < n.bridges.length) : (sayN n tree t i).bridge = idN n tree i ∧ (sayN n tree t i).port = 0 := by
  have hb := List.getElem?_eq_getElem h
  unfold sayN
  cases t with
  | zero => simp [saysN, says0, h, idN_of hb]
  | succ t => simp [saysN, round1, h, saysOf, nextS, idN_of hb, Ch.says]
theorem sayN_zero {n : Net} {tree : Int} {i : Nat} (h : i < n.bridges.length) : (sayN n tree 0 i).root = idN n tree i ∧ (sayN n tree 0 i).cost = 0 := by
  have hb := List.getElem?_eq_getElem h
  unfold sayN
  simp [saysN, says0, h, idN_of hb]
def chN (n : Net) (tree : Int) (t i : Nat) : Ch := chooseS (idN n tree i) (offersOf (endsOf n i) (saysN n tree t))
theorem sayN_succ {n : Net} {tree : Int} {t i : Nat} (h : i < n.bridges.length) : (sayN n tree (t + 1) i).root = (chN n tree t i).best.root ∧ (sayN n tree (t + 1) i).cost = (chN n tree t i).best.cost := by
  have hb := List.getElem?_eq_getElem h
  unfold sayN chN
  simp [saysN, round1, h, saysOf, nextS, idN_of hb, Ch.says]
theorem offer_mem {n : Net} {says : List Vec} {i : Nat} {o : Offer} : o ∈ offersOf (endsOf n i) says ↔ ∃ e, adjN n i e ∧ o = offerOf says e := by
  unfold offersOf adjN
  rw [List.mem_map]
  constructor
  · rintro ⟨e, he, rfl⟩; exact ⟨e, mem_endsOf.1 he, rfl⟩
  · rintro ⟨e, he, rfl⟩; exact ⟨e, mem_endsOf.2 he, rfl⟩
theorem offer_eq {n : Net} {tree : Int} (h : n.good) {t i : Nat} {e : End} (he : adjN n i e) : offerOf (saysN n tree t) e = ⟨e.port, e.cost, 0, ⟨(sayN n tree t e.other.toNat).root, (sayN n tree t e.other.toNat).cost, idN n tree e.other.toNat, e.oport⟩⟩ := by
  have hj := (adj_ok h he).2.2.1
  unfold offerOf
  rw [sayN_get hj, Option.getD_some, ← (sayN_ids (tree := tree) (t := t) hj).1]
theorem cost_le {n : Net} (h : n.good) (tree : Int) : ∀ (t i : Nat), i < n.bridges.length → 0 ≤ (sayN n tree t i).cost ∧ (sayN n tree t i).cost ≤ 200000 * t
  | 0, i, hi => by rw [(sayN_zero hi).2]; omega
  | t + 1, i, hi => by
    rw [(sayN_succ hi).2]
    have hc := choose_inv (idN n tree i) (offersOf (endsOf n i) (saysN n tree t))
    by_cases hp : (chN n tree t i).port < 0
    · rw [show chN n tree t i = .start _ from hc.neg hp]; simp only [Ch.start]; omega
    · obtain ⟨o, ho, hel, _⟩ := hc.some (by show 0 ≤ (chN n tree t i).port; omega)
      obtain ⟨e, he, rfl⟩ := offer_mem.1 ho
      rw [offer_eq h he] at hel
      have hk := adj_ok h he
      have ih := cost_le h tree t _ hk.2.2.1
      have hov := hel.1
      unfold Vec.over at hov
      split at hov
      · cases hov
      · injection hov with hov
        show 0 ≤ (chN n tree t i).best.cost ∧ (chN n tree t i).best.cost ≤ _
        have : (chN n tree t i).best.cost = (sayN n tree t e.other.toNat).cost + e.cost := by
          show (chooseS _ _).best.cost = _
          rw [← hov]
        rw [this]; omega
theorem elig_iff {n : Net} (h : n.good) {tree : Int} {t i : Nat} (ht : t ≤ 1000) {e : End} (he : adjN n i e) {w : Vec} : (offerOf (saysN n tree t) e).elig (idN n tree i) w ↔
    w = ⟨(sayN n tree t e.other.toNat).root, (sayN n tree t e.other.toNat).cost + e.cost, idN n tree e.other.toNat, e.oport⟩ ∧ (sayN n tree t e.other.toNat).root < idN n tree i := by
  have hk := adj_ok h he
  have hc := cost_le h tree t _ hk.2.2.1
  rw [offer_eq h he]
  unfold Offer.elig Vec.over maxCost
  simp only
  rw [if_neg (by omega)]
  simp only [Option.some.injEq]
  constructor
  · rintro ⟨rfl, _, _, _, h5⟩; exact ⟨rfl, h5⟩
  · rintro ⟨rfl, h5⟩; exact ⟨rfl, by omega, by omega, by omega, h5⟩
theorem round_at {n : Net} (h : n.good) (tree : Int) {t i : Nat} (ht : t ≤ 1000) (hi : i < n.bridges.length) :
    ((sayN n tree (t + 1) i).root = idN n tree i ∧ (sayN n tree (t + 1) i).cost = 0 ∧ (chN n tree t i).port = -1 ∧ ∀ e, adjN n i e → idN n tree i ≤ (sayN n tree t e.other.toNat).root) ∨
    ∃ e, adjN n i e ∧ (sayN n tree (t + 1) i).root = (sayN n tree t e.other.toNat).root ∧ (sayN n tree (t + 1) i).cost = (sayN n tree t e.other.toNat).cost + e.cost ∧ (chN n tree t i).port = e.port ∧ (sayN n tree t e.other.toNat).root < idN n tree i ∧
      ∀ e', adjN n i e' → (sayN n tree t e'.other.toNat).root < idN n tree i →
        Vec.le2 ⟨(sayN n tree t e.other.toNat).root, (sayN n tree t e.other.toNat).cost + e.cost, idN n tree e.other.toNat, e.oport⟩ e.port ⟨(sayN n tree t e'.other.toNat).root, (sayN n tree t e'.other.toNat).cost + e'.cost, idN n tree e'.other.toNat, e'.oport⟩ e'.port := by
  have hc := choose_inv (idN n tree i) (offersOf (endsOf n i) (saysN n tree t))
  rw [(sayN_succ hi).1, (sayN_succ hi).2]
  show (chN n tree t i).best.root = _ ∧ _ ∨ _
  have hc' : Ch.Inv (idN n tree i) (offersOf (endsOf n i) (saysN n tree t)) (chN n tree t i) := hc
  generalize chN n tree t i = c at hc' ⊢
  by_cases hp : c.port < 0
  · left
    rw [hc'.neg hp]
    refine ⟨rfl, rfl, rfl, fun e he => ?_⟩
    by_cases hr : (sayN n tree t e.other.toNat).root < idN n tree i
    · have := (hc'.min _ (offer_mem.2 ⟨e, he, rfl⟩) _ ((elig_iff h ht he).2 ⟨rfl, hr⟩)).1
      omega
    · omega
  · right
    obtain ⟨o, ho, hel, hpo, _⟩ := hc'.some (by omega)
    obtain ⟨e, he, rfl⟩ := offer_mem.1 ho
    have hel' := (elig_iff h ht he).1 hel
    rw [offer_eq h he] at hpo
    refine ⟨e, he, by rw [hel'.1], by rw [hel'.1], hpo.symm, hel'.2, fun e' he' hr => ?_⟩
    have hm := (hc'.min _ (offer_mem.2 ⟨e', he', rfl⟩) _ ((elig_iff h ht he').2 ⟨rfl, hr⟩)).2
    rw [hel'.1, ← hpo, offer_eq h he'] at hm
    exact hm
section
variable {n : Net} (h : n.good) (tree : Int) {t i : Nat}
include h
theorem round_own (ht : t ≤ 1000) (hi : i < n.bridges.length) : leL (sayN n tree (t + 1) i).root (sayN n tree (t + 1) i).cost (idN n tree i) 0 := by
  unfold leL
  rcases round_at h tree ht hi with ⟨h1, h2, _⟩ | ⟨e, _, h1, _, _, h2, _⟩ <;> omega
theorem round_le (ht : t ≤ 1000) (hi : i < n.bridges.length) {e : End} (he : adjN n i e) : leL (sayN n tree (t + 1) i).root (sayN n tree (t + 1) i).cost (sayN n tree t e.other.toNat).root ((sayN n tree t e.other.toNat).cost + e.cost) := by
  have hk := adj_ok h he
  have hc := cost_le h tree t _ hk.2.2.1
  have ho := round_own h tree ht hi
  by_cases hr : (sayN n tree t e.other.toNat).root < idN n tree i
  · rcases round_at h tree ht hi with ⟨_, _, _, h1⟩ | ⟨e0, _, h1, h2, _, _, h3⟩
    · have := h1 e he; omega
    · have := h3 e he hr
      rw [h1, h2]
      unfold Vec.le2 at this
      simp only [Vec.cmp_lt, Vec.cmp_eq] at this
      unfold leL; omega
  · unfold leL at *; omega
theorem round_from (ht : t ≤ 1000) (hi : i < n.bridges.length) : ((sayN n tree (t + 1) i).root = idN n tree i ∧ (sayN n tree (t + 1) i).cost = 0) ∨ ∃ e, adjN n i e ∧ (sayN n tree (t + 1) i).root = (sayN n tree t e.other.toNat).root ∧ (sayN n tree (t + 1) i).cost = (sayN n tree t e.other.toNat).cost + e.cost := by
  rcases round_at h tree ht hi with ⟨h1, h2, _⟩ | ⟨e, he, h1, h2, _⟩
  · exact .inl ⟨h1, h2⟩
  · exact .inr ⟨e, he, h1, h2⟩
theorem round_mono : ∀ {t i : Nat}, t ≤ 999 → i < n.bridges.length → leL (sayN n tree (t + 1) i).root (sayN n tree (t + 1) i).cost (sayN n tree t i).root (sayN n tree t i).cost
  | 0, i, _, hi => by rw [(sayN_zero hi).1, (sayN_zero hi).2]; exact round_own h tree (by omega) hi
  | t + 1, i, ht, hi => by
    rcases round_from h tree (t := t) (by omega) hi with ⟨h1, h2⟩ | ⟨e, he, h1, h2⟩
    · rw [h1, h2]; exact round_own h tree (by omega) hi
    · rw [h1, h2]
      exact leL_trans (round_le h tree (by omega) hi he) (leL_add _ (round_mono (by omega) (adj_ok h he).2.2.1))
theorem round_mono2 {s t i : Nat} (hst : s ≤ t) (ht : t ≤ 1000) (hi : i < n.bridges.length) : leL (sayN n tree t i).root (sayN n tree t i).cost (sayN n tree s i).root (sayN n tree s i).cost := by
  induction t with
  | zero => have : s = 0 := by omega
            subst this; exact leL_refl _ _
  | succ t ih =>
    by_cases he : s = t + 1
    · subst he; exact leL_refl _ _
    · exact leL_trans (round_mono h tree (by omega) hi) (ih (by omega) (by omega))
end
theorem pigeon : ∀ (k : Nat) (f : Nat → Nat), (∀ s, s ≤ k → f s < k) → ∃ a b, a < b ∧ b ≤ k ∧ f a = f b
  | 0, f, h => absurd (h 0 (Nat.le_refl _)) (by omega)
  | k + 1, f, h => by
    by_cases hx : ∃ s, s ≤ k ∧ f s = f (k + 1)
    · obtain ⟨s, h1, h2⟩ := hx
      exact ⟨s, k + 1, by omega, Nat.le_refl _, h2⟩
    · -- the last place is struck out
      have hx' : ∀ s, s ≤ k → f s ≠ f (k + 1) := fun s h1 h2 => hx ⟨s, h1, h2⟩
      obtain ⟨a, b, h1, h2, h3⟩ := pigeon k (fun s => if f s < f (k + 1) then f s else f s - 1) (fun s hs => by
        have e1 := h s (by omega)
        have e2 := h (k + 1) (Nat.le_refl _)
        have e3 := hx' s hs
        split <;> omega)
      refine ⟨a, b, h1, by omega, ?_⟩
      have e1 := hx' a (by omega)
      have e2 := hx' b (by omega)
      split at h3 <;> split at h3 <;> omega
theorem chain {n : Net} (h : n.good) (tree : Int) : ∀ (t i : Nat), t ≤ 999 → i < n.bridges.length → ¬ ((sayN n tree (t + 1) i).root = (sayN n tree t i).root ∧ (sayN n tree (t + 1) i).cost = (sayN n tree t i).cost) →
    ∃ f : Nat → Nat, f (t + 1) = i ∧ (∀ s, s ≤ t + 1 → f s < n.bridges.length) ∧ ∀ s, s ≤ t → (sayN n tree (s + 1) (f (s + 1))).root = (sayN n tree s (f s)).root ∧ (sayN n tree s (f s)).cost < (sayN n tree (s + 1) (f (s + 1))).cost
  | t, i, ht, hi, hne => by
    rcases round_from h tree (t := t) (by omega) hi with ⟨h1, h2⟩ | ⟨e, he, h1, h2⟩
    · exfalso
      apply hne
      have m := round_mono h tree ht hi
      have o : leL (sayN n tree t i).root (sayN n tree t i).cost (idN n tree i) 0 := by
        cases t with
        | zero => rw [(sayN_zero hi).1, (sayN_zero hi).2]; exact leL_refl _ _
        | succ t => exact round_own h tree (by omega) hi
      rw [← h1, ← h2] at o
      exact leL_anti m (by rw [h1, h2] at o ⊢; exact o)
    · have hk := adj_ok h he
      cases t with
      | zero =>
        refine ⟨fun s => if s = 0 then e.other.toNat else i, by simp, fun s hs => ?_, fun s hs => ?_⟩
        · show (if s = 0 then _ else _) < _
          split
          · exact hk.2.2.1
          · exact hi
        · have : s = 0 := by omega
          subst this
          refine ⟨h1, ?_⟩
          show (sayN n tree 0 e.other.toNat).cost < (sayN n tree (0 + 1) i).cost
          omega
      | succ t =>
        have hne' : ¬ ((sayN n tree (t + 1) e.other.toNat).root = (sayN n tree t e.other.toNat).root ∧ (sayN n tree (t + 1) e.other.toNat).cost = (sayN n tree t e.other.toNat).cost) := by
          rintro ⟨g1, g2⟩
          apply hne
          have m := round_mono h tree ht hi
          have l := round_le h tree (t := t) (by omega) hi he
          rw [← g1, ← g2, ← h1, ← h2] at l
          exact leL_anti m l
        obtain ⟨f, f1, f2, f3⟩ := chain h tree t _ (by omega) hk.2.2.1 hne'
        refine ⟨fun s => if s = t + 2 then i else f s, by simp, fun s hs => ?_, fun s hs => ?_⟩
        · show (if s = t + 2 then _ else _) < _
          split
          · exact hi
          · exact f2 s (by omega)
        · show (sayN n tree (s + 1) (if s + 1 = t + 2 then i else f (s + 1))).root = (sayN n tree s (if s = t + 2 then i else f s)).root ∧ (sayN n tree s (if s = t + 2 then i else f s)).cost < (sayN n tree (s + 1) (if s + 1 = t + 2 then i else f (s + 1))).cost
          rw [if_neg (show ¬ s = t + 2 by omega)]
          by_cases hst : s = t + 1
          · subst hst
            rw [if_pos rfl, f1]
            exact ⟨h1, by omega⟩
          · rw [if_neg (by omega)]
            exact f3 s (by omega)
theorem chain_cost {D : Nat → Int} {t : Nat} (h : ∀ s, s ≤ t → D s < D (s + 1)) : ∀ {a b : Nat}, a < b → b ≤ t + 1 → D a < D b
  | a, b + 1, hab, hb => by
    by_cases he : a = b
    · subst he; exact h a (by omega)
    · exact Int.lt_trans (chain_cost h (a := a) (b := b) (by omega) (by omega)) (h b (by omega))
theorem chain_root {R : Nat → Int} {t : Nat} (h : ∀ s, s ≤ t → R (s + 1) = R s) : ∀ {b : Nat}, b ≤ t + 1 → R b = R 0
  | 0, _ => rfl
  | b + 1, hb => by rw [h b (by omega)]; exact chain_root h (by omega)
theorem round_still {n : Net} (h : n.good) (tree : Int) {t i : Nat} (hk : n.bridges.length ≤ t + 1) (ht : t ≤ 999) (hi : i < n.bridges.length) :
    (sayN n tree (t + 1) i).root = (sayN n tree t i).root ∧ (sayN n tree (t + 1) i).cost = (sayN n tree t i).cost := by
  by_cases hne : (sayN n tree (t + 1) i).root = (sayN n tree t i).root ∧ (sayN n tree (t + 1) i).cost = (sayN n tree t i).cost
  · exact hne
  · exfalso
    obtain ⟨f, _, f2, f3⟩ := chain h tree t i ht hi hne
    obtain ⟨a, b, h1, h2, h3⟩ := pigeon n.bridges.length f (fun s hs => f2 s (by omega))
    have hc := chain_cost (D := fun s => (sayN n tree s (f s)).cost) (t := t) (fun s hs => (f3 s hs).2) h1 (by omega)
    have r1 := chain_root (R := fun s => (sayN n tree s (f s)).root) (t := t) (fun s hs => (f3 s hs).1) (b := a) (by omega)
    have r2 := chain_root (R := fun s => (sayN n tree s (f s)).root) (t := t) (fun s hs => (f3 s hs).1) (b := b) (by omega)
    have m := round_mono2 h tree (s := a) (t := b) (by omega) (by omega) (f2 b (by omega))
    simp only [h3] at hc r1
    rw [r2, r1] at m
    unfold leL at m
    omega
end Go.Proofs.Ytfmaehhloffabaa
namespace Go.Proofs.Ytfmaehhloffabaa
def sF (n : Net) (tree : Int) (i : Nat) : Vec := sayN n tree (n.bridges.length + 1) i
def pF (n : Net) (tree : Int) (i : Nat) : Int := (chN n tree n.bridges.length i).port
def roleF (n : Net) (tree : Int) (i : Nat) (p : Int) : Int :=
  if (endsOf n i).any (fun e => decide (e.port = p)) then roleOf (sF n tree i) (pF n tree i) p (offersOf (endsOf n i) (saysN n tree (n.bridges.length + 1))) else 0
theorem place_eq {n : Net} {tree : Int} {i : Nat} (hi : i < n.bridges.length) : placeOf n tree i = ⟨sF n tree i, pF n tree i, portsOf n.links i, (portsOf n.links i).map (roleF n tree i)⟩ := by
  have hb := List.getElem?_eq_getElem hi
  have hp : ((rootN n tree)[i]?).getD 0 = pF n tree i := by
    unfold rootN pF chN
    simp [hi, nextS, idN_of hb]
  unfold placeOf
  simp only [hp]
  rfl
theorem plan_get {n : Net} {tree : Int} {i : Nat} (hi : i < n.bridges.length) : (planF n tree)[i]? = some ⟨sF n tree i, pF n tree i, portsOf n.links i, (portsOf n.links i).map (roleF n tree i)⟩ := by
  unfold planF
  simp [hi, place_eq hi]
theorem plan_len (n : Net) (tree : Int) : (planF n tree).length = n.bridges.length := by simp [planF]
theorem sF_ids {n : Net} {tree : Int} {i : Nat} (hi : i < n.bridges.length) : (sF n tree i).bridge = idN n tree i ∧ (sF n tree i).port = 0 := sayN_ids hi
section
variable {n : Net} (h : n.good) (tree : Int)
include h
theorem fin_same {i : Nat} (hi : i < n.bridges.length) : (sayN n tree n.bridges.length i).root = (sF n tree i).root ∧ (sayN n tree n.bridges.length i).cost = (sF n tree i).cost := by
  have := round_still h tree (t := n.bridges.length) (by omega) (by have := h.nb; omega) hi
  exact ⟨this.1.symm, this.2.symm⟩
theorem fin_list : saysN n tree (n.bridges.length + 1) = saysN n tree n.bridges.length := by
  apply List.ext_getElem?
  intro i
  by_cases hi : i < n.bridges.length
  · rw [sayN_get hi, sayN_get hi]
    congr 1
    obtain ⟨h1, h2⟩ := fin_same h tree hi
    obtain ⟨h3, h4⟩ := sayN_ids (tree := tree) (t := n.bridges.length) hi
    obtain ⟨h5, h6⟩ := sF_ids (tree := tree) hi
    exact Vec.ext4 h1.symm h2.symm (h5.trans h3.symm) (h6.trans h4.symm)
  · rw [List.getElem?_eq_none (by rw [saysN_len]; omega), List.getElem?_eq_none (by rw [saysN_len]; omega)]
theorem fin_cost {i : Nat} (hi : i < n.bridges.length) : 0 ≤ (sF n tree i).cost ∧ (sF n tree i).cost ≤ 2600000 := by
  have := cost_le h tree (n.bridges.length + 1) i hi
  have := h.nb
  unfold sF; omega
theorem fin_at {i : Nat} (hi : i < n.bridges.length) :
    ((sF n tree i).root = idN n tree i ∧ (sF n tree i).cost = 0 ∧ pF n tree i = -1 ∧ ∀ e, adjN n i e → idN n tree i ≤ (sF n tree e.other.toNat).root) ∨
    ∃ e, adjN n i e ∧ (sF n tree i).root = (sF n tree e.other.toNat).root ∧ (sF n tree i).cost = (sF n tree e.other.toNat).cost + e.cost ∧ pF n tree i = e.port ∧ (sF n tree e.other.toNat).root < idN n tree i ∧
      ∀ e', adjN n i e' → (sF n tree e'.other.toNat).root < idN n tree i →
        Vec.le2 ⟨(sF n tree e.other.toNat).root, (sF n tree e.other.toNat).cost + e.cost, idN n tree e.other.toNat, e.oport⟩ e.port ⟨(sF n tree e'.other.toNat).root, (sF n tree e'.other.toNat).cost + e'.cost, idN n tree e'.other.toNat, e'.oport⟩ e'.port := by
  have hnb := h.nb
  rcases round_at h tree (t := n.bridges.length) (by omega) hi with ⟨h1, h2, h3, h4⟩ | ⟨e, he, h1, h2, h3, h4, h5⟩
  · refine .inl ⟨h1, h2, h3, fun e he => ?_⟩
    rw [← (fin_same h tree (adj_ok h he).2.2.1).1]; exact h4 e he
  · have hs := fin_same h tree (adj_ok h he).2.2.1
    rw [hs.1] at h1 h4
    rw [hs.2] at h2
    refine .inr ⟨e, he, h1, h2, h3, h4, fun e' he' hr => ?_⟩
    have hs' := fin_same h tree (adj_ok h he').2.2.1
    have := h5 e' he' (by rw [hs'.1]; exact hr)
    rw [hs.1, hs.2, hs'.1, hs'.2] at this
    exact this
theorem fin_own {i : Nat} (hi : i < n.bridges.length) : leL (sF n tree i).root (sF n tree i).cost (idN n tree i) 0 := round_own h tree (by have := h.nb; omega) hi
theorem fin_le {i : Nat} (hi : i < n.bridges.length) {e : End} (he : adjN n i e) : leL (sF n tree i).root (sF n tree i).cost (sF n tree e.other.toNat).root ((sF n tree e.other.toNat).cost + e.cost) := by
  have hs := fin_same h tree (adj_ok h he).2.2.1
  have := round_le h tree (t := n.bridges.length) (by have := h.nb; omega) hi he
  rw [hs.1, hs.2] at this
  exact this
end
theorem port_mem {n : Net} {l : Link} (_h : n.good) (hl : l ∈ n.links) : l.pa ∈ portsOf n.links l.a ∧ l.pb ∈ portsOf n.links l.b := by
  rw [portsOf_eq, portsOf_eq]
  unfold sortI rawP portAt
  rw [List.mem_mergeSort, List.mem_mergeSort]
  refine ⟨List.mem_flatMap.2 ⟨l, hl, List.mem_append.2 (.inl ?_)⟩, List.mem_flatMap.2 ⟨l, hl, List.mem_append.2 (.inr ?_)⟩⟩
  · rw [if_pos rfl]; exact List.mem_singleton.2 rfl
  · rw [if_pos rfl]; exact List.mem_singleton.2 rfl
end Go.Proofs.Ytfmaehhloffabaa
namespace Go.Proofs.Ytfmaehhloffabaa
def placeC (id : Int) (ends : List End) (ps : List Int) (v : Vec) (s0 s1 : List Vec) : Place := ⟨v, (chooseS id (offersOf ends s0)).port, ps, rolesP ends v (chooseS id (offersOf ends s0)).port (offersOf ends s1) ps⟩
def insE (e : End) : List End → List End
  | [] => [e]
  | x :: r => if e.port ≤ x.port then e :: x :: r else x :: insE e r
def isoE : List End → List End
  | [] => []
  | e :: r => insE e (isoE r)
def insP (e : Int) : List Int → List Int
  | [] => [e]
  | x :: r => if e ≤ x then e :: x :: r else x :: insP e r
def isoP : List Int → List Int
  | [] => []
  | e :: r => insP e (isoP r)
theorem insE_perm (e : End) : ∀ l, (insE e l).Perm (e :: l)
  | [] => .refl _
  | x :: r => by
    unfold insE
    split
    · exact .refl _
    · exact ((insE_perm e r).cons x).trans (.swap e x r)
theorem isoE_perm : ∀ l, (isoE l).Perm l
  | [] => .refl _
  | e :: r => (insE_perm e _).trans ((isoE_perm r).cons e)
theorem insE_sorted {e : End} : ∀ {l : List End}, l.Pairwise (fun a b => a.port ≤ b.port) → (insE e l).Pairwise (fun a b => a.port ≤ b.port)
  | [], _ => by simp [insE]
  | x :: r, h => by
    unfold insE
    obtain ⟨h1, h2⟩ := List.pairwise_cons.1 h
    split
    · rename_i hx
      refine List.pairwise_cons.2 ⟨fun y hy => ?_, h⟩
      rcases List.mem_cons.1 hy with rfl | hy
      · exact hx
      · exact Int.le_trans hx (h1 y hy)
    · rename_i hx
      refine List.pairwise_cons.2 ⟨fun y hy => ?_, insE_sorted h2⟩
      rcases List.mem_cons.1 ((insE_perm e r).mem_iff.1 hy) with rfl | hy
      · omega
      · exact h1 y hy
theorem isoE_sorted : ∀ l, (isoE l).Pairwise (fun a b => a.port ≤ b.port)
  | [] => .nil
  | _e :: r => insE_sorted (isoE_sorted r)
theorem sortE_iso {l : List End} (h : ∀ x ∈ l, ∀ y ∈ l, x.port = y.port → x = y) : sortE l = isoE l := by
  unfold sortE
  refine List.Perm.eq_of_pairwise (le := fun a b : End => a.port ≤ b.port) (fun a b ha hb h1 h2 => ?_) ?_ (isoE_sorted l) ((List.mergeSort_perm l _).trans (isoE_perm l).symm)
  · exact h a (List.mem_mergeSort.1 ha) b ((isoE_perm l).mem_iff.1 hb) (by omega)
  · have := List.pairwise_mergeSort (le := fun x y : End => decide (x.port ≤ y.port)) (fun a b c h1 h2 => by simp at *; omega) (fun a b => by simp; omega) l
    exact this.imp fun h => by simpa using h
theorem insP_perm (e : Int) : ∀ l, (insP e l).Perm (e :: l)
  | [] => .refl _
  | x :: r => by
    unfold insP
    split
    · exact .refl _
    · exact ((insP_perm e r).cons x).trans (.swap e x r)
theorem isoP_perm : ∀ l, (isoP l).Perm l
  | [] => .refl _
  | e :: r => (insP_perm e _).trans ((isoP_perm r).cons e)
theorem insP_sorted {e : Int} : ∀ {l : List Int}, l.Pairwise (· ≤ ·) → (insP e l).Pairwise (· ≤ ·)
  | [], _ => by simp [insP]
  | x :: r, h => by
    unfold insP
    obtain ⟨h1, h2⟩ := List.pairwise_cons.1 h
    split
    · rename_i hx
      refine List.pairwise_cons.2 ⟨fun y hy => ?_, h⟩
      rcases List.mem_cons.1 hy with rfl | hy
      · exact hx
      · exact Int.le_trans hx (h1 y hy)
    · rename_i hx
      refine List.pairwise_cons.2 ⟨fun y hy => ?_, insP_sorted h2⟩
      rcases List.mem_cons.1 ((insP_perm e r).mem_iff.1 hy) with rfl | hy
      · omega
      · exact h1 y hy
theorem isoP_sorted : ∀ l, (isoP l).Pairwise (· ≤ ·)
  | [] => .nil
  | _e :: r => insP_sorted (isoP_sorted r)
theorem sortI_iso (l : List Int) : sortI l = isoP l := by
  unfold sortI
  refine List.Perm.eq_of_pairwise (le := fun a b : Int => a ≤ b) (fun a b _ _ h1 h2 => by omega) ?_ (isoP_sorted l) ((List.mergeSort_perm l _).trans (isoP_perm l).symm)
  have := List.pairwise_mergeSort (le := fun x y : Int => decide (x ≤ y)) (fun a b c h1 h2 => by simp at *; omega) (fun a b => by simp; omega) l
  exact this.imp fun h => by simpa using h
theorem liveL_one {n : Net} (r : Region) (hr : ∀ b ∈ n.bridges, b.region = r) (hk : ∀ l ∈ n.links, l.a.toNat < n.bridges.length ∧ l.b.toNat < n.bridges.length) : liveL n = n.links.filter (·.up) := by
  unfold liveL
  apply List.filter_congr
  intro l hl
  obtain ⟨h1, h2⟩ := hk l hl
  unfold liveB
  have e : (idsR n.bridges)[l.a.toNat]? = (idsR n.bridges)[l.b.toNat]? := by
    unfold idsR
    rw [List.getElem?_map, List.getElem?_map, List.getElem?_eq_getElem h1, List.getElem?_eq_getElem h2, Option.map_some, Option.map_some, hr _ (List.getElem_mem h1), hr _ (List.getElem_mem h2)]
  rw [decide_eq_true e, Bool.and_true]
theorem ends_iso {n : Net} (h : n.good) (i : Nat) : endsOf n i = isoE (rawE (liveL n) i) := sortE_iso fun _ hx _ hy hp => h.end_one hx hy hp
theorem ports_iso (ls : List Link) (i : Int) : portsOf ls i = isoP (rawP ls i) := by rw [portsOf_eq]; exact sortI_iso _
end Go.Proofs.Ytfmaehhloffabaa
namespace Go.Proofs.Ytfmaehhloffabaa
open Go.RowKit
structure Mind where
  vec : Vec
  age : Int
  rootPort : Int
  ports : List Int
  roles : List Int
  calm : List Int
def Mind.cells (m : Mind) : List V := m.vec.cells ++ [.int .i64 m.age, .int .i64 m.rootPort, .slice (m.ports.map intV1), .slice (m.roles.map intV1), .slice (m.calm.map intV1)]
instance : CellsI Mind.cells 9 := ⟨fun _ => rfl, fun t d h => by
  simp only [Mind.cells, Vec.cells, List.cons_append, List.nil_append, List.mem_cons, List.mem_nil_iff, or_false] at h
  rcases h with rfl | rfl | rfl | rfl | rfl | rfl | rfl | rfl | rfl <;> rfl⟩
def Mind.zero : Mind := ⟨.zero, 0, 0, [], [], []⟩
def mindsRow (l : List Mind) : List V := [.slice (l.map Mind.cells)]
instance : CellsI mindsRow 1 := ⟨fun _ => rfl, fun t d h => by
  simp only [mindsRow, List.mem_cons, List.mem_nil_iff, or_false] at h
  subst h; rfl⟩
def talkV (t : List (List Mind)) : V := .agg [.slice (t.map mindsRow)]
def hearOf (l : List Mind) (e : End) : Offer := ⟨e.port, e.cost, ((l[e.other.toNat]?).getD .zero).age, { ((l[e.other.toNat]?).getD .zero).vec with port := e.oport }⟩
def hears (ends : List End) (l : List Mind) : List Offer := ends.map (hearOf l)
def calmOf (r c : Int) : Int := if r = 1 ∨ r = 2 then (if c < 49 then c else 49) + 1 else 0
def calmsOf (roles calm : List Int) : List Int := (List.range roles.length).map fun k => calmOf ((roles[k]?).getD 0) ((calm[k]?).getD 0)
def mindOf (n : Net) (tree : Int) (i : Nat) (ends : List End) (l : List Mind) : Mind :=
  let c := chooseS (idN n tree i) (hears ends l)
  let v := c.says (idN n tree i)
  let rs := rolesP ends v c.port (hears ends l) (portsOf n.links i)
  ⟨v, c.age, c.port, portsOf n.links i, rs, calmsOf rs ((l[i]?).getD .zero).calm⟩
def tickT (n : Net) (tree : Int) (l : List Mind) : List Mind := (List.range l.length).map fun i => mindOf n tree i (endsOf n i) l
def tickN (n : Net) (t : List (List Mind)) : List (List Mind) := (List.range t.length).map fun (k : Nat) => tickT n k ((t[k]?).getD [])
def ticksN (n : Net) (t : List (List Mind)) : Nat → List (List Mind)
  | 0 => t
  | k + 1 => tickN n (ticksN n t k)
def mind0 (n : Net) (tree : Int) (i : Nat) : Mind := ⟨⟨idN n tree i, 0, idN n tree i, 0⟩, 0, -1, portsOf n.links i, (portsOf n.links i).map fun _ => 0, (portsOf n.links i).map fun _ => 0⟩
def start0 (n : Net) (trees : Nat) : List (List Mind) := (List.range trees).map fun k : Nat => (List.range n.bridges.length).map (mind0 n k)
structure Doing where
  kind : Int
  n : Int
  tree : Int
  value : Int
def Doing.cells (d : Doing) : List V := [.int .i64 d.kind, .int .i64 d.n, .int .i64 d.tree, .int .i64 d.value]
def setPrio (ps : List Int) (tree : Nat) (v : Int) : List Int := (ps ++ List.replicate (tree + 1 - ps.length) 32768).set tree v
def doS (n : Net) (d : Doing) : Net × Int :=
  if d.kind = 2 ∨ d.kind = 3 ∨ d.kind = 4 then
    if d.n < 0 ∨ (n.links.length : Int) ≤ d.n then (n, 6)
    else if d.kind ≠ 4 then (⟨n.bridges, n.links.modify d.n.toNat fun l => { l with up := decide (d.kind = 2) }⟩, 0)
    else if d.value < 1 ∨ 200000 < d.value then (n, 3)
    else (⟨n.bridges, n.links.modify d.n.toNat fun l => { l with cost := d.value }⟩, 0)
  else if d.kind = 5 then
    if d.n < 0 ∨ (n.bridges.length : Int) ≤ d.n then (n, 6)
    else if d.tree < 0 ∨ 15 < d.tree ∨ d.value < 0 ∨ 61440 < d.value ∨ d.value.tmod 4096 ≠ 0 then (n, 3)
    else (⟨n.bridges.modify d.n.toNat fun b => { b with prios := setPrio b.prios d.tree.toNat d.value }, n.links⟩, 0)
  else (n, 1)
def onLoop : Nat → List Doing → Net → List (List Mind) → Option (Net × List (List Mind)) × (Int × Nat)
  | _, [], n, t => (some (n, t), (0, 0))
  | i, d :: r, n, t =>
    if d.kind = 1 then
      if d.n < 0 ∨ 200 < d.n then (none, (3, i)) else onLoop (i + 1) r n (ticksN n t d.n.toNat)
    else match doS n d with
      | (n', e) => if e ≠ 0 then (none, (e, i)) else onLoop (i + 1) r n' t
theorem ownLe2 {s e : Mem} {ρ : Nat → Option Nat} {g g0 ver0 ver lo len sz : Nat} {frz nw : Bool} {xs : List (List V)} (hρ : ρ g = some g0) (hs : s.at g0 = .row ver0 frz nw sz xs) (he : e.at g = .row ver frz nw sz xs) : slotLe s e ρ (.own g0 ver0 lo len) (.own g ver lo len) := by
  show (match ρ g with
    | some g0' => ∃ r, ownView s (.own g0 ver0 lo len) = some (g0', r) ∧ ownView e (.own g ver lo len) = some (g, r)
    | none => (D.own g0 ver0 lo len) = .nil ∧ ∃ nw sz, ownView e (.own g ver lo len) = some (g, 0, 0, false, nw, sz, []))
  rw [hρ]
  refine ⟨(lo, len, frz, nw, sz, xs), ?_, ?_⟩ <;> simp only [ownView, hs, he] <;> rw [show Nat.beq _ _ = true from Nat.beq_refl _] <;> rfl
theorem calmsOf_len (rs calm : List Int) : (calmsOf rs calm).length = rs.length := by simp [calmsOf]
structure goodM (n : Net) (i : Nat) (m : Mind) : Prop where
  p : m.ports = portsOf n.links i
  r : m.roles.length = (portsOf n.links i).length
  c : m.calm.length = (portsOf n.links i).length
  b : ∀ c ∈ m.calm, 0 ≤ c ∧ c ≤ 50
structure goodT (n : Net) (t : List (List Mind)) : Prop where
  l : t.length ≤ 4
  m : ∀ l ∈ t, l.length = n.bridges.length ∧ ∀ (i : Nat) m, l[i]? = some m → goodM n i m
def startA (n : Net) (trees : Int) : List (List Mind) × (Int × Nat) := if n.wrong.1 ≠ 0 then ([], n.wrong) else if trees < 1 ∨ 4 < trees then ([], (3, 0)) else (start0 n trees.toNat, (0, 0))
end Go.Proofs.Ytfmaehhloffabaa
