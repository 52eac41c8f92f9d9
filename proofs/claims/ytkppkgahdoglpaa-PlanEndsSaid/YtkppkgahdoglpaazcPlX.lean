/- How bridges come to stand, round by round: mathematics. -/
import Derived.Test.YtkppkgahdoglpaazcChM
namespace Go.Proofs.Ytkppkgahdoglpaa
def leL (r c r' c' : Int) : Prop := r < r' ∨ (r = r' ∧ c ≤ c')
theorem leL_trans {a b c d e f : Int} (h : leL a b c d) (k : leL c d e f) : leL a b e f := by unfold leL at *; omega
theorem leL_anti {a b c d : Int} (h : leL a b c d) (k : leL c d a b) : a = c ∧ b = d := by unfold leL at *; omega
theorem leL_refl (a b : Int) : leL a b a b := by unfold leL; omega
theorem leL_add {a b c d : Int} (e : Int) (h : leL a b c d) : leL a (b + e) c (d + e) := by unfold leL at *; omega
def idN (n : Net) (tree : Int) (i : Nat) : Int := ((n.bridges[i]?).map (·.id tree)).getD 0
theorem idN_of {n : Net} {tree : Int} {i : Nat} {b : Bridge} (h : n.bridges[i]? = some b) : idN n tree i = b.id tree := by unfold idN; rw [h]; rfl
def sayN (n : Net) (tree : Int) (t i : Nat) : Vec := ((saysN n tree t)[i]?).getD .zero
theorem sayN_get {n : Net} {tree : Int} {t i : Nat} (h : i < n.bridges.length) : (saysN n tree t)[i]? = some (sayN n tree t i) := by
  unfold sayN; rw [List.getElem?_eq_getElem (by rw [saysN_len]; exact h)]; rfl
theorem idN_inj {n : Net} (h : n.good) (tree : Int) {i j : Nat} (hi : i < n.bridges.length) (hj : j < n.bridges.length) (he : idN n tree i = idN n tree j) : i = j := by
  rw [idN_of (List.getElem?_eq_getElem hi), idN_of (List.getElem?_eq_getElem hj)] at he
  have o1 := h.br _ (List.getElem_mem hi)
  have o2 := h.br _ (List.getElem_mem hj)
  have had : n.bridges[i].addr = n.bridges[j].addr := by
    have := o1.a0; have := o1.a1; have := o2.a0; have := o2.a1
    unfold Bridge.id at he
    omega
  rcases Nat.lt_trichotomy i j with hl | hl | hl
  · exact absurd had (List.pairwise_iff_getElem.1 h.ad i j hi hj hl)
  · exact hl
  · exact absurd had.symm (List.pairwise_iff_getElem.1 h.ad j i hj hi hl)
def adjN (n : Net) (i : Nat) (e : End) : Prop := e ∈ rawE (liveL n) i
theorem adj_sym {n : Net} (h : n.good) {i : Nat} {e : End} (he : adjN n i e) : adjN n e.other.toNat ⟨e.oport, e.cost, i, e.port⟩ := by
  unfold adjN rawE at *
  obtain ⟨l, hl, he⟩ := List.mem_flatMap.1 he
  have hk := h.lk l (live_sub hl)
  refine List.mem_flatMap.2 ⟨l, hl, ?_⟩
  unfold endAt at *
  rcases List.mem_append.1 he with he | he
  · split at he
    · rename_i ha
      simp only [List.mem_singleton] at he; subst he
      refine List.mem_append.2 (.inr ?_)
      have := hk.b0
      simp only
      rw [if_pos (by omega), ha]
      exact List.mem_singleton.2 rfl
    · cases he
  · split at he
    · rename_i ha
      simp only [List.mem_singleton] at he; subst he
      refine List.mem_append.2 (.inl ?_)
      have := hk.a0
      simp only
      rw [if_pos (by omega), ha]
      exact List.mem_singleton.2 rfl
    · cases he
theorem adj_ok {n : Net} (h : n.good) {i : Nat} {e : End} (he : adjN n i e) : (1 ≤ e.port ∧ e.port ≤ 30) ∧ (1 ≤ e.cost ∧ e.cost ≤ 200000) ∧ e.other.toNat < n.bridges.length ∧ 0 ≤ e.other ∧ e.other ≠ i := by
  obtain ⟨h1, h2, h3, _, h4⟩ := rawE_ok h he
  exact ⟨h1, h2, by omega, h3.1, h4⟩
theorem sayN_ids {n : Net} {tree : Int} {t i : Nat} (h : i < n.bridges.length) : (sayN n tree t i).bridge = idN n tree i ∧ (sayN n tree t i).port = 0 := by
  have hb := List.getElem?_eq_getElem h
  unfold sayN
  cases t with
  | zero => simp [saysN, says0, h, idN_of hb]
  | succ t => simp [saysN, round1, h, saysOf, nextS, idN_of hb, Ch.says]
theorem sayN_zero {n : Net} {tree : Int} {i : Nat} (h : i < n.bridges.length) : (sayN n tree 0 i).root = idN n tree i ∧ (sayN n tree 0 i).cost = 0 := by
  have hb := List.getElem?_eq_getElem h
  unfold sayN
  simp [saysN, says0, h, idN_of hb]
def chN (n : Net) (tree : Int) (t i : Nat) : Ch := chooseS (idN n tree i) (offersOf (endsOf n i) (saysN n tree t))
theorem sayN_succ {n : Net} {tree : Int} {t i : Nat} (h : i < n.bridges.length) : (sayN n tree (t + 1) i).root = (chN n tree t i).best.root ∧ (sayN n tree (t + 1) i).cost = (chN n tree t i).best.cost := by
  have hb := List.getElem?_eq_getElem h
  unfold sayN chN
  simp [saysN, round1, h, saysOf, nextS, idN_of hb, Ch.says]
theorem offer_mem {n : Net} {says : List Vec} {i : Nat} {o : Offer} : o ∈ offersOf (endsOf n i) says ↔ ∃ e, adjN n i e ∧ o = offerOf says e := by
  unfold offersOf adjN
  rw [List.mem_map]
  constructor
  · rintro ⟨e, he, rfl⟩; exact ⟨e, mem_endsOf.1 he, rfl⟩
  · rintro ⟨e, he, rfl⟩; exact ⟨e, mem_endsOf.2 he, rfl⟩
theorem offer_eq {n : Net} {tree : Int} (h : n.good) {t i : Nat} {e : End} (he : adjN n i e) : offerOf (saysN n tree t) e = ⟨e.port, e.cost, 0, ⟨(sayN n tree t e.other.toNat).root, (sayN n tree t e.other.toNat).cost, idN n tree e.other.toNat, e.oport⟩⟩ := by
  have hj := (adj_ok h he).2.2.1
  unfold offerOf
  rw [sayN_get hj, Option.getD_some, ← (sayN_ids (tree := tree) (t := t) hj).1]
theorem cost_le {n : Net} (h : n.good) (tree : Int) : ∀ (t i : Nat), i < n.bridges.length → 0 ≤ (sayN n tree t i).cost ∧ (sayN n tree t i).cost ≤ 200000 * t
  | 0, i, hi => by rw [(sayN_zero hi).2]; omega
  | t + 1, i, hi => by
    rw [(sayN_succ hi).2]
    have hc := choose_inv (idN n tree i) (offersOf (endsOf n i) (saysN n tree t))
    by_cases hp : (chN n tree t i).port < 0
    · rw [show chN n tree t i = .start _ from hc.neg hp]; simp only [Ch.start]; omega
    · obtain ⟨o, ho, hel, _⟩ := hc.some (by show 0 ≤ (chN n tree t i).port; omega)
      obtain ⟨e, he, rfl⟩ := offer_mem.1 ho
      rw [offer_eq h he] at hel
      have hk := adj_ok h he
      have ih := cost_le h tree t _ hk.2.2.1
      have hov := hel.1
      unfold Vec.over at hov
      split at hov
      · cases hov
      · injection hov with hov
        show 0 ≤ (chN n tree t i).best.cost ∧ (chN n tree t i).best.cost ≤ _
        have : (chN n tree t i).best.cost = (sayN n tree t e.other.toNat).cost + e.cost := by
          show (chooseS _ _).best.cost = _
          rw [← hov]
        rw [this]; omega
theorem elig_iff {n : Net} (h : n.good) {tree : Int} {t i : Nat} (ht : t ≤ 1000) {e : End} (he : adjN n i e) {w : Vec} : (offerOf (saysN n tree t) e).elig (idN n tree i) w ↔
    w = ⟨(sayN n tree t e.other.toNat).root, (sayN n tree t e.other.toNat).cost + e.cost, idN n tree e.other.toNat, e.oport⟩ ∧ (sayN n tree t e.other.toNat).root < idN n tree i := by
  have hk := adj_ok h he
  have hc := cost_le h tree t _ hk.2.2.1
  rw [offer_eq h he]
  unfold Offer.elig Vec.over maxCost
  simp only
  rw [if_neg (by omega)]
  simp only [Option.some.injEq]
  constructor
  · rintro ⟨rfl, _, _, _, h5⟩; exact ⟨rfl, h5⟩
  · rintro ⟨rfl, h5⟩; exact ⟨rfl, by omega, by omega, by omega, h5⟩
theorem round_at {n : Net} (h : n.good) (tree : Int) {t i : Nat} (ht : t ≤ 1000) (hi : i < n.bridges.length) :
    ((sayN n tree (t + 1) i).root = idN n tree i ∧ (sayN n tree (t + 1) i).cost = 0 ∧ (chN n tree t i).port = -1 ∧ ∀ e, adjN n i e → idN n tree i ≤ (sayN n tree t e.other.toNat).root) ∨
    ∃ e, adjN n i e ∧ (sayN n tree (t + 1) i).root = (sayN n tree t e.other.toNat).root ∧ (sayN n tree (t + 1) i).cost = (sayN n tree t e.other.toNat).cost + e.cost ∧ (chN n tree t i).port = e.port ∧ (sayN n tree t e.other.toNat).root < idN n tree i ∧
      ∀ e', adjN n i e' → (sayN n tree t e'.other.toNat).root < idN n tree i →
        Vec.le2 ⟨(sayN n tree t e.other.toNat).root, (sayN n tree t e.other.toNat).cost + e.cost, idN n tree e.other.toNat, e.oport⟩ e.port ⟨(sayN n tree t e'.other.toNat).root, (sayN n tree t e'.other.toNat).cost + e'.cost, idN n tree e'.other.toNat, e'.oport⟩ e'.port := by
  have hc := choose_inv (idN n tree i) (offersOf (endsOf n i) (saysN n tree t))
  rw [(sayN_succ hi).1, (sayN_succ hi).2]
  show (chN n tree t i).best.root = _ ∧ _ ∨ _
  have hc' : Ch.Inv (idN n tree i) (offersOf (endsOf n i) (saysN n tree t)) (chN n tree t i) := hc
  generalize chN n tree t i = c at hc' ⊢
  by_cases hp : c.port < 0
  · left
    rw [hc'.neg hp]
    refine ⟨rfl, rfl, rfl, fun e he => ?_⟩
    by_cases hr : (sayN n tree t e.other.toNat).root < idN n tree i
    · have := (hc'.min _ (offer_mem.2 ⟨e, he, rfl⟩) _ ((elig_iff h ht he).2 ⟨rfl, hr⟩)).1
      omega
    · omega
  · right
    obtain ⟨o, ho, hel, hpo, _⟩ := hc'.some (by omega)
    obtain ⟨e, he, rfl⟩ := offer_mem.1 ho
    have hel' := (elig_iff h ht he).1 hel
    rw [offer_eq h he] at hpo
    refine ⟨e, he, by rw [hel'.1], by rw [hel'.1], hpo.symm, hel'.2, fun e' he' hr => ?_⟩
    have hm := (hc'.min _ (offer_mem.2 ⟨e', he', rfl⟩) _ ((elig_iff h ht he').2 ⟨rfl, hr⟩)).2
    rw [hel'.1, ← hpo, offer_eq h he'] at hm
    exact hm
section
variable {n : Net} (h : n.good) (tree : Int) {t i : Nat}
include h
theorem round_own (ht : t ≤ 1000) (hi : i < n.bridges.length) : leL (sayN n tree (t + 1) i).root (sayN n tree (t + 1) i).cost (idN n tree i) 0 := by
  unfold leL
  rcases round_at h tree ht hi with ⟨h1, h2, _⟩ | ⟨e, _, h1, _, _, h2, _⟩ <;> omega
theorem round_le (ht : t ≤ 1000) (hi : i < n.bridges.length) {e : End} (he : adjN n i e) : leL (sayN n tree (t + 1) i).root (sayN n tree (t + 1) i).cost (sayN n tree t e.other.toNat).root ((sayN n tree t e.other.toNat).cost + e.cost) := by
  have hk := adj_ok h he
  have hc := cost_le h tree t _ hk.2.2.1
  have ho := round_own h tree ht hi
  by_cases hr : (sayN n tree t e.other.toNat).root < idN n tree i
  · rcases round_at h tree ht hi with ⟨_, _, _, h1⟩ | ⟨e0, _, h1, h2, _, _, h3⟩
    · have := h1 e he; omega
    · have := h3 e he hr
      rw [h1, h2]
      unfold Vec.le2 at this
      simp only [Vec.cmp_lt, Vec.cmp_eq] at this
      unfold leL; omega
  · unfold leL at *; omega
theorem round_from (ht : t ≤ 1000) (hi : i < n.bridges.length) : ((sayN n tree (t + 1) i).root = idN n tree i ∧ (sayN n tree (t + 1) i).cost = 0) ∨ ∃ e, adjN n i e ∧ (sayN n tree (t + 1) i).root = (sayN n tree t e.other.toNat).root ∧ (sayN n tree (t + 1) i).cost = (sayN n tree t e.other.toNat).cost + e.cost := by
  rcases round_at h tree ht hi with ⟨h1, h2, _⟩ | ⟨e, he, h1, h2, _⟩
  · exact .inl ⟨h1, h2⟩
  · exact .inr ⟨e, he, h1, h2⟩
theorem round_mono : ∀ {t i : Nat}, t ≤ 999 → i < n.bridges.length → leL (sayN n tree (t + 1) i).root (sayN n tree (t + 1) i).cost (sayN n tree t i).root (sayN n tree t i).cost
  | 0, i, _, hi => by rw [(sayN_zero hi).1, (sayN_zero hi).2]; exact round_own h tree (by omega) hi
  | t + 1, i, ht, hi => by
    rcases round_from h tree (t := t) (by omega) hi with ⟨h1, h2⟩ | ⟨e, he, h1, h2⟩
    · rw [h1, h2]; exact round_own h tree (by omega) hi
    · rw [h1, h2]
      exact leL_trans (round_le h tree (by omega) hi he) (leL_add _ (round_mono (by omega) (adj_ok h he).2.2.1))
theorem round_mono2 {s t i : Nat} (hst : s ≤ t) (ht : t ≤ 1000) (hi : i < n.bridges.length) : leL (sayN n tree t i).root (sayN n tree t i).cost (sayN n tree s i).root (sayN n tree s i).cost := by
  induction t with
  | zero => have : s = 0 := by omega
            subst this; exact leL_refl _ _
  | succ t ih =>
    by_cases he : s = t + 1
    · subst he; exact leL_refl _ _
    · exact leL_trans (round_mono h tree (by omega) hi) (ih (by omega) (by omega))
end
theorem pigeon : ∀ (k : Nat) (f : Nat → Nat), (∀ s, s ≤ k → f s < k) → ∃ a b, a < b ∧ b ≤ k ∧ f a = f b
  | 0, f, h => absurd (h 0 (Nat.le_refl _)) (by omega)
  | k + 1, f, h => by
    by_cases hx : ∃ s, s ≤ k ∧ f s = f (k + 1)
    · obtain ⟨s, h1, h2⟩ := hx
      exact ⟨s, k + 1, by omega, Nat.le_refl _, h2⟩
    · -- the last place is struck out
      have hx' : ∀ s, s ≤ k → f s ≠ f (k + 1) := fun s h1 h2 => hx ⟨s, h1, h2⟩
      obtain ⟨a, b, h1, h2, h3⟩ := pigeon k (fun s => if f s < f (k + 1) then f s else f s - 1) (fun s hs => by
        have e1 := h s (by omega)
        have e2 := h (k + 1) (Nat.le_refl _)
        have e3 := hx' s hs
        split <;> omega)
      refine ⟨a, b, h1, by omega, ?_⟩
      have e1 := hx' a (by omega)
      have e2 := hx' b (by omega)
      split at h3 <;> split at h3 <;> omega
theorem chain {n : Net} (h : n.good) (tree : Int) : ∀ (t i : Nat), t ≤ 999 → i < n.bridges.length → ¬ ((sayN n tree (t + 1) i).root = (sayN n tree t i).root ∧ (sayN n tree (t + 1) i).cost = (sayN n tree t i).cost) →
    ∃ f : Nat → Nat, f (t + 1) = i ∧ (∀ s, s ≤ t + 1 → f s < n.bridges.length) ∧ ∀ s, s ≤ t → (sayN n tree (s + 1) (f (s + 1))).root = (sayN n tree s (f s)).root ∧ (sayN n tree s (f s)).cost < (sayN n tree (s + 1) (f (s + 1))).cost
  | t, i, ht, hi, hne => by
    rcases round_from h tree (t := t) (by omega) hi with ⟨h1, h2⟩ | ⟨e, he, h1, h2⟩
    · exfalso
      apply hne
      have m := round_mono h tree ht hi
      have o : leL (sayN n tree t i).root (sayN n tree t i).cost (idN n tree i) 0 := by
        cases t with
        | zero => rw [(sayN_zero hi).1, (sayN_zero hi).2]; exact leL_refl _ _
        | succ t => exact round_own h tree (by omega) hi
      rw [← h1, ← h2] at o
      exact leL_anti m (by rw [h1, h2] at o ⊢; exact o)
    · have hk := adj_ok h he
      cases t with
      | zero =>
        refine ⟨fun s => if s = 0 then e.other.toNat else i, by simp, fun s hs => ?_, fun s hs => ?_⟩
        · show (if s = 0 then _ else _) < _
          split
          · exact hk.2.2.1
          · exact hi
        · have : s = 0 := by omega
          subst this
          refine ⟨h1, ?_⟩
          show (sayN n tree 0 e.other.toNat).cost < (sayN n tree (0 + 1) i).cost
          omega
      | succ t =>
        have hne' : ¬ ((sayN n tree (t + 1) e.other.toNat).root = (sayN n tree t e.other.toNat).root ∧ (sayN n tree (t + 1) e.other.toNat).cost = (sayN n tree t e.other.toNat).cost) := by
          rintro ⟨g1, g2⟩
          apply hne
          have m := round_mono h tree ht hi
          have l := round_le h tree (t := t) (by omega) hi he
          rw [← g1, ← g2, ← h1, ← h2] at l
          exact leL_anti m l
        obtain ⟨f, f1, f2, f3⟩ := chain h tree t _ (by omega) hk.2.2.1 hne'
        refine ⟨fun s => if s = t + 2 then i else f s, by simp, fun s hs => ?_, fun s hs => ?_⟩
        · show (if s = t + 2 then _ else _) < _
          split
          · exact hi
          · exact f2 s (by omega)
        · show (sayN n tree (s + 1) (if s + 1 = t + 2 then i else f (s + 1))).root = (sayN n tree s (if s = t + 2 then i else f s)).root ∧ (sayN n tree s (if s = t + 2 then i else f s)).cost < (sayN n tree (s + 1) (if s + 1 = t + 2 then i else f (s + 1))).cost
          rw [if_neg (show ¬ s = t + 2 by omega)]
          by_cases hst : s = t + 1
          · subst hst
            rw [if_pos rfl, f1]
            exact ⟨h1, by omega⟩
          · rw [if_neg (by omega)]
            exact f3 s (by omega)
theorem chain_cost {D : Nat → Int} {t : Nat} (h : ∀ s, s ≤ t → D s < D (s + 1)) : ∀ {a b : Nat}, a < b → b ≤ t + 1 → D a < D b
  | a, b + 1, hab, hb => by
    by_cases he : a = b
    · subst he; exact h a (by omega)
    · exact Int.lt_trans (chain_cost h (a := a) (b := b) (by omega) (by omega)) (h b (by omega))
theorem chain_root {R : Nat → Int} {t : Nat} (h : ∀ s, s ≤ t → R (s + 1) = R s) : ∀ {b : Nat}, b ≤ t + 1 → R b = R 0
  | 0, _ => rfl
  | b + 1, hb => by rw [h b (by omega)]; exact chain_root h (by omega)
theorem round_still {n : Net} (h : n.good) (tree : Int) {t i : Nat} (hk : n.bridges.length ≤ t + 1) (ht : t ≤ 999) (hi : i < n.bridges.length) :
    (sayN n tree (t + 1) i).root = (sayN n tree t i).root ∧ (sayN n tree (t + 1) i).cost = (sayN n tree t i).cost := by
  by_cases hne : (sayN n tree (t + 1) i).root = (sayN n tree t i).root ∧ (sayN n tree (t + 1) i).cost = (sayN n tree t i).cost
  · exact hne
  · exfalso
    obtain ⟨f, _, f2, f3⟩ := chain h tree t i ht hi hne
    obtain ⟨a, b, h1, h2, h3⟩ := pigeon n.bridges.length f (fun s hs => f2 s (by omega))
    have hc := chain_cost (D := fun s => (sayN n tree s (f s)).cost) (t := t) (fun s hs => (f3 s hs).2) h1 (by omega)
    have r1 := chain_root (R := fun s => (sayN n tree s (f s)).root) (t := t) (fun s hs => (f3 s hs).1) (b := a) (by omega)
    have r2 := chain_root (R := fun s => (sayN n tree s (f s)).root) (t := t) (fun s hs => (f3 s hs).1) (b := b) (by omega)
    have m := round_mono2 h tree (s := a) (t := b) (by omega) (by omega) (f2 b (by omega))
    simp only [h3] at hc r1
    rw [r2, r1] at m
    unfold leL at m
    omega
end Go.Proofs.Ytkppkgahdoglpaa
