/- The document's way to a plan: labels of who reaches whom, and how far, in place: mathematics. -/
import Derived.Test.YtkppkgahdoglpaatcChM
namespace Go.Proofs.Ytkppkgahdoglpaa
def leL (r c r' c' : Int) : Prop := r < r' ∨ (r = r' ∧ c ≤ c')
theorem leL_trans {a b c d e f : Int} (h : leL a b c d) (k : leL c d e f) : leL a b e f := by unfold leL at *; omega
theorem leL_anti {a b c d : Int} (h : leL a b c d) (k : leL c d a b) : a = c ∧ b = d := by unfold leL at *; omega
theorem leL_refl (a b : Int) : leL a b a b := by unfold leL; omega
theorem leL_add {a b c d : Int} (e : Int) (h : leL a b c d) : leL a (b + e) c (d + e) := by unfold leL at *; omega
def idN (n : Net) (tree : Int) (i : Nat) : Int := ((n.bridges[i]?).map (·.id tree)).getD 0
theorem idN_of {n : Net} {tree : Int} {i : Nat} {b : Bridge} (h : n.bridges[i]? = some b) : idN n tree i = b.id tree := by unfold idN; rw [h]; rfl
def sayN (n : Net) (tree : Int) (t i : Nat) : Vec := ((saysN n tree t)[i]?).getD .zero
theorem sayN_get {n : Net} {tree : Int} {t i : Nat} (h : i < n.bridges.length) : (saysN n tree t)[i]? = some (sayN n tree t i) := by
  unfold sayN; rw [List.getElem?_eq_getElem (by rw [saysN_len]; exact h)]; rfl
def adjN (n : Net) (i : Nat) (e : End) : Prop := e ∈ rawE (liveL n) i
theorem adj_sym {n : Net} (h : n.good) {i : Nat} {e : End} (he : adjN n i e) : adjN n e.other.toNat ⟨e.oport, e.cost, i, e.port⟩ := by
  unfold adjN rawE at *
  obtain ⟨l, hl, he⟩ := List.mem_flatMap.1 he
  have hk := h.lk l (live_sub hl)
  refine List.mem_flatMap.2 ⟨l, hl, ?_⟩
  unfold endAt at *
  rcases List.mem_append.1 he with he | he
  · split at he
    · rename_i ha
      simp only [List.mem_singleton] at he; subst he
      refine List.mem_append.2 (.inr ?_)
      have := hk.b0
      simp only
      rw [if_pos (by omega), ha]
      exact List.mem_singleton.2 rfl
    · cases he
  · split at he
    · rename_i ha
      simp only [List.mem_singleton] at he; subst he
      refine List.mem_append.2 (.inl ?_)
      have := hk.a0
      simp only
      rw [if_pos (by omega), ha]
      exact List.mem_singleton.2 rfl
    · cases he
theorem adj_ok {n : Net} (h : n.good) {i : Nat} {e : End} (he : adjN n i e) : (1 ≤ e.port ∧ e.port ≤ 30) ∧ (1 ≤ e.cost ∧ e.cost ≤ 200000) ∧ e.other.toNat < n.bridges.length ∧ 0 ≤ e.other ∧ e.other ≠ i := by
  obtain ⟨h1, h2, h3, _, h4⟩ := rawE_ok h he
  exact ⟨h1, h2, by omega, h3.1, h4⟩
theorem sayN_ids {n : Net} {tree : Int} {t i : Nat} (h : i < n.bridges.length) : (sayN n tree t i).bridge = idN n tree i ∧ (sayN n tree t i).port = 0 := by
  have hb := List.getElem?_eq_getElem h
  unfold sayN
  cases t with
  | zero => simp [saysN, says0, h, idN_of hb]
  | succ t => simp [saysN, round1, h, saysOf, nextS, idN_of hb, Ch.says]
theorem sayN_zero {n : Net} {tree : Int} {i : Nat} (h : i < n.bridges.length) : (sayN n tree 0 i).root = idN n tree i ∧ (sayN n tree 0 i).cost = 0 := by
  have hb := List.getElem?_eq_getElem h
  unfold sayN
  simp [saysN, says0, h, idN_of hb]
def chN (n : Net) (tree : Int) (t i : Nat) : Ch := chooseS (idN n tree i) (offersOf (endsOf n i) (saysN n tree t))
theorem sayN_succ {n : Net} {tree : Int} {t i : Nat} (h : i < n.bridges.length) : (sayN n tree (t + 1) i).root = (chN n tree t i).best.root ∧ (sayN n tree (t + 1) i).cost = (chN n tree t i).best.cost := by
  have hb := List.getElem?_eq_getElem h
  unfold sayN chN
  simp [saysN, round1, h, saysOf, nextS, idN_of hb, Ch.says]
theorem offer_mem {n : Net} {says : List Vec} {i : Nat} {o : Offer} : o ∈ offersOf (endsOf n i) says ↔ ∃ e, adjN n i e ∧ o = offerOf says e := by
  unfold offersOf adjN
  rw [List.mem_map]
  constructor
  · rintro ⟨e, he, rfl⟩; exact ⟨e, mem_endsOf.1 he, rfl⟩
  · rintro ⟨e, he, rfl⟩; exact ⟨e, mem_endsOf.2 he, rfl⟩
theorem offer_eq {n : Net} {tree : Int} (h : n.good) {t i : Nat} {e : End} (he : adjN n i e) : offerOf (saysN n tree t) e = ⟨e.port, e.cost, 0, ⟨(sayN n tree t e.other.toNat).root, (sayN n tree t e.other.toNat).cost, idN n tree e.other.toNat, e.oport⟩⟩ := by
  have hj := (adj_ok h he).2.2.1
  unfold offerOf
  rw [sayN_get hj, Option.getD_some, ← (sayN_ids (tree := tree) (t := t) hj).1]
theorem cost_le {n : Net} (h : n.good) (tree : Int) : ∀ (t i : Nat), i < n.bridges.length → 0 ≤ (sayN n tree t i).cost ∧ (sayN n tree t i).cost ≤ 200000 * t
  | 0, i, hi => by rw [(sayN_zero hi).2]; omega
  | t + 1, i, hi => by
    rw [(sayN_succ hi).2]
    have hc := choose_inv (idN n tree i) (offersOf (endsOf n i) (saysN n tree t))
    by_cases hp : (chN n tree t i).port < 0
    · rw [show chN n tree t i = .start _ from hc.neg hp]; simp only [Ch.start]; omega
    · obtain ⟨o, ho, hel, _⟩ := hc.some (by show 0 ≤ (chN n tree t i).port; omega)
      obtain ⟨e, he, rfl⟩ := offer_mem.1 ho
      rw [offer_eq h he] at hel
      have hk := adj_ok h he
      have ih := cost_le h tree t _ hk.2.2.1
      have hov := hel.1
      unfold Vec.over at hov
      split at hov
      · cases hov
      · injection hov with hov
        show 0 ≤ (chN n tree t i).best.cost ∧ (chN n tree t i).best.cost ≤ _
        have : (chN n tree t i).best.cost = (sayN n tree t e.other.toNat).cost + e.cost := by
          show (chooseS _ _).best.cost = _
          rw [← hov]
        rw [this]; omega
theorem elig_iff {n : Net} (h : n.good) {tree : Int} {t i : Nat} (ht : t ≤ 1000) {e : End} (he : adjN n i e) {w : Vec} : (offerOf (saysN n tree t) e).elig (idN n tree i) w ↔
    w = ⟨(sayN n tree t e.other.toNat).root, (sayN n tree t e.other.toNat).cost + e.cost, idN n tree e.other.toNat, e.oport⟩ ∧ (sayN n tree t e.other.toNat).root < idN n tree i := by
  have hk := adj_ok h he
  have hc := cost_le h tree t _ hk.2.2.1
  rw [offer_eq h he]
  unfold Offer.elig Vec.over maxCost
  simp only
  rw [if_neg (by omega)]
  simp only [Option.some.injEq]
  constructor
  · rintro ⟨rfl, _, _, _, h5⟩; exact ⟨rfl, h5⟩
  · rintro ⟨rfl, h5⟩; exact ⟨rfl, by omega, by omega, by omega, h5⟩
theorem round_at {n : Net} (h : n.good) (tree : Int) {t i : Nat} (ht : t ≤ 1000) (hi : i < n.bridges.length) :
    ((sayN n tree (t + 1) i).root = idN n tree i ∧ (sayN n tree (t + 1) i).cost = 0 ∧ (chN n tree t i).port = -1 ∧ ∀ e, adjN n i e → idN n tree i ≤ (sayN n tree t e.other.toNat).root) ∨
    ∃ e, adjN n i e ∧ (sayN n tree (t + 1) i).root = (sayN n tree t e.other.toNat).root ∧ (sayN n tree (t + 1) i).cost = (sayN n tree t e.other.toNat).cost + e.cost ∧ (chN n tree t i).port = e.port ∧ (sayN n tree t e.other.toNat).root < idN n tree i ∧
      ∀ e', adjN n i e' → (sayN n tree t e'.other.toNat).root < idN n tree i →
        Vec.le2 ⟨(sayN n tree t e.other.toNat).root, (sayN n tree t e.other.toNat).cost + e.cost, idN n tree e.other.toNat, e.oport⟩ e.port ⟨(sayN n tree t e'.other.toNat).root, (sayN n tree t e'.other.toNat).cost + e'.cost, idN n tree e'.other.toNat, e'.oport⟩ e'.port := by
  have hc := choose_inv (idN n tree i) (offersOf (endsOf n i) (saysN n tree t))
  rw [(sayN_succ hi).1, (sayN_succ hi).2]
  show (chN n tree t i).best.root = _ ∧ _ ∨ _
  have hc' : Ch.Inv (idN n tree i) (offersOf (endsOf n i) (saysN n tree t)) (chN n tree t i) := hc
  generalize chN n tree t i = c at hc' ⊢
  by_cases hp : c.port < 0
  · left
    rw [hc'.neg hp]
    refine ⟨rfl, rfl, rfl, fun e he => ?_⟩
    by_cases hr : (sayN n tree t e.other.toNat).root < idN n tree i
    · have := (hc'.min _ (offer_mem.2 ⟨e, he, rfl⟩) _ ((elig_iff h ht he).2 ⟨rfl, hr⟩)).1
      omega
    · omega
  · right
    obtain ⟨o, ho, hel, hpo, _⟩ := hc'.some (by omega)
    obtain ⟨e, he, rfl⟩ := offer_mem.1 ho
    have hel' := (elig_iff h ht he).1 hel
    rw [offer_eq h he] at hpo
    refine ⟨e, he, by rw [hel'.1], by rw [hel'.1], hpo.symm, hel'.2, fun e' he' hr => ?_⟩
    have hm := (hc'.min _ (offer_mem.2 ⟨e', he', rfl⟩) _ ((elig_iff h ht he').2 ⟨rfl, hr⟩)).2
    rw [hel'.1, ← hpo, offer_eq h he'] at hm
    exact hm
section
variable {n : Net} (h : n.good) (tree : Int) {t i : Nat}
include h
theorem round_own (ht : t ≤ 1000) (hi : i < n.bridges.length) : leL (sayN n tree (t + 1) i).root (sayN n tree (t + 1) i).cost (idN n tree i) 0 := by
  unfold leL
  rcases round_at h tree ht hi with ⟨h1, h2, _⟩ | ⟨e, _, h1, _, _, h2, _⟩ <;> omega
theorem round_le (ht : t ≤ 1000) (hi : i < n.bridges.length) {e : End} (he : adjN n i e) : leL (sayN n tree (t + 1) i).root (sayN n tree (t + 1) i).cost (sayN n tree t e.other.toNat).root ((sayN n tree t e.other.toNat).cost + e.cost) := by
  have hk := adj_ok h he
  have hc := cost_le h tree t _ hk.2.2.1
  have ho := round_own h tree ht hi
  by_cases hr : (sayN n tree t e.other.toNat).root < idN n tree i
  · rcases round_at h tree ht hi with ⟨_, _, _, h1⟩ | ⟨e0, _, h1, h2, _, _, h3⟩
    · have := h1 e he; omega
    · have := h3 e he hr
      rw [h1, h2]
      unfold Vec.le2 at this
      simp only [Vec.cmp_lt, Vec.cmp_eq] at this
      unfold leL; omega
  · unfold leL at *; omega
theorem round_from (ht : t ≤ 1000) (hi : i < n.bridges.length) : ((sayN n tree (t + 1) i).root = idN n tree i ∧ (sayN n tree (t + 1) i).cost = 0) ∨ ∃ e, adjN n i e ∧ (sayN n tree (t + 1) i).root = (sayN n tree t e.other.toNat).root ∧ (sayN n tree (t + 1) i).cost = (sayN n tree t e.other.toNat).cost + e.cost := by
  rcases round_at h tree ht hi with ⟨h1, h2, _⟩ | ⟨e, he, h1, h2, _⟩
  · exact .inl ⟨h1, h2⟩
  · exact .inr ⟨e, he, h1, h2⟩
theorem round_mono : ∀ {t i : Nat}, t ≤ 999 → i < n.bridges.length → leL (sayN n tree (t + 1) i).root (sayN n tree (t + 1) i).cost (sayN n tree t i).root (sayN n tree t i).cost
  | 0, i, _, hi => by rw [(sayN_zero hi).1, (sayN_zero hi).2]; exact round_own h tree (by omega) hi
  | t + 1, i, ht, hi => by
    rcases round_from h tree (t := t) (by omega) hi with ⟨h1, h2⟩ | ⟨e, he, h1, h2⟩
    · rw [h1, h2]; exact round_own h tree (by omega) hi
    · rw [h1, h2]
      exact leL_trans (round_le h tree (by omega) hi he) (leL_add _ (round_mono (by omega) (adj_ok h he).2.2.1))
theorem round_mono2 {s t i : Nat} (hst : s ≤ t) (ht : t ≤ 1000) (hi : i < n.bridges.length) : leL (sayN n tree t i).root (sayN n tree t i).cost (sayN n tree s i).root (sayN n tree s i).cost := by
  induction t with
  | zero => have : s = 0 := by omega
            subst this; exact leL_refl _ _
  | succ t ih =>
    by_cases he : s = t + 1
    · subst he; exact leL_refl _ _
    · exact leL_trans (round_mono h tree (by omega) hi) (ih (by omega) (by omega))
end
theorem pigeon : ∀ (k : Nat) (f : Nat → Nat), (∀ s, s ≤ k → f s < k) → ∃ a b, a < b ∧ b ≤ k ∧ f a = f b
  | 0, f, h => absurd (h 0 (Nat.le_refl _)) (by omega)
  | k + 1, f, h => by
    by_cases hx : ∃ s, s ≤ k ∧ f s = f (k + 1)
    · obtain ⟨s, h1, h2⟩ := hx
      exact ⟨s, k + 1, by omega, Nat.le_refl _, h2⟩
    · -- the last place is struck out
      have hx' : ∀ s, s ≤ k → f s ≠ f (k + 1) := fun s h1 h2 => hx ⟨s, h1, h2⟩
      obtain ⟨a, b, h1, h2, h3⟩ := pigeon k (fun s => if f s < f (k + 1) then f s else f s - 1) (fun s hs => by
        have e1 := h s (by omega)
        have e2 := h (k + 1) (Nat.le_refl _)
        have e3 := hx' s hs
        split <;> omega)
      refine ⟨a, b, h1, by omega, ?_⟩
      have e1 := hx' a (by omega)
      have e2 := hx' b (by omega)
      split at h3 <;> split at h3 <;> omega
theorem chain {n : Net} (h : n.good) (tree : Int) : ∀ (t i : Nat), t ≤ 999 → i < n.bridges.length → ¬ ((sayN n tree (t + 1) i).root = (sayN n tree t i).root ∧ (sayN n tree (t + 1) i).cost = (sayN n tree t i).cost) →
    ∃ f : Nat → Nat, f (t + 1) = i ∧ (∀ s, s ≤ t + 1 → f s < n.bridges.length) ∧ ∀ s, s ≤ t → (sayN n tree (s + 1) (f (s + 1))).root = (sayN n tree s (f s)).root ∧ (sayN n tree s (f s)).cost < (sayN n tree (s + 1) (f (s + 1))).cost
  | t, i, ht, hi, hne => by
    rcases round_from h tree (t := t) (by omega) hi with ⟨h1, h2⟩ | ⟨e, he, h1, h2⟩
    · exfalso
      apply hne
      have m := round_mono h tree ht hi
      have o : leL (sayN n tree t i).root (sayN n tree t i).cost (idN n tree i) 0 := by
        cases t with
        | zero => rw [(sayN_zero hi).1, (sayN_zero hi).2]; exact leL_refl _ _
        | succ t => exact round_own h tree (by omega) hi
      rw [← h1, ← h2] at o
      exact leL_anti m (by rw [h1, h2] at o ⊢; exact o)
    · have hk := adj_ok h he
      cases t with
      | zero =>
        refine ⟨fun s => if s = 0 then e.other.toNat else i, by simp, fun s hs => ?_, fun s hs => ?_⟩
        · show (if s = 0 then _ else _) < _
          split
          · exact hk.2.2.1
          · exact hi
        · have : s = 0 := by omega
          subst this
          refine ⟨h1, ?_⟩
          show (sayN n tree 0 e.other.toNat).cost < (sayN n tree (0 + 1) i).cost
          omega
      | succ t =>
        have hne' : ¬ ((sayN n tree (t + 1) e.other.toNat).root = (sayN n tree t e.other.toNat).root ∧ (sayN n tree (t + 1) e.other.toNat).cost = (sayN n tree t e.other.toNat).cost) := by
          rintro ⟨g1, g2⟩
          apply hne
          have m := round_mono h tree ht hi
          have l := round_le h tree (t := t) (by omega) hi he
          rw [← g1, ← g2, ← h1, ← h2] at l
          exact leL_anti m l
        obtain ⟨f, f1, f2, f3⟩ := chain h tree t _ (by omega) hk.2.2.1 hne'
        refine ⟨fun s => if s = t + 2 then i else f s, by simp, fun s hs => ?_, fun s hs => ?_⟩
        · show (if s = t + 2 then _ else _) < _
          split
          · exact hi
          · exact f2 s (by omega)
        · show (sayN n tree (s + 1) (if s + 1 = t + 2 then i else f (s + 1))).root = (sayN n tree s (if s = t + 2 then i else f s)).root ∧ (sayN n tree s (if s = t + 2 then i else f s)).cost < (sayN n tree (s + 1) (if s + 1 = t + 2 then i else f (s + 1))).cost
          rw [if_neg (show ¬ s = t + 2 by omega)]
          by_cases hst : s = t + 1
          · subst hst
            rw [if_pos rfl, f1]
            exact ⟨h1, by omega⟩
          · rw [if_neg (by omega)]
            exact f3 s (by omega)
theorem chain_cost {D : Nat → Int} {t : Nat} (h : ∀ s, s ≤ t → D s < D (s + 1)) : ∀ {a b : Nat}, a < b → b ≤ t + 1 → D a < D b
  | a, b + 1, hab, hb => by
    by_cases he : a = b
    · subst he; exact h a (by omega)
    · exact Int.lt_trans (chain_cost h (a := a) (b := b) (by omega) (by omega)) (h b (by omega))
theorem chain_root {R : Nat → Int} {t : Nat} (h : ∀ s, s ≤ t → R (s + 1) = R s) : ∀ {b : Nat}, b ≤ t + 1 → R b = R 0
  | 0, _ => rfl
  | b + 1, hb => by rw [h b (by omega)]; exact chain_root h (by omega)
theorem round_still {n : Net} (h : n.good) (tree : Int) {t i : Nat} (hk : n.bridges.length ≤ t + 1) (ht : t ≤ 999) (hi : i < n.bridges.length) :
    (sayN n tree (t + 1) i).root = (sayN n tree t i).root ∧ (sayN n tree (t + 1) i).cost = (sayN n tree t i).cost := by
  by_cases hne : (sayN n tree (t + 1) i).root = (sayN n tree t i).root ∧ (sayN n tree (t + 1) i).cost = (sayN n tree t i).cost
  · exact hne
  · exfalso
    obtain ⟨f, _, f2, f3⟩ := chain h tree t i ht hi hne
    obtain ⟨a, b, h1, h2, h3⟩ := pigeon n.bridges.length f (fun s hs => f2 s (by omega))
    have hc := chain_cost (D := fun s => (sayN n tree s (f s)).cost) (t := t) (fun s hs => (f3 s hs).2) h1 (by omega)
    have r1 := chain_root (R := fun s => (sayN n tree s (f s)).root) (t := t) (fun s hs => (f3 s hs).1) (b := a) (by omega)
    have r2 := chain_root (R := fun s => (sayN n tree s (f s)).root) (t := t) (fun s hs => (f3 s hs).1) (b := b) (by omega)
    have m := round_mono2 h tree (s := a) (t := b) (by omega) (by omega) (f2 b (by omega))
    simp only [h3] at hc r1
    rw [r2, r1] at m
    unfold leL at m
    omega
end Go.Proofs.Ytkppkgahdoglpaa
namespace Go.Proofs.Ytkppkgahdoglpaa
def sF (n : Net) (tree : Int) (i : Nat) : Vec := sayN n tree (n.bridges.length + 1) i
def pF (n : Net) (tree : Int) (i : Nat) : Int := (chN n tree n.bridges.length i).port
def roleF (n : Net) (tree : Int) (i : Nat) (p : Int) : Int :=
  if (endsOf n i).any (fun e => decide (e.port = p)) then roleOf (sF n tree i) (pF n tree i) p (offersOf (endsOf n i) (saysN n tree (n.bridges.length + 1))) else 0
theorem place_eq {n : Net} {tree : Int} {i : Nat} (hi : i < n.bridges.length) : placeOf n tree i = ⟨sF n tree i, pF n tree i, portsOf n.links i, (portsOf n.links i).map (roleF n tree i)⟩ := by
  have hb := List.getElem?_eq_getElem hi
  have hp : ((rootN n tree)[i]?).getD 0 = pF n tree i := by
    unfold rootN pF chN
    simp [hi, nextS, idN_of hb]
  unfold placeOf
  simp only [hp]
  rfl
theorem plan_get {n : Net} {tree : Int} {i : Nat} (hi : i < n.bridges.length) : (planF n tree)[i]? = some ⟨sF n tree i, pF n tree i, portsOf n.links i, (portsOf n.links i).map (roleF n tree i)⟩ := by
  unfold planF
  simp [hi, place_eq hi]
theorem plan_len (n : Net) (tree : Int) : (planF n tree).length = n.bridges.length := by simp [planF]
theorem sF_ids {n : Net} {tree : Int} {i : Nat} (hi : i < n.bridges.length) : (sF n tree i).bridge = idN n tree i ∧ (sF n tree i).port = 0 := sayN_ids hi
section
variable {n : Net} (h : n.good) (tree : Int)
include h
theorem fin_same {i : Nat} (hi : i < n.bridges.length) : (sayN n tree n.bridges.length i).root = (sF n tree i).root ∧ (sayN n tree n.bridges.length i).cost = (sF n tree i).cost := by
  have := round_still h tree (t := n.bridges.length) (by omega) (by have := h.nb; omega) hi
  exact ⟨this.1.symm, this.2.symm⟩
theorem fin_cost {i : Nat} (hi : i < n.bridges.length) : 0 ≤ (sF n tree i).cost ∧ (sF n tree i).cost ≤ 2600000 := by
  have := cost_le h tree (n.bridges.length + 1) i hi
  have := h.nb
  unfold sF; omega
theorem fin_at {i : Nat} (hi : i < n.bridges.length) :
    ((sF n tree i).root = idN n tree i ∧ (sF n tree i).cost = 0 ∧ pF n tree i = -1 ∧ ∀ e, adjN n i e → idN n tree i ≤ (sF n tree e.other.toNat).root) ∨
    ∃ e, adjN n i e ∧ (sF n tree i).root = (sF n tree e.other.toNat).root ∧ (sF n tree i).cost = (sF n tree e.other.toNat).cost + e.cost ∧ pF n tree i = e.port ∧ (sF n tree e.other.toNat).root < idN n tree i ∧
      ∀ e', adjN n i e' → (sF n tree e'.other.toNat).root < idN n tree i →
        Vec.le2 ⟨(sF n tree e.other.toNat).root, (sF n tree e.other.toNat).cost + e.cost, idN n tree e.other.toNat, e.oport⟩ e.port ⟨(sF n tree e'.other.toNat).root, (sF n tree e'.other.toNat).cost + e'.cost, idN n tree e'.other.toNat, e'.oport⟩ e'.port := by
  have hnb := h.nb
  rcases round_at h tree (t := n.bridges.length) (by omega) hi with ⟨h1, h2, h3, h4⟩ | ⟨e, he, h1, h2, h3, h4, h5⟩
  · refine .inl ⟨h1, h2, h3, fun e he => ?_⟩
    rw [← (fin_same h tree (adj_ok h he).2.2.1).1]; exact h4 e he
  · have hs := fin_same h tree (adj_ok h he).2.2.1
    rw [hs.1] at h1 h4
    rw [hs.2] at h2
    refine .inr ⟨e, he, h1, h2, h3, h4, fun e' he' hr => ?_⟩
    have hs' := fin_same h tree (adj_ok h he').2.2.1
    have := h5 e' he' (by rw [hs'.1]; exact hr)
    rw [hs.1, hs.2, hs'.1, hs'.2] at this
    exact this
theorem fin_own {i : Nat} (hi : i < n.bridges.length) : leL (sF n tree i).root (sF n tree i).cost (idN n tree i) 0 := round_own h tree (by have := h.nb; omega) hi
theorem fin_le {i : Nat} (hi : i < n.bridges.length) {e : End} (he : adjN n i e) : leL (sF n tree i).root (sF n tree i).cost (sF n tree e.other.toNat).root ((sF n tree e.other.toNat).cost + e.cost) := by
  have hs := fin_same h tree (adj_ok h he).2.2.1
  have := round_le h tree (t := n.bridges.length) (by have := h.nb; omega) hi he
  rw [hs.1, hs.2] at this
  exact this
theorem fin_root {i : Nat} (hi : i < n.bridges.length) {e : End} (he : adjN n i e) : (sF n tree i).root = (sF n tree e.other.toNat).root := by
  have h1 := fin_le h tree hi he
  have hk := adj_ok h he
  have h2 := fin_le h tree hk.2.2.1 (adj_sym h he)
  rw [show ((i : Nat) : Int).toNat = i from rfl] at h2
  unfold leL at *
  omega
theorem fin_port {i : Nat} (hi : i < n.bridges.length) : (pF n tree i < 0 ↔ (sF n tree i).root = idN n tree i) ∧ ((sF n tree i).root = idN n tree i → (sF n tree i).cost = 0) := by
  rcases fin_at h tree hi with ⟨h1, h2, h3, _⟩ | ⟨e, he, h1, h2, h3, h4, _⟩
  · exact ⟨⟨fun _ => h1, fun _ => by omega⟩, fun _ => h2⟩
  · have hk := adj_ok h he
    exact ⟨⟨fun _ => by omega, fun _ => by omega⟩, fun _ => by omega⟩
end
theorem adj_of_live {n : Net} {l : Link} (h : n.good) (hl : l ∈ liveL n) : adjN n l.a.toNat ⟨l.pa, l.cost, l.b, l.pb⟩ ∧ adjN n l.b.toNat ⟨l.pb, l.cost, l.a, l.pa⟩ := by
  have hk := h.lk l (live_sub hl)
  have := hk.a0; have := hk.b0
  unfold adjN rawE endAt
  refine ⟨List.mem_flatMap.2 ⟨l, hl, List.mem_append.2 (.inl ?_)⟩, List.mem_flatMap.2 ⟨l, hl, List.mem_append.2 (.inr ?_)⟩⟩
  · rw [if_pos (by omega)]; exact List.mem_singleton.2 rfl
  · rw [if_pos (by omega)]; exact List.mem_singleton.2 rfl
end Go.Proofs.Ytkppkgahdoglpaa
namespace Go.Proofs.Ytkppkgahdoglpaa
open Go.RowKit
def gv (g : List Int) (i : Nat) : Int := (g[i]?).getD 0
theorem gv_set {g : List Int} {i j : Nat} {v : Int} (hi : i < g.length) : gv (g.set i v) j = if i = j then v else gv g j := by
  unfold gv
  rw [List.getElem?_set]
  by_cases he : i = j
  · subst he; simp [hi]
  · simp [he]
theorem gv_of {g : List Int} {i : Nat} (hi : i < g.length) : g[i]? = some (gv g i) := by
  unfold gv; rw [List.getElem?_eq_getElem hi]; rfl
def relaxG (g : List Int) (l : Link) : List Int :=
  let low := if gv g l.b.toNat < gv g l.a.toNat then gv g l.b.toNat else gv g l.a.toNat
  (g.set l.a.toNat low).set l.b.toNat low
def relaxF (f : List Int) (l : Link) : List Int :=
  let f1 := if gv f l.a.toNat + l.cost < gv f l.b.toNat then f.set l.b.toNat (gv f l.a.toNat + l.cost) else f
  if gv f1 l.b.toNat + l.cost < gv f1 l.a.toNat then f1.set l.a.toNat (gv f1 l.b.toNat + l.cost) else f1
def roundsG (ls : List Link) (g : List Int) : Nat → List Int
  | 0 => g
  | t + 1 => ls.foldl relaxG (roundsG ls g t)
def roundsF (ls : List Link) (f : List Int) : Nat → List Int
  | 0 => f
  | t + 1 => ls.foldl relaxF (roundsF ls f t)
def inK (k : Nat) (ls : List Link) : Prop := ∀ l ∈ ls, l.a.toNat < k ∧ l.b.toNat < k ∧ l.a.toNat ≠ l.b.toNat ∧ 1 ≤ l.cost
theorem relaxG_len (g : List Int) (l : Link) : (relaxG g l).length = g.length := by simp [relaxG]
theorem relaxF_len (g : List Int) (l : Link) : (relaxF g l).length = g.length := by
  unfold relaxF
  dsimp only
  split <;> split <;> simp
theorem foldG_len : ∀ (ls : List Link) (g : List Int), (ls.foldl relaxG g).length = g.length
  | [], _ => rfl
  | l :: r, g => by rw [List.foldl_cons, foldG_len r, relaxG_len]
theorem foldF_len : ∀ (ls : List Link) (g : List Int), (ls.foldl relaxF g).length = g.length
  | [], _ => rfl
  | l :: r, g => by rw [List.foldl_cons, foldF_len r, relaxF_len]
theorem roundsG_len (ls : List Link) (g : List Int) : ∀ t, (roundsG ls g t).length = g.length
  | 0 => rfl
  | t + 1 => by show (ls.foldl relaxG _).length = _; rw [foldG_len, roundsG_len ls g t]
theorem roundsF_len (ls : List Link) (g : List Int) : ∀ t, (roundsF ls g t).length = g.length
  | 0 => rfl
  | t + 1 => by show (ls.foldl relaxF _).length = _; rw [foldF_len, roundsF_len ls g t]
theorem relaxG_at {g : List Int} {l : Link} (ha : l.a.toNat < g.length) (hb : l.b.toNat < g.length) (j : Nat) :
    gv (relaxG g l) j = if j = l.a.toNat ∨ j = l.b.toNat then min (gv g l.a.toNat) (gv g l.b.toNat) else gv g j := by
  unfold relaxG
  dsimp only
  rw [gv_set (by simpa using hb), gv_set ha]
  have hm : (if gv g l.b.toNat < gv g l.a.toNat then gv g l.b.toNat else gv g l.a.toNat) = min (gv g l.a.toNat) (gv g l.b.toNat) := by omega
  rw [hm]
  by_cases h1 : l.b.toNat = j
  · rw [if_pos h1, if_pos (.inr h1.symm)]
  · rw [if_neg h1]
    by_cases h2 : l.a.toNat = j
    · rw [if_pos h2, if_pos (.inl h2.symm)]
    · rw [if_neg h2, if_neg (by omega)]
theorem foldG_le : ∀ {ls : List Link} {g : List Int}, inK g.length ls → (∀ j, gv (ls.foldl relaxG g) j ≤ gv g j) ∧
    ∀ l ∈ ls, gv (ls.foldl relaxG g) l.a.toNat ≤ gv g l.b.toNat ∧ gv (ls.foldl relaxG g) l.b.toNat ≤ gv g l.a.toNat
  | [], g, _ => ⟨fun j => Int.le_refl _, by simp⟩
  | l :: r, g, h => by
    obtain ⟨ha, hb, _⟩ := h l (List.mem_cons_self ..)
    have hone : ∀ j, gv (relaxG g l) j ≤ gv g j := fun j => by
      rw [relaxG_at ha hb]
      split
      · rename_i hj
        rcases hj with rfl | rfl <;> omega
      · exact Int.le_refl _
    obtain ⟨h1, h2⟩ := foldG_le (ls := r) (g := relaxG g l) (by rw [relaxG_len]; exact fun x hx => h x (List.mem_cons_of_mem _ hx))
    refine ⟨fun j => Int.le_trans (h1 j) (hone j), fun x hx => ?_⟩
    rw [List.foldl_cons]
    rcases List.mem_cons.1 hx with rfl | hx
    · have k1 := h1 x.a.toNat
      have k2 := h1 x.b.toNat
      rw [relaxG_at ha hb] at k1 k2
      rw [if_pos (.inl rfl)] at k1
      rw [if_pos (.inr rfl)] at k2
      omega
    · obtain ⟨k1, k2⟩ := h2 x hx
      have := hone x.a.toNat
      have := hone x.b.toNat
      omega
inductive Conn (ls : List Link) : Nat → Nat → Prop
  | refl (i : Nat) : Conn ls i i
  | ab {i : Nat} {l : Link} (h : Conn ls i l.a.toNat) (hl : l ∈ ls) : Conn ls i l.b.toNat
  | ba {i : Nat} {l : Link} (h : Conn ls i l.b.toNat) (hl : l ∈ ls) : Conn ls i l.a.toNat
theorem Conn.trans {ls : List Link} {i j k : Nat} (h : Conn ls i j) (h2 : Conn ls j k) : Conn ls i k := by
  induction h2 with
  | refl => exact h
  | ab _ hl ih => exact .ab ih hl
  | ba _ hl ih => exact .ba ih hl
theorem Conn.symm {ls : List Link} {i j : Nat} (h : Conn ls i j) : Conn ls j i := by
  induction h with
  | refl => exact .refl _
  | @ab l _ hl ih => exact Conn.trans (.ba (.refl l.b.toNat) hl) ih
  | @ba l _ hl ih => exact Conn.trans (.ab (.refl l.a.toNat) hl) ih
def labelled (ls : List Link) (k : Nat) (g : List Int) : Prop := ∀ i, i < k → ∃ m : Nat, gv g i = m ∧ m < k ∧ Conn ls m i
theorem foldG_lab {L : List Link} : ∀ {ls : List Link} {g : List Int}, (∀ l ∈ ls, l ∈ L) → inK g.length ls → labelled L g.length g → labelled L g.length (ls.foldl relaxG g)
  | [], _, _, _, h => h
  | l :: r, g, hs, h, hg => by
    obtain ⟨ha, hb, _⟩ := h l (List.mem_cons_self ..)
    have hl := hs l (List.mem_cons_self ..)
    have := foldG_lab (L := L) (ls := r) (g := relaxG g l) (fun x hx => hs x (List.mem_cons_of_mem _ hx)) (by rw [relaxG_len]; exact fun x hx => h x (List.mem_cons_of_mem _ hx)) (by
      rw [relaxG_len]
      intro i hi
      rw [relaxG_at ha hb]
      split
      · rename_i hj
        obtain ⟨m1, e1, k1, c1⟩ := hg _ ha
        obtain ⟨m2, e2, k2, c2⟩ := hg _ hb
        rw [e1, e2]
        rcases Int.le_total (m1 : Int) m2 with hle | hle
        · refine ⟨m1, by omega, k1, ?_⟩
          rcases hj with rfl | rfl
          · exact c1
          · exact .ab c1 hl
        · refine ⟨m2, by omega, k2, ?_⟩
          rcases hj with rfl | rfl
          · exact .ba c2 hl
          · exact c2
      · exact hg i hi)
    rw [relaxG_len] at this
    exact this
theorem least_of (P : Nat → Prop) : ∀ n, P n → ∃ m, P m ∧ ∀ j, P j → m ≤ j := fun n => by
  induction n using Nat.strongRecOn with
  | ind n ih =>
    intro h
    by_cases hl : ∃ j, j < n ∧ P j
    · obtain ⟨j, hj, hp⟩ := hl; exact ih j hj hp
    · exact ⟨n, h, fun j hj => by
        rcases Nat.lt_or_ge j n with hlt | hge
        · exact absurd ⟨j, hlt, hj⟩ hl
        · exact hge⟩
theorem countP_lt {α : Type} {p q : α → Bool} : ∀ {l : List α}, (∀ x ∈ l, p x = true → q x = true) → (∃ x ∈ l, p x = false ∧ q x = true) → l.countP p < l.countP q
  | [], _, h => by obtain ⟨x, hx, _⟩ := h; cases hx
  | a :: r, h, h2 => by
    have hr : r.countP p ≤ r.countP q := List.countP_mono_left fun x hx => h x (List.mem_cons_of_mem _ hx)
    obtain ⟨x, hx, hp, hq⟩ := h2
    rw [List.countP_cons, List.countP_cons]
    rcases List.mem_cons.1 hx with rfl | hx
    · rw [hp, hq]; simp; omega
    · have := countP_lt (fun x hx => h x (List.mem_cons_of_mem _ hx)) ⟨x, hx, hp, hq⟩
      have ha := h a (List.mem_cons_self ..)
      by_cases hpa : p a = true
      · rw [hpa, ha hpa]; simp; omega
      · rw [Bool.eq_false_iff.2 hpa]; simp; omega
section
variable {ls : List Link} {k : Nat} {g : List Int} (hlen : g.length = k) (hK : inK k ls) (hg : labelled ls k g)
include hlen hK hg
theorem rounds_lab : ∀ t, labelled ls k (roundsG ls g t)
  | 0 => hg
  | t + 1 => by
    have := foldG_lab (L := ls) (ls := ls) (g := roundsG ls g t) (fun _ h => h) (by rw [roundsG_len, hlen]; exact hK) (by rw [roundsG_len, hlen]; exact rounds_lab t)
    rw [roundsG_len, hlen] at this
    exact this
theorem rounds_count {m : Nat} (hm : m < k) (h0 : gv g m = m) (hmin : ∀ j, Conn ls m j → m ≤ j) : ∀ t,
    (∀ j, j < k → Conn ls m j → gv (roundsG ls g t) j = m) ∨ t + 1 ≤ (List.range k).countP fun j => decide (gv (roundsG ls g t) j = m)
  | 0 => by
    refine .inr ?_
    have : 0 < (List.range k).countP fun j => decide (gv (roundsG ls g 0) j = m) := List.countP_pos_iff.2 ⟨m, List.mem_range.2 hm, decide_eq_true h0⟩
    omega
  | t + 1 => by
    have hle := foldG_le (ls := ls) (g := roundsG ls g t) (by rw [roundsG_len, hlen]; exact hK)
    have hl0 := rounds_lab hlen hK hg t
    have hl := rounds_lab hlen hK hg (t + 1)
    have hlow : ∀ j, j < k → gv (roundsG ls g t) j = m → gv (roundsG ls g (t + 1)) j = m := fun j hj he => by
      obtain ⟨m1, e1, _, c1⟩ := hl j hj
      obtain ⟨m2, e2, _, c2⟩ := hl0 j hj
      have h1 : gv (roundsG ls g (t + 1)) j ≤ gv (roundsG ls g t) j := hle.1 j
      have : m2 = m := by omega
      subst this
      have := hmin m1 (c2.trans c1.symm)
      omega
    have hstep : ∀ a b, a < k → b < k → Conn ls a b → gv (roundsG ls g (t + 1)) b ≤ gv (roundsG ls g t) a → gv (roundsG ls g t) a = m → gv (roundsG ls g (t + 1)) b = m := fun a b ha hb hc h1 he => by
      obtain ⟨m1, e1, _, c1⟩ := hl b hb
      obtain ⟨m2, e2, _, c2⟩ := hl0 a ha
      have : m2 = m := by omega
      subst this
      have := hmin m1 ((c2.trans hc).trans c1.symm)
      omega
    rcases rounds_count hm h0 hmin t with hc | hc
    · refine .inl fun j hj hcn => hlow j hj (hc j hj hcn)
    · by_cases hcl : ∀ l ∈ ls, gv (roundsG ls g t) l.a.toNat = m ↔ gv (roundsG ls g t) l.b.toNat = m
      · refine .inl fun j hj hcn => hlow j hj ?_
        have hmm : gv (roundsG ls g t) m = m := by
          obtain ⟨m1, e1, _, c1⟩ := hl0 m hm
          have := hmin m1 c1.symm
          have h1 : gv (roundsG ls g t) m ≤ gv g m := by
            clear hc hcl hlow hstep hl hle hl0 e1
            induction t with
            | zero => exact Int.le_refl _
            | succ t ih => exact Int.le_trans ((foldG_le (ls := ls) (g := roundsG ls g t) (by rw [roundsG_len, hlen]; exact hK)).1 m) ih
          omega
        clear hj
        induction hcn with
        | refl => exact hmm
        | ab _ hx ih => exact (hcl _ hx).1 ih
        | ba _ hx ih => exact (hcl _ hx).2 ih
      · refine .inr ?_
        have ⟨l, hx, hne⟩ : ∃ l, l ∈ ls ∧ ¬ (gv (roundsG ls g t) l.a.toNat = m ↔ gv (roundsG ls g t) l.b.toNat = m) := Classical.byContradiction fun hn => hcl fun l hl => Classical.byContradiction fun hne => hn ⟨l, hl, hne⟩
        obtain ⟨ha, hb, _⟩ := hK l hx
        obtain ⟨k1, k2⟩ := hle.2 l hx
        have hlt := countP_lt (p := fun j => decide (gv (roundsG ls g t) j = m)) (q := fun j => decide (gv (roundsG ls g (t + 1)) j = m)) (l := List.range k)
          (fun x hx he => decide_eq_true (hlow x (List.mem_range.1 hx) (of_decide_eq_true he))) (by
            by_cases ha' : gv (roundsG ls g t) l.a.toNat = m
            · have hb' : ¬ gv (roundsG ls g t) l.b.toNat = m := fun hb' => hne ⟨fun _ => hb', fun _ => ha'⟩
              exact ⟨_, List.mem_range.2 hb, decide_eq_false hb', decide_eq_true (hstep _ _ ha hb (.ab (.refl _) hx) k2 ha')⟩
            · have hb' : gv (roundsG ls g t) l.b.toNat = m := Classical.byContradiction fun hb' => hne ⟨fun h => absurd h ha', fun h => absurd h hb'⟩
              exact ⟨_, List.mem_range.2 ha, decide_eq_false ha', decide_eq_true (hstep _ _ hb ha (.ba (.refl _) hx) k1 hb')⟩)
        omega
end
theorem labels_fin {ls : List Link} {k : Nat} {g : List Int} (hlen : g.length = k) (hK : inK k ls) (h0 : ∀ i, i < k → gv g i = i) {i j : Nat} (hi : i < k) (hj : j < k) : gv (roundsG ls g k) i = gv (roundsG ls g k) j ↔ Conn ls i j := by
  have hg : labelled ls k g := fun i hi => ⟨i, h0 i hi, hi, .refl i⟩
  have key : ∀ i, i < k → ∃ m, Conn ls m i ∧ ∀ j, j < k → Conn ls m j → gv (roundsG ls g k) j = m := fun i hi => by
    obtain ⟨m, hm, hmin⟩ := least_of (fun m => Conn ls i m) i (.refl i)
    have hmi := hmin i (.refl i)
    have hmk : m < k := by omega
    refine ⟨m, hm.symm, ?_⟩
    rcases rounds_count hlen hK hg hmk (h0 m hmk) (fun j hj => hmin j (hm.trans hj)) k with hc | hc
    · exact hc
    · exfalso
      have := List.countP_le_length (p := fun j => decide (gv (roundsG ls g k) j = m)) (l := List.range k)
      rw [List.length_range] at this
      omega
  obtain ⟨m, hm, hall⟩ := key i hi
  constructor
  · intro he
    obtain ⟨m1, e1, _, c1⟩ := rounds_lab hlen hK hg k j hj
    have := hall i hi hm
    have : m1 = m := by omega
    subst this
    exact hm.symm.trans c1
  · intro hc
    rw [hall i hi hm, hall j hj (hm.trans hc)]
end Go.Proofs.Ytkppkgahdoglpaa
