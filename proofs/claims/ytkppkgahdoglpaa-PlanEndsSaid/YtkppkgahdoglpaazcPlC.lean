/- How bridges come to stand, out of their identities, ends and ports alone: as one computes it. -/
import Derived.Test.YtkppkgahdoglpaazcPlX
namespace Go.Proofs.Ytkppkgahdoglpaa
def sF (n : Net) (tree : Int) (i : Nat) : Vec := sayN n tree (n.bridges.length + 1) i
def pF (n : Net) (tree : Int) (i : Nat) : Int := (chN n tree n.bridges.length i).port
def roleF (n : Net) (tree : Int) (i : Nat) (p : Int) : Int :=
  if (endsOf n i).any (fun e => decide (e.port = p)) then roleOf (sF n tree i) (pF n tree i) p (offersOf (endsOf n i) (saysN n tree (n.bridges.length + 1))) else 0
theorem place_eq {n : Net} {tree : Int} {i : Nat} (hi : i < n.bridges.length) : placeOf n tree i = ⟨sF n tree i, pF n tree i, portsOf n.links i, (portsOf n.links i).map (roleF n tree i)⟩ := by
  have hb := List.getElem?_eq_getElem hi
  have hp : ((rootN n tree)[i]?).getD 0 = pF n tree i := by
    unfold rootN pF chN
    simp [hi, nextS, idN_of hb]
  unfold placeOf
  simp only [hp]
  rfl
theorem plan_get {n : Net} {tree : Int} {i : Nat} (hi : i < n.bridges.length) : (planF n tree)[i]? = some ⟨sF n tree i, pF n tree i, portsOf n.links i, (portsOf n.links i).map (roleF n tree i)⟩ := by
  unfold planF
  simp [hi, place_eq hi]
theorem plan_len (n : Net) (tree : Int) : (planF n tree).length = n.bridges.length := by simp [planF]
theorem sF_ids {n : Net} {tree : Int} {i : Nat} (hi : i < n.bridges.length) : (sF n tree i).bridge = idN n tree i ∧ (sF n tree i).port = 0 := sayN_ids hi
section
variable {n : Net} (h : n.good) (tree : Int)
include h
theorem fin_same {i : Nat} (hi : i < n.bridges.length) : (sayN n tree n.bridges.length i).root = (sF n tree i).root ∧ (sayN n tree n.bridges.length i).cost = (sF n tree i).cost := by
  have := round_still h tree (t := n.bridges.length) (by omega) (by have := h.nb; omega) hi
  exact ⟨this.1.symm, this.2.symm⟩
theorem fin_cost {i : Nat} (hi : i < n.bridges.length) : 0 ≤ (sF n tree i).cost ∧ (sF n tree i).cost ≤ 2600000 := by
  have := cost_le h tree (n.bridges.length + 1) i hi
  have := h.nb
  unfold sF; omega
theorem fin_at {i : Nat} (hi : i < n.bridges.length) :
    ((sF n tree i).root = idN n tree i ∧ (sF n tree i).cost = 0 ∧ pF n tree i = -1 ∧ ∀ e, adjN n i e → idN n tree i ≤ (sF n tree e.other.toNat).root) ∨
    ∃ e, adjN n i e ∧ (sF n tree i).root = (sF n tree e.other.toNat).root ∧ (sF n tree i).cost = (sF n tree e.other.toNat).cost + e.cost ∧ pF n tree i = e.port ∧ (sF n tree e.other.toNat).root < idN n tree i ∧
      ∀ e', adjN n i e' → (sF n tree e'.other.toNat).root < idN n tree i →
        Vec.le2 ⟨(sF n tree e.other.toNat).root, (sF n tree e.other.toNat).cost + e.cost, idN n tree e.other.toNat, e.oport⟩ e.port ⟨(sF n tree e'.other.toNat).root, (sF n tree e'.other.toNat).cost + e'.cost, idN n tree e'.other.toNat, e'.oport⟩ e'.port := by
  have hnb := h.nb
  rcases round_at h tree (t := n.bridges.length) (by omega) hi with ⟨h1, h2, h3, h4⟩ | ⟨e, he, h1, h2, h3, h4, h5⟩
  · refine .inl ⟨h1, h2, h3, fun e he => ?_⟩
    rw [← (fin_same h tree (adj_ok h he).2.2.1).1]; exact h4 e he
  · have hs := fin_same h tree (adj_ok h he).2.2.1
    rw [hs.1] at h1 h4
    rw [hs.2] at h2
    refine .inr ⟨e, he, h1, h2, h3, h4, fun e' he' hr => ?_⟩
    have hs' := fin_same h tree (adj_ok h he').2.2.1
    have := h5 e' he' (by rw [hs'.1]; exact hr)
    rw [hs.1, hs.2, hs'.1, hs'.2] at this
    exact this
theorem fin_le {i : Nat} (hi : i < n.bridges.length) {e : End} (he : adjN n i e) : leL (sF n tree i).root (sF n tree i).cost (sF n tree e.other.toNat).root ((sF n tree e.other.toNat).cost + e.cost) := by
  have hs := fin_same h tree (adj_ok h he).2.2.1
  have := round_le h tree (t := n.bridges.length) (by have := h.nb; omega) hi he
  rw [hs.1, hs.2] at this
  exact this
theorem fin_root {i : Nat} (hi : i < n.bridges.length) {e : End} (he : adjN n i e) : (sF n tree i).root = (sF n tree e.other.toNat).root := by
  have h1 := fin_le h tree hi he
  have hk := adj_ok h he
  have h2 := fin_le h tree hk.2.2.1 (adj_sym h he)
  rw [show ((i : Nat) : Int).toNat = i from rfl] at h2
  unfold leL at *
  omega
theorem roleF_end {i : Nat} (hi : i < n.bridges.length) {e : End} (he : adjN n i e) :
    roleF n tree i e.port = if e.port = pF n tree i then 1 else if (sF n tree e.other.toNat).cost < (sF n tree i).cost ∨ ((sF n tree e.other.toNat).cost = (sF n tree i).cost ∧ idN n tree e.other.toNat < idN n tree i) then 3 else 2 := by
  have hk := adj_ok h he
  have hany : (endsOf n i).any (fun e' => decide (e'.port = e.port)) = true := List.any_eq_true.2 ⟨e, mem_endsOf.2 he, decide_eq_true rfl⟩
  have hr := fin_root h tree hi he
  have hne : idN n tree e.other.toNat ≠ idN n tree i := fun hx => by
    have := idN_inj h tree hk.2.2.1 hi hx
    have := hk.2.2.2.2; have := hk.2.2.2.1
    omega
  unfold roleF roleOf
  rw [if_pos hany]
  by_cases hp : e.port = pF n tree i
  · rw [if_pos hp, if_pos hp]
  · rw [if_neg hp, if_neg hp]
    have hb : ((offersOf (endsOf n i) (saysN n tree (n.bridges.length + 1))).any (Offer.blocks { sF n tree i with port := e.port } e.port) = true) ↔ ((sF n tree e.other.toNat).cost < (sF n tree i).cost ∨ ((sF n tree e.other.toNat).cost = (sF n tree i).cost ∧ idN n tree e.other.toNat < idN n tree i)) := by
      have hoe := offer_eq (tree := tree) (t := n.bridges.length + 1) h he
      have hids := (sF_ids (tree := tree) hi).1
      have key : Offer.blocks { sF n tree i with port := e.port } e.port (offerOf (saysN n tree (n.bridges.length + 1)) e) = true ↔ ((sF n tree e.other.toNat).cost < (sF n tree i).cost ∨ ((sF n tree e.other.toNat).cost = (sF n tree i).cost ∧ idN n tree e.other.toNat < idN n tree i)) := by
        rw [hoe]
        unfold Offer.blocks
        simp only [Bool.and_eq_true, decide_eq_true_eq, Vec.cmp_lt, hids]
        refine ⟨fun hx => ?_, fun hx => ⟨⟨⟨by first | trivial | rfl, by omega⟩, by omega⟩, ?_⟩⟩
        · have h4 : (sF n tree e.other.toNat).root < (sF n tree i).root ∨ (sF n tree e.other.toNat).root = (sF n tree i).root ∧ ((sF n tree e.other.toNat).cost < (sF n tree i).cost ∨ (sF n tree e.other.toNat).cost = (sF n tree i).cost ∧ (idN n tree e.other.toNat < idN n tree i ∨ idN n tree e.other.toNat = idN n tree i ∧ e.oport < e.port)) := hx.2
          omega
        · show (sF n tree e.other.toNat).root < (sF n tree i).root ∨ (sF n tree e.other.toNat).root = (sF n tree i).root ∧ ((sF n tree e.other.toNat).cost < (sF n tree i).cost ∨ (sF n tree e.other.toNat).cost = (sF n tree i).cost ∧ (idN n tree e.other.toNat < idN n tree i ∨ idN n tree e.other.toNat = idN n tree i ∧ e.oport < e.port))
          omega
      rw [List.any_eq_true]
      constructor
      · rintro ⟨o, ho, hbl⟩
        obtain ⟨e', he', rfl⟩ := offer_mem.1 ho
        have hpe : e'.port = e.port := by
          have := hbl
          rw [offer_eq h he'] at this
          unfold Offer.blocks at this
          simp only [Bool.and_eq_true, decide_eq_true_eq] at this
          exact this.1.1.1
        have : e' = e := h.end_one he' he hpe
        subst this
        exact key.1 hbl
      · intro hx
        exact ⟨_, offer_mem.2 ⟨e, he, rfl⟩, key.2 hx⟩
    by_cases hx : (sF n tree e.other.toNat).cost < (sF n tree i).cost ∨ ((sF n tree e.other.toNat).cost = (sF n tree i).cost ∧ idN n tree e.other.toNat < idN n tree i)
    · rw [if_pos hx, if_pos (hb.2 hx)]
    · rw [if_neg hx, if_neg (fun h' => hx (hb.1 h'))]
omit h in
theorem roleF_none {i : Nat} {p : Int} (hp : ∀ e, adjN n i e → e.port ≠ p) : roleF n tree i p = 0 := by
  unfold roleF
  rw [if_neg]
  intro ha
  obtain ⟨e, he, hx⟩ := List.any_eq_true.1 ha
  exact hp e (mem_endsOf.1 he) (of_decide_eq_true hx)
theorem role_two {i : Nat} (hi : i < n.bridges.length) {e : End} (he : adjN n i e) :
    (roleF n tree i e.port = 1 ∧ roleF n tree e.other.toNat e.oport = 2 ∧ pF n tree i = e.port ∧ pF n tree e.other.toNat ≠ e.oport ∧ (sF n tree i).cost = (sF n tree e.other.toNat).cost + e.cost) ∨
    (roleF n tree i e.port = 2 ∧ roleF n tree e.other.toNat e.oport = 1 ∧ pF n tree e.other.toNat = e.oport ∧ pF n tree i ≠ e.port ∧ (sF n tree e.other.toNat).cost = (sF n tree i).cost + e.cost) ∨
    (roleF n tree i e.port = 2 ∧ roleF n tree e.other.toNat e.oport = 3 ∧ pF n tree i ≠ e.port ∧ pF n tree e.other.toNat ≠ e.oport) ∨
    (roleF n tree i e.port = 3 ∧ roleF n tree e.other.toNat e.oport = 2 ∧ pF n tree i ≠ e.port ∧ pF n tree e.other.toNat ≠ e.oport) := by
  have hk := adj_ok h he
  have hs := adj_sym h he
  have r1 := roleF_end h tree hi he
  have r2 := roleF_end h tree hk.2.2.1 hs
  simp only [Int.toNat_natCast] at r2
  have hne : idN n tree e.other.toNat ≠ idN n tree i := fun hx => by
    have := idN_inj h tree hk.2.2.1 hi hx
    have := hk.2.2.2.2; have := hk.2.2.2.1
    omega
  have p1 : e.port = pF n tree i → (sF n tree i).cost = (sF n tree e.other.toNat).cost + e.cost := fun hp => by
    rcases fin_at h tree hi with ⟨_, _, h3, _⟩ | ⟨e', he', _, h2, h3, _⟩
    · omega
    · have : e' = e := h.end_one he' he (by omega)
      subst this; exact h2
  have p2 : e.oport = pF n tree e.other.toNat → (sF n tree e.other.toNat).cost = (sF n tree i).cost + e.cost := fun hp => by
    rcases fin_at h tree hk.2.2.1 with ⟨_, _, h3, _⟩ | ⟨e', he', _, h2, h3, _⟩
    · have := (adj_ok h hs).1; simp only at this; omega
    · have : e' = ⟨e.oport, e.cost, i, e.port⟩ := h.end_one he' hs (by rw [← h3, ← hp])
      subst this; exact h2
  by_cases hp : e.port = pF n tree i
  · have c1 := p1 hp
    have hq : ¬ e.oport = pF n tree e.other.toNat := fun hq => by have := p2 hq; omega
    rw [if_pos hp] at r1
    rw [if_neg hq, if_neg (by omega)] at r2
    exact .inl ⟨r1, r2, hp.symm, fun e => hq e.symm, c1⟩
  · rw [if_neg hp] at r1
    by_cases hq : e.oport = pF n tree e.other.toNat
    · have c2 := p2 hq
      rw [if_pos hq] at r2
      rw [if_neg (by omega)] at r1
      exact .inr (.inl ⟨r1, r2, hq.symm, fun e => hp e.symm, c2⟩)
    · rw [if_neg hq] at r2
      by_cases hx : (sF n tree e.other.toNat).cost < (sF n tree i).cost ∨ ((sF n tree e.other.toNat).cost = (sF n tree i).cost ∧ idN n tree e.other.toNat < idN n tree i)
      · rw [if_pos hx] at r1
        rw [if_neg (by omega)] at r2
        exact .inr (.inr (.inr ⟨r1, r2, fun e => hp e.symm, fun e => hq e.symm⟩))
      · rw [if_neg hx] at r1
        rw [if_pos (by omega)] at r2
        exact .inr (.inr (.inl ⟨r1, r2, fun e => hp e.symm, fun e => hq e.symm⟩))
end
theorem adj_of_live {n : Net} {l : Link} (h : n.good) (hl : l ∈ liveL n) : adjN n l.a.toNat ⟨l.pa, l.cost, l.b, l.pb⟩ ∧ adjN n l.b.toNat ⟨l.pb, l.cost, l.a, l.pa⟩ := by
  have hk := h.lk l (live_sub hl)
  have := hk.a0; have := hk.b0
  unfold adjN rawE endAt
  refine ⟨List.mem_flatMap.2 ⟨l, hl, List.mem_append.2 (.inl ?_)⟩, List.mem_flatMap.2 ⟨l, hl, List.mem_append.2 (.inr ?_)⟩⟩
  · rw [if_pos (by omega)]; exact List.mem_singleton.2 rfl
  · rw [if_pos (by omega)]; exact List.mem_singleton.2 rfl
theorem port_mem {n : Net} {l : Link} (h : n.good) (hl : l ∈ n.links) : l.pa ∈ portsOf n.links l.a ∧ l.pb ∈ portsOf n.links l.b := by
  rw [portsOf_eq, portsOf_eq]
  unfold sortI rawP portAt
  rw [List.mem_mergeSort, List.mem_mergeSort]
  refine ⟨List.mem_flatMap.2 ⟨l, hl, List.mem_append.2 (.inl ?_)⟩, List.mem_flatMap.2 ⟨l, hl, List.mem_append.2 (.inr ?_)⟩⟩
  · rw [if_pos rfl]; exact List.mem_singleton.2 rfl
  · rw [if_pos rfl]; exact List.mem_singleton.2 rfl
end Go.Proofs.Ytkppkgahdoglpaa
namespace Go.Proofs.Ytkppkgahdoglpaa
def roundC (ids : List Int) (E : List (List End)) (says : List Vec) : List Vec := (ids.zip E).map fun p => (chooseS p.1 (offersOf p.2 says)).says p.1
def saysC (ids : List Int) (E : List (List End)) : Nat → List Vec
  | 0 => ids.map fun i => ⟨i, 0, i, 0⟩
  | t + 1 => roundC ids E (saysC ids E t)
def placeC (id : Int) (ends : List End) (ps : List Int) (v : Vec) (s0 s1 : List Vec) : Place := ⟨v, (chooseS id (offersOf ends s0)).port, ps, rolesP ends v (chooseS id (offersOf ends s0)).port (offersOf ends s1) ps⟩
def planC (ids : List Int) (E : List (List End)) (P : List (List Int)) : List Place :=
  let s0 := saysC ids E ids.length
  let s1 := roundC ids E s0
  (ids.zip (E.zip (P.zip s1))).map fun p => placeC p.1 p.2.1 p.2.2.1 p.2.2.2 s0 s1
theorem saysN_C {n : Net} {tree : Int} {ids : List Int} {E : List (List End)} (hi : n.bridges.map (·.id tree) = ids) (hE : (List.range n.bridges.length).map (endsOf n) = E) : ∀ t, saysN n tree t = saysC ids E t
  | 0 => by rw [saysN, saysC, ← hi, says0, List.map_map]; rfl
  | t + 1 => by
    rw [saysN, saysC, ← saysN_C hi hE t, ← hi, ← hE]
    unfold round1 roundC
    apply List.ext_getElem?
    intro i
    by_cases h : i < n.bridges.length
    · have hb := List.getElem?_eq_getElem h
      simp [h, saysOf, nextS, hb, List.getElem?_zip_eq_some]
    · rw [List.getElem?_eq_none (by simp; omega), List.getElem?_eq_none (by simp; omega)]
theorem planF_C {n : Net} {tree : Int} {ids : List Int} {E : List (List End)} {P : List (List Int)} (hi : n.bridges.map (·.id tree) = ids) (hE : (List.range n.bridges.length).map (endsOf n) = E) (hP : (List.range n.bridges.length).map (fun i => portsOf n.links (i : Nat)) = P) : planF n tree = planC ids E P := by
  have hl : ids.length = n.bridges.length := by rw [← hi]; simp
  have s0 := saysN_C hi hE ids.length
  have s1 : saysN n tree (n.bridges.length + 1) = roundC ids E (saysC ids E ids.length) := by rw [saysN_C hi hE, saysC, hl]
  unfold planC
  simp only
  rw [← s1, ← s0, ← hi, ← hE, ← hP]
  apply List.ext_getElem?
  intro i
  by_cases h : i < n.bridges.length
  · rw [plan_get h]
    have hs := sayN_get (tree := tree) (t := n.bridges.length + 1) h
    have hb := List.getElem?_eq_getElem h
    have hz : ((n.bridges.map (·.id tree)).zip (((List.range n.bridges.length).map (endsOf n)).zip (((List.range n.bridges.length).map (fun i => portsOf n.links (i : Nat))).zip (saysN n tree (n.bridges.length + 1)))))[i]? = some (idN n tree i, endsOf n i, portsOf n.links i, sF n tree i) := by
      rw [List.getElem?_zip_eq_some]
      refine ⟨by simp [h, idN_of hb], ?_⟩
      rw [List.getElem?_zip_eq_some]
      refine ⟨by simp [h], ?_⟩
      rw [List.getElem?_zip_eq_some]
      exact ⟨by simp [h], hs⟩
    rw [List.getElem?_map, hz]
    simp only [Option.map_some, placeC, Option.some.injEq, Place.mk.injEq, true_and, List.length_map]
    exact ⟨rfl, rfl⟩
  · rw [List.getElem?_eq_none (by rw [plan_len]; omega), List.getElem?_eq_none (by simp; omega)]
def insE (e : End) : List End → List End
  | [] => [e]
  | x :: r => if e.port ≤ x.port then e :: x :: r else x :: insE e r
def isoE : List End → List End
  | [] => []
  | e :: r => insE e (isoE r)
def insP (e : Int) : List Int → List Int
  | [] => [e]
  | x :: r => if e ≤ x then e :: x :: r else x :: insP e r
def isoP : List Int → List Int
  | [] => []
  | e :: r => insP e (isoP r)
theorem insE_perm (e : End) : ∀ l, (insE e l).Perm (e :: l)
  | [] => .refl _
  | x :: r => by
    unfold insE
    split
    · exact .refl _
    · exact ((insE_perm e r).cons x).trans (.swap e x r)
theorem isoE_perm : ∀ l, (isoE l).Perm l
  | [] => .refl _
  | e :: r => (insE_perm e _).trans ((isoE_perm r).cons e)
theorem insE_sorted {e : End} : ∀ {l : List End}, l.Pairwise (fun a b => a.port ≤ b.port) → (insE e l).Pairwise (fun a b => a.port ≤ b.port)
  | [], _ => by simp [insE]
  | x :: r, h => by
    unfold insE
    obtain ⟨h1, h2⟩ := List.pairwise_cons.1 h
    split
    · rename_i hx
      refine List.pairwise_cons.2 ⟨fun y hy => ?_, h⟩
      rcases List.mem_cons.1 hy with rfl | hy
      · exact hx
      · exact Int.le_trans hx (h1 y hy)
    · rename_i hx
      refine List.pairwise_cons.2 ⟨fun y hy => ?_, insE_sorted h2⟩
      rcases List.mem_cons.1 ((insE_perm e r).mem_iff.1 hy) with rfl | hy
      · omega
      · exact h1 y hy
theorem isoE_sorted : ∀ l, (isoE l).Pairwise (fun a b => a.port ≤ b.port)
  | [] => .nil
  | e :: r => insE_sorted (isoE_sorted r)
theorem sortE_iso {l : List End} (h : ∀ x ∈ l, ∀ y ∈ l, x.port = y.port → x = y) : sortE l = isoE l := by
  unfold sortE
  refine List.Perm.eq_of_pairwise (le := fun a b : End => a.port ≤ b.port) (fun a b ha hb h1 h2 => ?_) ?_ (isoE_sorted l) ((List.mergeSort_perm l _).trans (isoE_perm l).symm)
  · exact h a (List.mem_mergeSort.1 ha) b ((isoE_perm l).mem_iff.1 hb) (by omega)
  · have := List.pairwise_mergeSort (le := fun x y : End => decide (x.port ≤ y.port)) (fun a b c h1 h2 => by simp at *; omega) (fun a b => by simp; omega) l
    exact this.imp fun h => by simpa using h
theorem insP_perm (e : Int) : ∀ l, (insP e l).Perm (e :: l)
  | [] => .refl _
  | x :: r => by
    unfold insP
    split
    · exact .refl _
    · exact ((insP_perm e r).cons x).trans (.swap e x r)
theorem isoP_perm : ∀ l, (isoP l).Perm l
  | [] => .refl _
  | e :: r => (insP_perm e _).trans ((isoP_perm r).cons e)
theorem insP_sorted {e : Int} : ∀ {l : List Int}, l.Pairwise (· ≤ ·) → (insP e l).Pairwise (· ≤ ·)
  | [], _ => by simp [insP]
  | x :: r, h => by
    unfold insP
    obtain ⟨h1, h2⟩ := List.pairwise_cons.1 h
    split
    · rename_i hx
      refine List.pairwise_cons.2 ⟨fun y hy => ?_, h⟩
      rcases List.mem_cons.1 hy with rfl | hy
      · exact hx
      · exact Int.le_trans hx (h1 y hy)
    · rename_i hx
      refine List.pairwise_cons.2 ⟨fun y hy => ?_, insP_sorted h2⟩
      rcases List.mem_cons.1 ((insP_perm e r).mem_iff.1 hy) with rfl | hy
      · omega
      · exact h1 y hy
theorem isoP_sorted : ∀ l, (isoP l).Pairwise (· ≤ ·)
  | [] => .nil
  | e :: r => insP_sorted (isoP_sorted r)
theorem sortI_iso (l : List Int) : sortI l = isoP l := by
  unfold sortI
  refine List.Perm.eq_of_pairwise (le := fun a b : Int => a ≤ b) (fun a b _ _ h1 h2 => by omega) ?_ (isoP_sorted l) ((List.mergeSort_perm l _).trans (isoP_perm l).symm)
  have := List.pairwise_mergeSort (le := fun x y : Int => decide (x ≤ y)) (fun a b c h1 h2 => by simp at *; omega) (fun a b => by simp; omega) l
  exact this.imp fun h => by simpa using h
theorem liveL_one {n : Net} (r : Region) (hr : ∀ b ∈ n.bridges, b.region = r) (hk : ∀ l ∈ n.links, l.a.toNat < n.bridges.length ∧ l.b.toNat < n.bridges.length) : liveL n = n.links.filter (·.up) := by
  unfold liveL
  apply List.filter_congr
  intro l hl
  obtain ⟨h1, h2⟩ := hk l hl
  unfold liveB
  have e : (idsR n.bridges)[l.a.toNat]? = (idsR n.bridges)[l.b.toNat]? := by
    unfold idsR
    rw [List.getElem?_map, List.getElem?_map, List.getElem?_eq_getElem h1, List.getElem?_eq_getElem h2, Option.map_some, Option.map_some, hr _ (List.getElem_mem h1), hr _ (List.getElem_mem h2)]
  rw [decide_eq_true e, Bool.and_true]
theorem ends_iso {n : Net} (h : n.good) (i : Nat) : endsOf n i = isoE (rawE (liveL n) i) := sortE_iso fun _ hx _ hy hp => h.end_one hx hy hp
theorem ports_iso (ls : List Link) (i : Int) : portsOf ls i = isoP (rawP ls i) := by rw [portsOf_eq]; exact sortI_iso _
end Go.Proofs.Ytkppkgahdoglpaa
