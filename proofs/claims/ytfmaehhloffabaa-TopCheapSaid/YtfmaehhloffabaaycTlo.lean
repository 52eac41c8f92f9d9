/- Talk: what is done with a net leaves it a right one; what On and Play answer: mathematics. -/
import Derived.Test.YtfmaehhloffabaaycTlA
import Derived.Test.YtfmaehhloffabaaycChM
namespace Go.Proofs.Ytfmaehhloffabaa
def tkN (n : Net) (tree : Int) (l : List Mind) : Nat → List Mind
  | 0 => l
  | k + 1 => tickT n tree (tkN n tree l k)
theorem tkN_len (n : Net) (tree : Int) (l : List Mind) : ∀ k, (tkN n tree l k).length = l.length
  | 0 => rfl
  | k + 1 => by
    rw [tkN]; unfold tickT
    rw [List.length_map, List.length_range, tkN_len n tree l k]
theorem ticksN_get (n : Net) (t : List (List Mind)) (j : Nat) : ∀ k, (ticksN n t k)[j]? = (t[j]?).map fun l => tkN n j l k
  | 0 => by
    show t[j]? = _
    cases t[j]? <;> rfl
  | k + 1 => by
    rw [ticksN]
    unfold tickN
    have ih := ticksN_get n t j k
    rw [List.getElem?_map, ticks_len]
    by_cases hj : j < t.length
    · rw [List.getElem?_eq_getElem hj] at ih ⊢
      rw [List.getElem?_range hj]
      show some (tickT n j ((ticksN n t k)[j]?.getD [])) = _
      rw [ih]; rfl
    · rw [List.getElem?_eq_none (by simp; omega), List.getElem?_eq_none (by omega)]; rfl
def mAt (l : List Mind) (i : Nat) : Mind := (l[i]?).getD .zero
theorem mAt_get {l : List Mind} {i : Nat} (h : i < l.length) : l[i]? = some (mAt l i) := by unfold mAt; rw [List.getElem?_eq_getElem h]; rfl
theorem tkN_at {n : Net} {tree : Int} {l : List Mind} {k i : Nat} (hi : i < l.length) : mAt (tkN n tree l (k + 1)) i = mindOf n tree i (endsOf n i) (tkN n tree l k) := by
  unfold mAt
  rw [tkN]; unfold tickT
  rw [List.getElem?_map, List.getElem?_range (by rw [tkN_len]; exact hi)]; rfl
def wH (l : List Mind) (e : End) : Vec := ⟨(mAt l e.other.toNat).vec.root, (mAt l e.other.toNat).vec.cost + e.cost, (mAt l e.other.toNat).vec.bridge, e.oport⟩
structure CanH (id : Int) (l : List Mind) (e : End) : Prop where
  c0 : 0 ≤ (mAt l e.other.toNat).vec.cost
  c1 : (mAt l e.other.toNat).vec.cost + e.cost ≤ 1000000000
  a0 : 0 ≤ (mAt l e.other.toNat).age
  a1 : (mAt l e.other.toNat).age < 20
  r : (mAt l e.other.toNat).vec.root < id
theorem hearOf_eq (l : List Mind) (e : End) : hearOf l e = ⟨e.port, e.cost, (mAt l e.other.toNat).age, { (mAt l e.other.toNat).vec with port := e.oport }⟩ := rfl
theorem elig_hear {n : Net} (h : n.good) {l : List Mind} {i : Nat} {e : End} {id : Int} {w : Vec} (he : adjN n i e) : (hearOf l e).elig id w ↔ w = wH l e ∧ CanH id l e := by
  obtain ⟨hp, hc, _⟩ := adj_ok h he
  rw [hearOf_eq]
  unfold Offer.elig Vec.over
  dsimp only
  by_cases hq : e.cost < 0 ∨ maxCost < e.cost ∨ (mAt l e.other.toNat).vec.cost < 0 ∨ maxCost - e.cost < (mAt l e.other.toNat).vec.cost
  · rw [if_pos hq]
    constructor
    · rintro ⟨h1, _⟩; cases h1
    · rintro ⟨_, h1, h2, _⟩
      unfold maxCost at hq
      omega
  · rw [if_neg hq]
    unfold maxCost at hq
    constructor
    · rintro ⟨h1, h2, h3, h4, h5⟩
      injection h1 with h1
      subst h1
      exact ⟨rfl, by omega, by omega, h3, h4, h5⟩
    · rintro ⟨rfl, h1, h2, h3, h4, h5⟩
      exact ⟨rfl, by omega, h3, h4, h5⟩
theorem mind_cases {n : Net} (h : n.good) (tree : Int) (i : Nat) (l : List Mind) :
    ((mindOf n tree i (endsOf n i) l).rootPort = -1 ∧ (mindOf n tree i (endsOf n i) l).age = 0 ∧ (mindOf n tree i (endsOf n i) l).vec.root = idN n tree i ∧ (mindOf n tree i (endsOf n i) l).vec.cost = 0 ∧ ∀ e, adjN n i e → ¬ CanH (idN n tree i) l e) ∨
    ∃ e, adjN n i e ∧ CanH (idN n tree i) l e ∧ (mindOf n tree i (endsOf n i) l).rootPort = e.port ∧ (mindOf n tree i (endsOf n i) l).age = (mAt l e.other.toNat).age + 1 ∧ (mindOf n tree i (endsOf n i) l).vec.root = (mAt l e.other.toNat).vec.root ∧
      (mindOf n tree i (endsOf n i) l).vec.cost = (mAt l e.other.toNat).vec.cost + e.cost ∧ ∀ e', adjN n i e' → CanH (idN n tree i) l e' → (wH l e).le2 e.port (wH l e') e'.port := by
  have inv := choose_inv (idN n tree i) (hears (endsOf n i) l)
  have e1 : (mindOf n tree i (endsOf n i) l).rootPort = (chooseS (idN n tree i) (hears (endsOf n i) l)).port := rfl
  have e2 : (mindOf n tree i (endsOf n i) l).age = (chooseS (idN n tree i) (hears (endsOf n i) l)).age := rfl
  have e3 : (mindOf n tree i (endsOf n i) l).vec.root = (chooseS (idN n tree i) (hears (endsOf n i) l)).best.root := rfl
  have e4 : (mindOf n tree i (endsOf n i) l).vec.cost = (chooseS (idN n tree i) (hears (endsOf n i) l)).best.cost := rfl
  rw [e1, e2, e3, e4]
  clear e1 e2 e3 e4
  generalize chooseS (idN n tree i) (hears (endsOf n i) l) = c at inv
  have hin : ∀ e, adjN n i e → hearOf l e ∈ hears (endsOf n i) l := fun e he => List.mem_map_of_mem (mem_endsOf.2 he)
  by_cases hp : c.port < 0
  · refine .inl ?_
    have hc := inv.neg hp
    refine ⟨by rw [hc]; rfl, by rw [hc]; rfl, by rw [hc]; rfl, by rw [hc]; rfl, fun e he hq => ?_⟩
    have := (inv.min _ (hin e he) _ ((elig_hear h he).2 ⟨rfl, hq⟩)).1
    omega
  · refine .inr ?_
    obtain ⟨o, ho, hel, hpo, hag⟩ := inv.some (by omega)
    obtain ⟨e, he, rfl⟩ := List.mem_map.1 ho
    have he := mem_endsOf.1 he
    obtain ⟨hb, hq⟩ := (elig_hear h he).1 hel
    refine ⟨e, he, hq, hpo.symm, hag, by rw [hb]; rfl, by rw [hb]; rfl, fun e' he' hq' => ?_⟩
    have := (inv.min _ (hin e' he') _ ((elig_hear h he').2 ⟨rfl, hq'⟩)).2
    rw [hb, ← hpo] at this
    exact this
inductive RW (n : Net) (tree : Int) : Nat → Nat → Int → Int → Prop
  | own (i : Nat) : RW n tree 0 i (idN n tree i) 0
  | step {a i : Nat} {e : End} {r c : Int} (he : adjN n i e) (h : RW n tree a e.other.toNat r c) : RW n tree (a + 1) i r (c + e.cost)
section
variable {n : Net} (h : n.good) (tree : Int)
include h
theorem RW.low {a i : Nat} {r c : Int} (hw : RW n tree a i r c) : i < n.bridges.length → leL (sF n tree i).root (sF n tree i).cost r c ∧ 0 ≤ c ∧ c ≤ 200000 * a := by
  induction hw with
  | own i => exact fun hi => ⟨fin_own h tree hi, by omega, by omega⟩
  | step he _ ih =>
    intro hi
    have ho := adj_ok h he
    obtain ⟨h1, h2, h3⟩ := ih ho.2.2.1
    exact ⟨leL_trans (fin_le h tree hi he) (leL_add _ h1), by omega, by omega⟩
theorem live_tale {l : List Mind} (hl : l.length = n.bridges.length) : ∀ (a T i : Nat), i < n.bridges.length → a + 1 ≤ T → (mAt (tkN n tree l T) i).age = a →
    RW n tree a i (mAt (tkN n tree l T) i).vec.root (mAt (tkN n tree l T) i).vec.cost := by
  intro a
  induction a with
  | zero =>
    intro T i hi hT ha
    obtain ⟨k, rfl⟩ : ∃ k, T = k + 1 := ⟨T - 1, by omega⟩
    rw [tkN_at (by omega)] at ha ⊢
    rcases mind_cases h tree i (tkN n tree l k) with ⟨_, _, h3, h4, _⟩ | ⟨e, _, hq, _, h4, _⟩
    · rw [h3, h4]; exact .own i
    · have := hq.a0; omega
  | succ a ih =>
    intro T i hi hT ha
    obtain ⟨k, rfl⟩ : ∃ k, T = k + 1 := ⟨T - 1, by omega⟩
    rw [tkN_at (by omega)] at ha ⊢
    rcases mind_cases h tree i (tkN n tree l k) with ⟨_, h2, _⟩ | ⟨e, he, hq, _, h4, h5, h6, _⟩
    · omega
    · rw [h5, h6]
      exact .step he (ih k e.other.toNat (adj_ok h he).2.2.1 (by omega) (by omega))
theorem live_all {l : List Mind} (hl : l.length = n.bridges.length) {T i : Nat} (hi : i < n.bridges.length) (hT : 21 ≤ T) :
    RW n tree (mAt (tkN n tree l T) i).age.toNat i (mAt (tkN n tree l T) i).vec.root (mAt (tkN n tree l T) i).vec.cost ∧ 0 ≤ (mAt (tkN n tree l T) i).age ∧ (mAt (tkN n tree l T) i).age ≤ 20 ∧ (mAt (tkN n tree l T) i).vec.bridge = idN n tree i ∧ (mAt (tkN n tree l T) i).vec.port = 0 := by
  obtain ⟨k, rfl⟩ : ∃ k, T = k + 1 := ⟨T - 1, by omega⟩
  have hag : (mAt (tkN n tree l (k + 1)) i).aged := by rw [tkN_at (by omega)]; exact mindOf_aged ..
  have := hag.lo
  have := hag.hi
  exact ⟨live_tale h tree hl _ _ i hi (by omega) (by omega), hag.lo, hag.hi, by rw [tkN_at (by omega)]; rfl, by rw [tkN_at (by omega)]; rfl⟩
end
inductive Dep (n : Net) (tree : Int) : Nat → Nat → Prop
  | own {i : Nat} (hr : (sF n tree i).root = idN n tree i) (hc : (sF n tree i).cost = 0) (hp : pF n tree i = -1) : Dep n tree 0 i
  | step {d i : Nat} {e : End} (he : adjN n i e) (hr : (sF n tree i).root = (sF n tree e.other.toNat).root) (hc : (sF n tree i).cost = (sF n tree e.other.toNat).cost + e.cost) (hp : pF n tree i = e.port) (hlt : (sF n tree e.other.toNat).root < idN n tree i)
      (hm : ∀ e', adjN n i e' → (sF n tree e'.other.toNat).root < idN n tree i →
        Vec.le2 ⟨(sF n tree e.other.toNat).root, (sF n tree e.other.toNat).cost + e.cost, idN n tree e.other.toNat, e.oport⟩ e.port ⟨(sF n tree e'.other.toNat).root, (sF n tree e'.other.toNat).cost + e'.cost, idN n tree e'.other.toNat, e'.oport⟩ e'.port)
      (h : Dep n tree d e.other.toNat) : Dep n tree (d + 1) i
section
variable {n : Net} (h : n.good) (tree : Int)
include h
theorem dep_ex : ∀ (c : Nat) {i : Nat}, i < n.bridges.length → (sF n tree i).cost ≤ c → ∃ d, Dep n tree d i
  | c, i, hi, hc => by
    rcases fin_at h tree hi with ⟨h1, h2, h3, _⟩ | ⟨e, he, h1, h2, h3, h4, h5⟩
    · exact ⟨0, .own h1 h2 h3⟩
    · have ho := adj_ok h he
      have := fin_cost h tree ho.2.2.1
      match c, hc with
      | 0, hc => omega
      | c + 1, hc =>
        obtain ⟨d, hd⟩ := dep_ex c ho.2.2.1 (by omega)
        exact ⟨d + 1, .step he h1 h2 h3 h4 h5 hd⟩
theorem dep_chain {d i : Nat} (hd : Dep n tree d i) : i < n.bridges.length → ∃ f : Nat → Nat, f 0 = i ∧ (∀ s, s ≤ d → f s < n.bridges.length) ∧ ∀ s, s < d → (sF n tree (f (s + 1))).cost < (sF n tree (f s)).cost := by
  induction hd with
  | @own i _ _ _ => exact fun hi => ⟨fun _ => i, rfl, fun _ _ => hi, fun s hs => by omega⟩
  | @step d i e he hr hc hp hlt hm _ ih =>
    intro hi
    have ho := adj_ok h he
    obtain ⟨f, h0, h1, h2⟩ := ih ho.2.2.1
    refine ⟨fun s => if s = 0 then i else f (s - 1), rfl, fun s hs => ?_, fun s hs => ?_⟩
    · by_cases h3 : s = 0
      · simp only [h3, if_true]; exact hi
      · simp only [h3, if_false]; exact h1 _ (by omega)
    · by_cases h3 : s = 0
      · subst h3
        simp only [Nat.zero_add, Nat.sub_self, h0, if_true, if_neg (show ¬ (1 = 0) by omega)]
        omega
      · simp only [h3, if_false, if_neg (show ¬ (s + 1 = 0) by omega), Nat.add_sub_cancel]
        have := h2 (s - 1) (by omega)
        rw [show s - 1 + 1 = s by omega] at this
        exact this
theorem dep_lt {d i : Nat} (hd : Dep n tree d i) (hi : i < n.bridges.length) : d < n.bridges.length := by
  refine Classical.byContradiction fun hn => ?_
  obtain ⟨f, _, h1, h2⟩ := dep_chain h tree hd hi
  obtain ⟨a, b, hab, hb, he⟩ := pigeon n.bridges.length f (fun s hs => h1 s (by omega))
  have key : ∀ b, a < b → b ≤ d → (sF n tree (f b)).cost < (sF n tree (f a)).cost := fun b => by
    induction b with
    | zero => intro h; omega
    | succ b ih =>
      intro h3 h4
      have h5 := h2 b (by omega)
      by_cases h6 : a = b
      · subst h6; exact h5
      · have := ih (by omega) (by omega); omega
  have := key b hab (by omega)
  rw [he] at this
  omega
theorem dep_all {i : Nat} (hi : i < n.bridges.length) : ∃ d, Dep n tree d i ∧ d ≤ 11 := by
  have hc := fin_cost h tree hi
  obtain ⟨d, hd⟩ := dep_ex h tree (sF n tree i).cost.toNat hi (by omega)
  have := dep_lt h tree hd hi
  have := h.nb
  exact ⟨d, hd, by omega⟩
theorem settle_at {l : List Mind} (hl : l.length = n.bridges.length) {d i : Nat} (hd : Dep n tree d i) : ∀ T, i < n.bridges.length → 21 + d ≤ T →
    (mAt (tkN n tree l T) i).vec.root = (sF n tree i).root ∧ (mAt (tkN n tree l T) i).vec.cost = (sF n tree i).cost ∧ (mAt (tkN n tree l T) i).rootPort = pF n tree i ∧ (mAt (tkN n tree l T) i).age = d := by
  induction hd with
  | @own i hr hc hp =>
    intro T hi hT
    have hlow := RW.low h tree (live_all h tree hl hi (by omega)).1 hi
    obtain ⟨k, rfl⟩ : ∃ k, T = k + 1 := ⟨T - 1, by omega⟩
    rw [tkN_at (by omega)] at hlow ⊢
    rcases mind_cases h tree i (tkN n tree l k) with ⟨h1, h2, h3, h4, _⟩ | ⟨e, he, hq, _, _, h5, h6, _⟩
    · rw [h1, h2, h3, h4, hr, hc, hp]; exact ⟨rfl, rfl, rfl, rfl⟩
    · have := hq.r
      unfold leL at hlow
      omega
  | @step d i e he hr hc hp hlt hm hdo ih =>
    intro T hi hT
    have ho := adj_ok h he
    obtain ⟨k, rfl⟩ : ∃ k, T = k + 1 := ⟨T - 1, by omega⟩
    obtain ⟨p1, p2, p3, p4⟩ := ih k ho.2.2.1 (by omega)
    have pl := live_all h tree hl (T := k) ho.2.2.1 (by omega)
    have hdl := dep_lt h tree hdo ho.2.2.1
    have hnb := h.nb
    have hfc := fin_cost h tree ho.2.2.1
    have hcan : CanH (idN n tree i) (tkN n tree l k) e := ⟨by omega, by omega, by omega, by omega, by omega⟩
    rw [tkN_at (by omega)]
    rcases mind_cases h tree i (tkN n tree l k) with ⟨_, _, _, _, hno⟩ | ⟨e', he', hq, h3, h4, h5, h6, hmin⟩
    · exact absurd hcan (hno e he)
    · have ho' := adj_ok h he'
      have hw := hmin e he hcan
      obtain ⟨l1, l2, l3, l4, l5⟩ := live_all h tree hl (T := k) ho'.2.2.1 (by omega)
      have hlow := (RW.low h tree l1 ho'.2.2.1).1
      have hfl := fin_le h tree hi he'
      have hqr := hq.r
      have hw' : leL (mAt (tkN n tree l k) e'.other.toNat).vec.root ((mAt (tkN n tree l k) e'.other.toNat).vec.cost + e'.cost) (sF n tree i).root (sF n tree i).cost := by
        unfold Vec.le2 at hw
        rw [Vec.cmp_lt, Vec.cmp_eq] at hw
        unfold wH at hw
        simp only at hw
        unfold leL
        omega
      have e1 : (mAt (tkN n tree l k) e'.other.toNat).vec.root = (sF n tree e'.other.toNat).root ∧ (mAt (tkN n tree l k) e'.other.toNat).vec.cost = (sF n tree e'.other.toNat).cost ∧ (sF n tree i).root = (sF n tree e'.other.toNat).root ∧ (sF n tree i).cost = (sF n tree e'.other.toNat).cost + e'.cost := by
        unfold leL at hw' hlow hfl
        omega
      obtain ⟨q1, q2, q3, q4⟩ := e1
      have hm' := hm e' he' (by omega)
      have ew : wH (tkN n tree l k) e' = ⟨(sF n tree e'.other.toNat).root, (sF n tree e'.other.toNat).cost + e'.cost, idN n tree e'.other.toNat, e'.oport⟩ := by unfold wH; rw [q1, q2, l4]
      have ew2 : wH (tkN n tree l k) e = ⟨(sF n tree e.other.toNat).root, (sF n tree e.other.toNat).cost + e.cost, idN n tree e.other.toNat, e.oport⟩ := by unfold wH; rw [p1, p2, pl.2.2.2.1]
      rw [ew, ew2] at hw
      have hpp := (Vec.le2_antisymm hw hm').2.2.2.2
      have hee : e' = e := h.end_one he' he hpp
      subst hee
      exact ⟨by omega, by omega, by rw [h3, hp], by omega⟩
theorem settle_vec {l : List Mind} (hl : l.length = n.bridges.length) {i : Nat} (hi : i < n.bridges.length) {T : Nat} (hT : 32 ≤ T) :
    (mAt (tkN n tree l T) i).vec = sF n tree i ∧ (mAt (tkN n tree l T) i).rootPort = pF n tree i ∧ ∃ d, Dep n tree d i ∧ (mAt (tkN n tree l T) i).age = d := by
  obtain ⟨d, hd, hd11⟩ := dep_all h tree hi
  obtain ⟨h1, h2, h3, h4⟩ := settle_at h tree hl hd T hi (by omega)
  obtain ⟨_, _, _, l4, l5⟩ := live_all h tree hl (T := T) hi (by omega)
  have hs := sF_ids (tree := tree) hi
  exact ⟨Vec.ext4 h1 h2 (by rw [l4, hs.1]) (by rw [l5, hs.2]), h3, d, hd, h4⟩
end
theorem any_congr' {α : Type} {f g : α → Bool} : ∀ {l : List α}, (∀ a ∈ l, f a = g a) → l.any f = l.any g
  | [], _ => rfl
  | a :: r, h => by rw [List.any_cons, List.any_cons, h a (by simp), any_congr' (fun b hb => h b (by simp [hb]))]
structure Stands (n : Net) (tree : Int) (i : Nat) (m : Mind) : Prop where
  vec : m.vec = sF n tree i
  port : m.rootPort = pF n tree i
  ports : m.ports = portsOf n.links i
  roles : m.roles = (portsOf n.links i).map (roleF n tree i)
theorem settle_roles {n : Net} (h : n.good) (tree : Int) {l : List Mind} (hl : l.length = n.bridges.length) {i : Nat} (hi : i < n.bridges.length) {T : Nat} (hT : 33 ≤ T) : Stands n tree i (mAt (tkN n tree l T) i) := by
  obtain ⟨h1, h2, _⟩ := settle_vec h tree hl hi (T := T) (by omega)
  obtain ⟨k, rfl⟩ : ∃ k, T = k + 1 := ⟨T - 1, by omega⟩
  refine ⟨h1, h2, by rw [tkN_at (by omega)]; rfl, ?_⟩
  rw [tkN_at (by omega)] at h1 h2 ⊢
  show rolesP (endsOf n i) (mindOf n tree i (endsOf n i) (tkN n tree l k)).vec (mindOf n tree i (endsOf n i) (tkN n tree l k)).rootPort (hears (endsOf n i) (tkN n tree l k)) (portsOf n.links i) = _
  rw [h1, h2]
  unfold rolesP
  refine List.map_congr_left fun p _ => ?_
  unfold roleF
  split
  · unfold roleOf
    split
    · rfl
    · have : (hears (endsOf n i) (tkN n tree l k)).any (Offer.blocks { sF n tree i with port := p } p) = (offersOf (endsOf n i) (saysN n tree (n.bridges.length + 1))).any (Offer.blocks { sF n tree i with port := p } p) := by
        unfold hears offersOf
        rw [List.any_map, List.any_map]
        refine any_congr' fun e he => ?_
        have he := mem_endsOf.1 he
        have ho := adj_ok h he
        obtain ⟨q1, _⟩ := settle_vec h tree hl ho.2.2.1 (T := k) (by omega)
        have ha := live_all h tree hl ho.2.2.1 (T := k) (by omega)
        have es : ((saysN n tree (n.bridges.length + 1))[e.other.toNat]?).getD .zero = sF n tree e.other.toNat := rfl
        show Offer.blocks _ p (hearOf (tkN n tree l k) e) = Offer.blocks _ p (offerOf (saysN n tree (n.bridges.length + 1)) e)
        rw [hearOf_eq]
        unfold offerOf Offer.blocks
        rw [es, q1]
        simp only [decide_eq_true ha.2.1, decide_eq_true ha.2.2.1]
        rfl
      rw [this]
  · rfl
end Go.Proofs.Ytfmaehhloffabaa
namespace Go.Proofs.Ytfmaehhloffabaa
open Go.RowKit
def mix {α : Type} (xs ys : List α) (k : Nat) : List α := xs.take k ++ ys.drop k
section
variable {α : Type} {xs ys : List α} {k : Nat} {a : α}
theorem mix_zero : mix xs ys 0 = ys := by simp [mix]
theorem mix_all (h : xs.length = ys.length) (hk : ys.length ≤ k) : mix xs ys k = xs := by unfold mix; rw [List.take_of_length_le (by omega), List.drop_eq_nil_of_le hk, List.append_nil]
theorem mix_get (h : xs.length = ys.length) : (mix xs ys k)[k]? = ys[k]? := by
  unfold mix
  by_cases hk : k < xs.length
  · rw [List.getElem?_append_right (by rw [List.length_take]; omega), List.length_take, List.getElem?_drop, show k + (k - min k xs.length) = k by omega]
  · rw [List.getElem?_eq_none (by rw [List.length_append, List.length_take, List.length_drop]; omega), List.getElem?_eq_none (by omega)]
theorem mix_set (h : xs.length = ys.length) (ha : xs[k]? = some a) : (mix xs ys k).set k a = mix xs ys (k + 1) := by
  have hk := (List.getElem?_eq_some_iff.1 ha).1
  unfold mix
  rw [List.set_append_right _ _ (by rw [List.length_take]; omega), List.length_take, show k - min k xs.length = 0 by omega, List.drop_eq_getElem_cons (by omega), List.set_cons_zero, List.take_add_one, ha, List.append_assoc]
  rfl
end
def planA (n : Net) (tree : Int) : List Place × (Int × Nat) := if n.wrong.1 ≠ 0 then ([], n.wrong) else if tree < 0 ∨ 15 < tree then ([], (3, 0)) else (planF n tree, (0, 0))
end Go.Proofs.Ytfmaehhloffabaa
namespace Go.Proofs.Ytfmaehhloffabaa
open Go.RowKit
def keyB (b : Bridge) : Int × Region := (b.addr, b.region)
def keyL (l : Link) : (Int × Int) × (Int × Int) := ((l.a, l.pa), (l.b, l.pb))
structure Kin (n m : Net) : Prop where
  br : m.bridges.map keyB = n.bridges.map keyB
  lk : m.links.map keyL = n.links.map keyL
theorem Kin.refl (n : Net) : Kin n n := ⟨rfl, rfl⟩
theorem Kin.trans {a b c : Net} (h : Kin a b) (k : Kin b c) : Kin a c := ⟨k.br.trans h.br, k.lk.trans h.lk⟩
theorem Kin.nb {n m : Net} (h : Kin n m) : m.bridges.length = n.bridges.length := by have := congrArg List.length h.br; simpa using this
theorem Kin.nl {n m : Net} (h : Kin n m) : m.links.length = n.links.length := by have := congrArg List.length h.lk; simpa using this
theorem Kin.ids {n m : Net} (h : Kin n m) : idsR m.bridges = idsR n.bridges := by
  have e : ∀ bs : List Bridge, idsR bs = (bs.map keyB).map fun p => identR p.2 := fun bs => by unfold idsR; rw [List.map_map]; rfl
  rw [e, e, h.br]
theorem Kin.ports {n m : Net} (h : Kin n m) (i : Int) : portsOf m.links i = portsOf n.links i := by
  have e : ∀ ls : List Link, ls.flatMap (portAt i) = (ls.map keyL).flatMap fun p => (if p.1.1 = i then [p.1.2] else []) ++ (if p.2.1 = i then [p.2.2] else []) := fun ls => by rw [List.flatMap_map]; rfl
  unfold portsOf
  rw [e, e, h.lk]
theorem Kin.sides {n m : Net} (h : Kin n m) : sidesP m.links = sidesP n.links := by
  have e : ∀ ls : List Link, sidesP ls = (ls.map keyL).flatMap fun p => [p.1, p.2] := fun ls => by unfold sidesP; rw [List.flatMap_map]; rfl
  rw [e, e, h.lk]
theorem map_modify {α β : Type} {f : α → β} {g : α → α} (hg : ∀ a, f (g a) = f a) : ∀ (l : List α) (k : Nat), (l.modify k g).map f = l.map f
  | [], k => by simp
  | a :: r, 0 => by simp [hg]
  | a :: r, k + 1 => by simp [map_modify hg r k]
theorem doS_kin (n : Net) (d : Doing) : Kin n (doS n d).1 := by
  unfold doS
  repeat' split
  all_goals first
    | exact Kin.refl n
    | (refine ⟨rfl, ?_⟩; apply map_modify; intro _; rfl)
    | (refine ⟨?_, rfl⟩; apply map_modify; intro _; rfl)
theorem mem_modify {α : Type} {g : α → α} : ∀ {l : List α} {k : Nat} {x : α}, x ∈ l.modify k g → x ∈ l ∨ ∃ y ∈ l, x = g y
  | [], k, x, h => by simp at h
  | a :: r, 0, x, h => by
    simp at h
    rcases h with h | h
    · exact .inr ⟨a, by simp, h⟩
    · exact .inl (by simp [h])
  | a :: r, k + 1, x, h => by
    simp at h
    rcases h with h | h
    · exact .inl (by simp [h])
    · rcases mem_modify h with h | ⟨y, hy, e⟩
      · exact .inl (by simp [h])
      · exact .inr ⟨y, by simp [hy], e⟩
theorem Net.good.of_kin {n m : Net} (h : n.good) (k : Kin n m) (hb : ∀ b ∈ m.bridges, b.ok) (hl : ∀ l ∈ m.links, l.ok n.bridges.length) : m.good where
  nb := by rw [k.nb]; exact h.nb
  nl := by rw [k.nl]; exact h.nl
  br := hb
  ad := by
    have e : ∀ bs : List Bridge, bs.Pairwise (fun a b => a.addr ≠ b.addr) ↔ (bs.map keyB).Pairwise (fun a b => a.1 ≠ b.1) := fun bs => by rw [List.pairwise_map]; rfl
    rw [e, k.br, ← e]; exact h.ad
  lk := by rw [k.nb]; exact hl
  po := by rw [k.sides]; exact h.po
theorem setPrio_len (ps : List Int) (t : Nat) (v : Int) : (setPrio ps t v).length = max ps.length (t + 1) := by
  unfold setPrio
  rw [List.length_set, List.length_append, List.length_replicate]; omega
theorem mem_set_or {α : Type} {l : List α} {k : Nat} {a x : α} (h : x ∈ l.set k a) : x ∈ l ∨ x = a := List.mem_or_eq_of_mem_set h
theorem setPrio_mem {ps : List Int} {t : Nat} {v x : Int} (h : x ∈ setPrio ps t v) : x ∈ ps ∨ x = 32768 ∨ x = v := by
  unfold setPrio at h
  rcases mem_set_or h with h | h
  · rcases List.mem_append.1 h with h | h
    · exact .inl h
    · exact .inr (.inl (List.mem_replicate.1 h).2)
  · exact .inr (.inr h)
theorem doS_good {n : Net} (h : n.good) (d : Doing) (_he : (doS n d).2 = 0) : (doS n d).1.good := by
  have hk := doS_kin n d
  refine h.of_kin hk (fun b hb => ?_) (fun l hl => ?_)
  · unfold doS at hb
    repeat' (split at hb)
    all_goals try exact h.br b hb
    rename_i h1 h2 h3 h4
    rcases mem_modify hb with hb | ⟨c, hc, rfl⟩
    · exact h.br b hb
    · have ho := h.br c hc
      refine ⟨ho.a0, ho.a1, ?_, fun p hp => ?_, ho.r⟩
      · show (setPrio _ _ _).length ≤ 16
        rw [setPrio_len]
        have := ho.n
        omega
      · rcases setPrio_mem hp with hp | rfl | rfl
        · exact ho.p p hp
        · unfold prioBad; decide
        · unfold prioBad; omega
  · unfold doS at hl
    repeat' (split at hl)
    all_goals try exact h.lk l hl
    · rcases mem_modify hl with hl | ⟨c, hc, rfl⟩
      · exact h.lk l hl
      · have ho := h.lk c hc
        exact ⟨ho.a0, ho.a1, ho.b0, ho.b1, ho.ne, ho.pa, ho.pb, ho.c⟩
    · rename_i h1 h2 h3 h4
      rcases mem_modify hl with hl | ⟨c, hc, rfl⟩
      · exact h.lk l hl
      · have ho := h.lk c hc
        exact ⟨ho.a0, ho.a1, ho.b0, ho.b1, ho.ne, ho.pa, ho.pb, by show 1 ≤ d.value ∧ d.value ≤ 200000; omega⟩
theorem goodM_kin {n m : Net} (k : Kin n m) {i : Nat} {x : Mind} (h : goodM n i x) : goodM m i x := ⟨by rw [k.ports]; exact h.p, by rw [k.ports]; exact h.r, by rw [k.ports]; exact h.c, h.b⟩
theorem goodT_kin {n m : Net} (k : Kin n m) {t : List (List Mind)} (h : goodT n t) : goodT m t := ⟨h.l, fun l hl => ⟨by rw [k.nb]; exact (h.m l hl).1, fun i x hx => goodM_kin k ((h.m l hl).2 i x hx)⟩⟩
theorem calmOf_in (r c : Int) (h : 0 ≤ c) : 0 ≤ calmOf r c ∧ calmOf r c ≤ 50 := by
  unfold calmOf; repeat' split
  all_goals omega
theorem calmsOf_in {rs cs : List Int} (h : ∀ c ∈ cs, 0 ≤ c ∧ c ≤ 50) : ∀ c ∈ calmsOf rs cs, 0 ≤ c ∧ c ≤ 50 := fun c hc => by
  unfold calmsOf at hc
  obtain ⟨k, _, rfl⟩ := List.mem_map.1 hc
  refine calmOf_in _ _ ?_
  by_cases hk : k < cs.length
  · rw [List.getElem?_eq_getElem hk]; exact (h _ (List.getElem_mem hk)).1
  · rw [List.getElem?_eq_none (by omega)]; exact Int.le_refl _
theorem mindOf_good (n : Net) (tree : Int) (i : Nat) (ends : List End) {l : List Mind} (h : ∀ m, l[i]? = some m → ∀ c ∈ m.calm, 0 ≤ c ∧ c ≤ 50) : goodM n i (mindOf n tree i ends l) := by
  refine ⟨rfl, rolesP_len .., ?_, ?_⟩
  · show (calmsOf _ _).length = _
    rw [calmsOf_len]; exact rolesP_len ..
  · refine calmsOf_in fun c hc => ?_
    cases hm : l[i]? with
    | none => rw [hm] at hc; simp [Mind.zero] at hc
    | some m => rw [hm] at hc; exact h m hm c hc
theorem tickN_good {n : Net} {t : List (List Mind)} (h : goodT n t) : goodT n (tickN n t) := by
  refine ⟨by unfold tickN; rw [List.length_map, List.length_range]; exact h.l, fun l hl => ?_⟩
  unfold tickN at hl
  obtain ⟨k, hk, rfl⟩ := List.mem_map.1 hl
  have hk := List.mem_range.1 hk
  rw [List.getElem?_eq_getElem hk, Option.getD_some]
  have hm := h.m t[k] (List.getElem_mem hk)
  refine ⟨by unfold tickT; rw [List.length_map, List.length_range]; exact hm.1, fun i x hx => ?_⟩
  unfold tickT at hx
  rw [List.getElem?_map] at hx
  obtain ⟨i', hi', rfl⟩ := Option.map_eq_some_iff.1 hx
  have hi := (List.getElem?_eq_some_iff.1 hi').1
  rw [List.length_range] at hi
  rw [List.getElem?_range hi] at hi'
  injection hi' with hi'
  subst hi'
  exact mindOf_good n k i _ (fun m hmi => (hm.2 i m hmi).b)
theorem ticksN_good {n : Net} {t : List (List Mind)} (h : goodT n t) : ∀ k, goodT n (ticksN n t k)
  | 0 => h
  | k + 1 => tickN_good (ticksN_good h k)
theorem start0_good {n : Net} {trees : Nat} (ht : trees ≤ 4) : goodT n (start0 n trees) := by
  refine ⟨by simpa [start0] using ht, fun l hl => ?_⟩
  unfold start0 at hl
  obtain ⟨k, _, rfl⟩ := List.mem_map.1 hl
  refine ⟨by simp, fun i x hx => ?_⟩
  rw [List.getElem?_map] at hx
  obtain ⟨i', hi', rfl⟩ := Option.map_eq_some_iff.1 hx
  have hi := (List.getElem?_eq_some_iff.1 hi').1
  rw [List.length_range] at hi
  rw [List.getElem?_range hi] at hi'
  injection hi' with hi'
  subst hi'
  refine ⟨rfl, by simp [mind0], by simp [mind0], fun c hc => ?_⟩
  simp only [mind0, List.mem_map] at hc
  obtain ⟨_, _, rfl⟩ := hc
  omega
def onA (n : Net) (t : List (List Mind)) (l : List Doing) : Option (Net × List (List Mind)) × (Int × Nat) := if n.wrong.1 ≠ 0 then (none, n.wrong) else if 30 < l.length then (none, (5, 0)) else onLoop 0 l n t
def playA (n : Net) (trees : Int) (l : List Doing) : Option (Net × List (List Mind)) × (Int × Nat) := if (startA n trees).2.1 ≠ 0 then (none, (startA n trees).2) else onA n (startA n trees).1 l
def onV (r : Option (Net × List (List Mind)) × (Int × Nat)) : V := .tuple [(match r.1 with | some p => p.1.v | none => Net.v ⟨[], []⟩), (match r.1 with | some p => talkV p.2 | none => talkV []), faultV r.2]
end Go.Proofs.Ytfmaehhloffabaa
