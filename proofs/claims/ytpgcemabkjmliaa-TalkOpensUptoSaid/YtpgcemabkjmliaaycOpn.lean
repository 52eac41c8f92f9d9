/- Which ports forward, behind enough ticks; for how long they were calm: mathematics. -/
import Derived.Test.YtpgcemabkjmliaaycChM
import Derived.Test.YtpgcemabkjmliaaycSet
namespace Go.Proofs.Ytpgcemabkjmliaa
open Go.RowKit
def mix {α : Type} (xs ys : List α) (k : Nat) : List α := xs.take k ++ ys.drop k
section
variable {α : Type} {xs ys : List α} {k : Nat} {a : α}
theorem mix_zero : mix xs ys 0 = ys := by simp [mix]
theorem mix_all (h : xs.length = ys.length) (hk : ys.length ≤ k) : mix xs ys k = xs := by unfold mix; rw [List.take_of_length_le (by omega), List.drop_eq_nil_of_le hk, List.append_nil]
theorem mix_get (h : xs.length = ys.length) : (mix xs ys k)[k]? = ys[k]? := by
  unfold mix
  by_cases hk : k < xs.length
  · rw [List.getElem?_append_right (by rw [List.length_take]; omega), List.length_take, List.getElem?_drop, show k + (k - min k xs.length) = k by omega]
  · rw [List.getElem?_eq_none (by rw [List.length_append, List.length_take, List.length_drop]; omega), List.getElem?_eq_none (by omega)]
theorem mix_set (h : xs.length = ys.length) (ha : xs[k]? = some a) : (mix xs ys k).set k a = mix xs ys (k + 1) := by
  have hk := (List.getElem?_eq_some_iff.1 ha).1
  unfold mix
  rw [List.set_append_right _ _ (by rw [List.length_take]; omega), List.length_take, show k - min k xs.length = 0 by omega, List.drop_eq_getElem_cons (by omega), List.set_cons_zero, List.take_add_one, ha, List.append_assoc]
  rfl
end
def planA (n : Net) (tree : Int) : List Place × (Int × Nat) := if n.wrong.1 ≠ 0 then ([], n.wrong) else if tree < 0 ∨ 15 < tree then ([], (3, 0)) else (planF n tree, (0, 0))
end Go.Proofs.Ytpgcemabkjmliaa
namespace Go.Proofs.Ytpgcemabkjmliaa
open Go.RowKit
def keyB (b : Bridge) : Int × Region := (b.addr, b.region)
def keyL (l : Link) : (Int × Int) × (Int × Int) := ((l.a, l.pa), (l.b, l.pb))
structure Kin (n m : Net) : Prop where
  br : m.bridges.map keyB = n.bridges.map keyB
  lk : m.links.map keyL = n.links.map keyL
theorem Kin.refl (n : Net) : Kin n n := ⟨rfl, rfl⟩
theorem Kin.trans {a b c : Net} (h : Kin a b) (k : Kin b c) : Kin a c := ⟨k.br.trans h.br, k.lk.trans h.lk⟩
theorem Kin.symm {a b : Net} (h : Kin a b) : Kin b a := ⟨h.br.symm, h.lk.symm⟩
theorem Kin.nb {n m : Net} (h : Kin n m) : m.bridges.length = n.bridges.length := by have := congrArg List.length h.br; simpa using this
theorem Kin.nl {n m : Net} (h : Kin n m) : m.links.length = n.links.length := by have := congrArg List.length h.lk; simpa using this
theorem Kin.ids {n m : Net} (h : Kin n m) : idsR m.bridges = idsR n.bridges := by
  have e : ∀ bs : List Bridge, idsR bs = (bs.map keyB).map fun p => identR p.2 := fun bs => by unfold idsR; rw [List.map_map]; rfl
  rw [e, e, h.br]
theorem Kin.ports {n m : Net} (h : Kin n m) (i : Int) : portsOf m.links i = portsOf n.links i := by
  have e : ∀ ls : List Link, ls.flatMap (portAt i) = (ls.map keyL).flatMap fun p => (if p.1.1 = i then [p.1.2] else []) ++ (if p.2.1 = i then [p.2.2] else []) := fun ls => by rw [List.flatMap_map]; rfl
  unfold portsOf
  rw [e, e, h.lk]
theorem Kin.sides {n m : Net} (h : Kin n m) : sidesP m.links = sidesP n.links := by
  have e : ∀ ls : List Link, sidesP ls = (ls.map keyL).flatMap fun p => [p.1, p.2] := fun ls => by unfold sidesP; rw [List.flatMap_map]; rfl
  rw [e, e, h.lk]
theorem map_modify {α β : Type} {f : α → β} {g : α → α} (hg : ∀ a, f (g a) = f a) : ∀ (l : List α) (k : Nat), (l.modify k g).map f = l.map f
  | [], k => by simp
  | a :: r, 0 => by simp [hg]
  | a :: r, k + 1 => by simp [map_modify hg r k]
theorem doS_kin (n : Net) (d : Doing) : Kin n (doS n d).1 := by
  unfold doS
  repeat' split
  all_goals first
    | exact Kin.refl n
    | (refine ⟨rfl, ?_⟩; apply map_modify; intro _; rfl)
    | (refine ⟨?_, rfl⟩; apply map_modify; intro _; rfl)
theorem mem_modify {α : Type} {g : α → α} : ∀ {l : List α} {k : Nat} {x : α}, x ∈ l.modify k g → x ∈ l ∨ ∃ y ∈ l, x = g y
  | [], k, x, h => by simp at h
  | a :: r, 0, x, h => by
    simp at h
    rcases h with h | h
    · exact .inr ⟨a, by simp, h⟩
    · exact .inl (by simp [h])
  | a :: r, k + 1, x, h => by
    simp at h
    rcases h with h | h
    · exact .inl (by simp [h])
    · rcases mem_modify h with h | ⟨y, hy, e⟩
      · exact .inl (by simp [h])
      · exact .inr ⟨y, by simp [hy], e⟩
theorem Net.good.of_kin {n m : Net} (h : n.good) (k : Kin n m) (hb : ∀ b ∈ m.bridges, b.ok) (hl : ∀ l ∈ m.links, l.ok n.bridges.length) : m.good where
  nb := by rw [k.nb]; exact h.nb
  nl := by rw [k.nl]; exact h.nl
  br := hb
  ad := by
    have e : ∀ bs : List Bridge, bs.Pairwise (fun a b => a.addr ≠ b.addr) ↔ (bs.map keyB).Pairwise (fun a b => a.1 ≠ b.1) := fun bs => by rw [List.pairwise_map]; rfl
    rw [e, k.br, ← e]; exact h.ad
  lk := by rw [k.nb]; exact hl
  po := by rw [k.sides]; exact h.po
theorem setPrio_len (ps : List Int) (t : Nat) (v : Int) : (setPrio ps t v).length = max ps.length (t + 1) := by
  unfold setPrio
  rw [List.length_set, List.length_append, List.length_replicate]; omega
theorem mem_set_or {α : Type} {l : List α} {k : Nat} {a x : α} (h : x ∈ l.set k a) : x ∈ l ∨ x = a := List.mem_or_eq_of_mem_set h
theorem setPrio_mem {ps : List Int} {t : Nat} {v x : Int} (h : x ∈ setPrio ps t v) : x ∈ ps ∨ x = 32768 ∨ x = v := by
  unfold setPrio at h
  rcases mem_set_or h with h | h
  · rcases List.mem_append.1 h with h | h
    · exact .inl h
    · exact .inr (.inl (List.mem_replicate.1 h).2)
  · exact .inr (.inr h)
theorem doS_good {n : Net} (h : n.good) (d : Doing) (_he : (doS n d).2 = 0) : (doS n d).1.good := by
  have hk := doS_kin n d
  refine h.of_kin hk (fun b hb => ?_) (fun l hl => ?_)
  · unfold doS at hb
    repeat' (split at hb)
    all_goals try exact h.br b hb
    rename_i h1 h2 h3 h4
    rcases mem_modify hb with hb | ⟨c, hc, rfl⟩
    · exact h.br b hb
    · have ho := h.br c hc
      refine ⟨ho.a0, ho.a1, ?_, fun p hp => ?_, ho.r⟩
      · show (setPrio _ _ _).length ≤ 16
        rw [setPrio_len]
        have := ho.n
        omega
      · rcases setPrio_mem hp with hp | rfl | rfl
        · exact ho.p p hp
        · unfold prioBad; decide
        · unfold prioBad; omega
  · unfold doS at hl
    repeat' (split at hl)
    all_goals try exact h.lk l hl
    · rcases mem_modify hl with hl | ⟨c, hc, rfl⟩
      · exact h.lk l hl
      · have ho := h.lk c hc
        exact ⟨ho.a0, ho.a1, ho.b0, ho.b1, ho.ne, ho.pa, ho.pb, ho.c⟩
    · rename_i h1 h2 h3 h4
      rcases mem_modify hl with hl | ⟨c, hc, rfl⟩
      · exact h.lk l hl
      · have ho := h.lk c hc
        exact ⟨ho.a0, ho.a1, ho.b0, ho.b1, ho.ne, ho.pa, ho.pb, by show 1 ≤ d.value ∧ d.value ≤ 200000; omega⟩
theorem goodM_kin {n m : Net} (k : Kin n m) {i : Nat} {x : Mind} (h : goodM n i x) : goodM m i x := ⟨by rw [k.ports]; exact h.p, by rw [k.ports]; exact h.r, by rw [k.ports]; exact h.c, h.b⟩
theorem goodT_kin {n m : Net} (k : Kin n m) {t : List (List Mind)} (h : goodT n t) : goodT m t := ⟨h.l, fun l hl => ⟨by rw [k.nb]; exact (h.m l hl).1, fun i x hx => goodM_kin k ((h.m l hl).2 i x hx)⟩⟩
theorem calmOf_in (r c : Int) (h : 0 ≤ c) : 0 ≤ calmOf r c ∧ calmOf r c ≤ 50 := by
  unfold calmOf; repeat' split
  all_goals omega
theorem calmsOf_in {rs cs : List Int} (h : ∀ c ∈ cs, 0 ≤ c ∧ c ≤ 50) : ∀ c ∈ calmsOf rs cs, 0 ≤ c ∧ c ≤ 50 := fun c hc => by
  unfold calmsOf at hc
  obtain ⟨k, _, rfl⟩ := List.mem_map.1 hc
  refine calmOf_in _ _ ?_
  by_cases hk : k < cs.length
  · rw [List.getElem?_eq_getElem hk]; exact (h _ (List.getElem_mem hk)).1
  · rw [List.getElem?_eq_none (by omega)]; exact Int.le_refl _
theorem mindOf_good (n : Net) (tree : Int) (i : Nat) (ends : List End) {l : List Mind} (h : ∀ m, l[i]? = some m → ∀ c ∈ m.calm, 0 ≤ c ∧ c ≤ 50) : goodM n i (mindOf n tree i ends l) := by
  refine ⟨rfl, rolesP_len .., ?_, ?_⟩
  · show (calmsOf _ _).length = _
    rw [calmsOf_len]; exact rolesP_len ..
  · refine calmsOf_in fun c hc => ?_
    cases hm : l[i]? with
    | none => rw [hm] at hc; simp [Mind.zero] at hc
    | some m => rw [hm] at hc; exact h m hm c hc
theorem tickN_good {n : Net} {t : List (List Mind)} (h : goodT n t) : goodT n (tickN n t) := by
  refine ⟨by unfold tickN; rw [List.length_map, List.length_range]; exact h.l, fun l hl => ?_⟩
  unfold tickN at hl
  obtain ⟨k, hk, rfl⟩ := List.mem_map.1 hl
  have hk := List.mem_range.1 hk
  rw [List.getElem?_eq_getElem hk, Option.getD_some]
  have hm := h.m t[k] (List.getElem_mem hk)
  refine ⟨by unfold tickT; rw [List.length_map, List.length_range]; exact hm.1, fun i x hx => ?_⟩
  unfold tickT at hx
  rw [List.getElem?_map] at hx
  obtain ⟨i', hi', rfl⟩ := Option.map_eq_some_iff.1 hx
  have hi := (List.getElem?_eq_some_iff.1 hi').1
  rw [List.length_range] at hi
  rw [List.getElem?_range hi] at hi'
  injection hi' with hi'
  subst hi'
  exact mindOf_good n k i _ (fun m hmi => (hm.2 i m hmi).b)
theorem ticksN_good {n : Net} {t : List (List Mind)} (h : goodT n t) : ∀ k, goodT n (ticksN n t k)
  | 0 => h
  | k + 1 => tickN_good (ticksN_good h k)
theorem start0_good {n : Net} {trees : Nat} (ht : trees ≤ 4) : goodT n (start0 n trees) := by
  refine ⟨by simpa [start0] using ht, fun l hl => ?_⟩
  unfold start0 at hl
  obtain ⟨k, _, rfl⟩ := List.mem_map.1 hl
  refine ⟨by simp, fun i x hx => ?_⟩
  rw [List.getElem?_map] at hx
  obtain ⟨i', hi', rfl⟩ := Option.map_eq_some_iff.1 hx
  have hi := (List.getElem?_eq_some_iff.1 hi').1
  rw [List.length_range] at hi
  rw [List.getElem?_range hi] at hi'
  injection hi' with hi'
  subst hi'
  refine ⟨rfl, by simp [mind0], by simp [mind0], fun c hc => ?_⟩
  simp only [mind0, List.mem_map] at hc
  obtain ⟨_, _, rfl⟩ := hc
  omega
theorem onLoop_good : ∀ (l : List Doing) (i : Nat) (n : Net) (t : List (List Mind)), n.good → goodT n t → ∀ r, (onLoop i l n t).1 = some r → r.1.good ∧ goodT r.1 r.2 ∧ Kin n r.1 ∧ r.2.length = t.length ∧ (onLoop i l n t).2 = (0, 0)
  | [], i, n, t, h, ht, r, hr => by
    rw [onLoop] at hr ⊢
    injection hr with hr
    subst hr; exact ⟨h, ht, .refl n, rfl, rfl⟩
  | d :: l, i, n, t, h, ht, r, hr => by
    rw [onLoop] at hr ⊢
    by_cases h1 : d.kind = 1
    · rw [if_pos h1] at hr ⊢
      by_cases h2 : d.n < 0 ∨ 200 < d.n
      · rw [if_pos h2] at hr; cases hr
      · rw [if_neg h2] at hr ⊢
        have := onLoop_good l _ _ _ h (ticksN_good ht _) r hr
        rw [ticks_len] at this
        exact this
    · rw [if_neg h1] at hr ⊢
      have hg := doS_good h d
      have hk := doS_kin n d
      generalize doS n d = q at hr hg hk ⊢
      obtain ⟨n', e⟩ := q
      by_cases h2 : e ≠ 0
      · simp only [if_pos h2] at hr; cases hr
      · simp only [if_neg h2] at hr ⊢
        obtain ⟨a, b, c, e1, e2⟩ := onLoop_good l (i + 1) n' t (hg (by simpa using h2)) (goodT_kin hk ht) r hr
        exact ⟨a, b, hk.trans c, e1, e2⟩
theorem onLoop_bad : ∀ (l : List Doing) (i : Nat) (n : Net) (t : List (List Mind)), (onLoop i l n t).1 = none → (onLoop i l n t).2.1 ≠ 0
  | [], i, n, t, h => by rw [onLoop] at h; cases h
  | d :: l, i, n, t, h => by
    rw [onLoop] at h ⊢
    by_cases h1 : d.kind = 1
    · rw [if_pos h1] at h ⊢
      by_cases h2 : d.n < 0 ∨ 200 < d.n
      · rw [if_pos h2]; simp
      · rw [if_neg h2] at h ⊢
        exact onLoop_bad l _ _ _ h
    · rw [if_neg h1] at h ⊢
      generalize doS n d = q at h ⊢
      obtain ⟨n', e⟩ := q
      by_cases h2 : e ≠ 0
      · simp only [if_pos h2]; exact h2
      · simp only [if_neg h2] at h ⊢
        exact onLoop_bad l (i + 1) n' t h
def onA (n : Net) (t : List (List Mind)) (l : List Doing) : Option (Net × List (List Mind)) × (Int × Nat) := if n.wrong.1 ≠ 0 then (none, n.wrong) else if 30 < l.length then (none, (5, 0)) else onLoop 0 l n t
def playA (n : Net) (trees : Int) (l : List Doing) : Option (Net × List (List Mind)) × (Int × Nat) := if (startA n trees).2.1 ≠ 0 then (none, (startA n trees).2) else onA n (startA n trees).1 l
def onV (r : Option (Net × List (List Mind)) × (Int × Nat)) : V := .tuple [(match r.1 with | some p => p.1.v | none => Net.v ⟨[], []⟩), (match r.1 with | some p => talkV p.2 | none => talkV []), faultV r.2]
end Go.Proofs.Ytpgcemabkjmliaa
namespace Go.Proofs.Ytpgcemabkjmliaa
def rAt (m : Mind) (j : Nat) : Int := (m.roles[j]?).getD 0
def cAt (m : Mind) (j : Nat) : Int := (m.calm[j]?).getD 0
def ixI (p : Int) : List Int → Option Nat
  | [] => none
  | x :: r => if x = p then some 0 else (ixI p r).map (· + 1)
theorem ixI_some {p : Int} : ∀ {l : List Int} {k : Nat}, ixI p l = some k → l[k]? = some p
  | [], k, h => by cases h
  | x :: r, k, h => by
    unfold ixI at h
    split at h
    · rename_i e
      injection h with h
      subst h; rw [e]; rfl
    · obtain ⟨k', hk, rfl⟩ := Option.map_eq_some_iff.1 h
      rw [List.getElem?_cons_succ]; exact ixI_some hk
theorem ixI_none {p : Int} : ∀ {l : List Int}, ixI p l = none → p ∉ l
  | [], _, h => by simp at h
  | x :: r, h, hm => by
    unfold ixI at h
    split at h
    · cases h
    · rename_i hne
      have := Option.map_eq_none_iff.1 h
      rcases List.mem_cons.1 hm with e | e
      · exact hne e.symm
      · exact ixI_none this e
def opensM (m : Mind) (p : Int) : Bool := match ixI p m.ports with
  | none => false
  | some k => decide (k < m.calm.length) && decide (50 ≤ cAt m k)
def opensT (t : List (List Mind)) (tree bridge port : Int) : Bool :=
  if tree < 0 ∨ (t.length : Int) ≤ tree ∨ bridge < 0 then false else match (t[tree.toNat]?).getD [] with
    | l => if (l.length : Int) ≤ bridge then false else opensM (mAt l bridge.toNat) port
theorem mindOf_calm {n : Net} {tree : Int} {i : Nat} {ends : List End} {l : List Mind} {j : Nat} (hj : j < (portsOf n.links i).length) : cAt (mindOf n tree i ends l) j = calmOf (rAt (mindOf n tree i ends l) j) (cAt (mAt l i) j) := by
  show ((calmsOf _ _)[j]?).getD 0 = _
  unfold calmsOf
  rw [List.getElem?_map, List.getElem?_range (by rw [rolesP_len]; exact hj)]
  rfl
theorem calm_tk {n : Net} {tree : Int} {l : List Mind} {k i j : Nat} (hi : i < l.length) (hj : j < (portsOf n.links i).length) : cAt (mAt (tkN n tree l (k + 1)) i) j = calmOf (rAt (mAt (tkN n tree l (k + 1)) i) j) (cAt (mAt (tkN n tree l k) i) j) := by
  rw [tkN_at hi]; exact mindOf_calm hj
theorem calmOf_le (r c : Int) (h : 0 ≤ c) : calmOf r c ≤ c + 1 ∧ calmOf r c ≤ 50 ∧ 0 ≤ calmOf r c := by
  unfold calmOf; repeat' split
  all_goals omega
theorem calm_back {n : Net} {tree : Int} {l : List Mind} {i j : Nat} (hi : i < l.length) (hj : j < (portsOf n.links i).length) (h0 : 0 ≤ cAt (mAt l i) j) : ∀ k, 0 ≤ cAt (mAt (tkN n tree l k) i) j ∧ cAt (mAt (tkN n tree l k) i) j ≤ cAt (mAt l i) j + k
  | 0 => ⟨h0, by show cAt (mAt l i) j ≤ _; omega⟩
  | k + 1 => by
    have ih := calm_back (tree := tree) hi hj h0 k
    rw [calm_tk hi hj]
    have := calmOf_le (rAt (mAt (tkN n tree l (k + 1)) i) j) _ ih.1
    omega
theorem calm_on {n : Net} {tree : Int} {l : List Mind} {i j : Nat} (hi : i < l.length) (hj : j < (portsOf n.links i).length) {a : Nat} (h0 : 0 ≤ cAt (mAt (tkN n tree l a) i) j) (hr : ∀ s, rAt (mAt (tkN n tree l (a + (s + 1))) i) j = 1 ∨ rAt (mAt (tkN n tree l (a + (s + 1))) i) j = 2) :
    ∀ s : Nat, (if (s : Int) < 50 then (s : Int) else 50) ≤ cAt (mAt (tkN n tree l (a + s)) i) j
  | 0 => by simpa using h0
  | s + 1 => by
    have ih := calm_on hi hj h0 hr s
    have := hr s
    rw [show a + (s + 1) = (a + s) + 1 by omega] at this ⊢
    rw [calm_tk hi hj]
    unfold calmOf
    rw [if_pos this]
    split at ih <;> split <;> split <;> omega
section
variable {n : Net} (h : n.good) (tree : Int)
include h
theorem opens_at {l : List Mind} (hl : l.length = n.bridges.length) (hc : ∀ i j, 0 ≤ cAt (mAt l i) j) {i : Nat} (hi : i < n.bridges.length) {T : Nat} (hT : 90 ≤ T) {p : Int} (hp : p ∈ portsOf n.links i) :
    opensM (mAt (tkN n tree l T) i) p = decide (roleF n tree i p = 1 ∨ roleF n tree i p = 2) := by
  have st := settle_roles h tree hl hi (T := T) (by omega)
  unfold opensM
  rw [st.ports]
  cases hx : ixI p (portsOf n.links i) with
  | none => exact absurd hp (ixI_none hx)
  | some k =>
    have hk := ixI_some hx
    have hkl := (List.getElem?_eq_some_iff.1 hk).1
    have hr : ∀ T, 33 ≤ T → rAt (mAt (tkN n tree l T) i) k = roleF n tree i p := fun T hT => by
      have st := settle_roles h tree hl hi (T := T) hT
      unfold rAt
      rw [st.roles, List.getElem?_map, hk]; rfl
    have hlen : k < (mAt (tkN n tree l T) i).calm.length := by
      obtain ⟨T', rfl⟩ : ∃ T', T = T' + 1 := ⟨T - 1, by omega⟩
      rw [tkN_at (by omega)]
      show k < (calmsOf _ _).length
      rw [calmsOf_len, rolesP_len]; exact hkl
    simp only [decide_eq_true hlen, Bool.true_and]
    by_cases hq : roleF n tree i p = 1 ∨ roleF n tree i p = 2
    · rw [decide_eq_true hq]
      have := calm_on (n := n) (tree := tree) (l := l) (i := i) (j := k) (by omega) hkl (a := 33) (calm_back (by omega) hkl (hc i k) 33).1 (fun s => by rw [hr _ (by omega)]; exact hq) (T - 33)
      rw [show 33 + (T - 33) = T by omega, if_neg (by omega)] at this
      exact decide_eq_true this
    · rw [decide_eq_false hq]
      obtain ⟨T', rfl⟩ : ∃ T', T = T' + 1 := ⟨T - 1, by omega⟩
      rw [calm_tk (by omega) hkl, hr _ (by omega)]
      unfold calmOf
      rw [if_neg hq]
      rfl
end
theorem quiet {n : Net} (h : n.good) (tree : Int) {l : List Mind} (hl : l.length = n.bridges.length) {i : Nat} (hi : i < n.bridges.length) {T : Nat} (hT : 33 ≤ T) :
    (mAt (tkN n tree l (T + 1)) i).vec = (mAt (tkN n tree l T) i).vec ∧ (mAt (tkN n tree l (T + 1)) i).age = (mAt (tkN n tree l T) i).age ∧ (mAt (tkN n tree l (T + 1)) i).rootPort = (mAt (tkN n tree l T) i).rootPort ∧
    (mAt (tkN n tree l (T + 1)) i).ports = (mAt (tkN n tree l T) i).ports ∧ (mAt (tkN n tree l (T + 1)) i).roles = (mAt (tkN n tree l T) i).roles := by
  obtain ⟨d, hd, hd11⟩ := dep_all h tree hi
  have a1 := (settle_at h tree hl hd T hi (by omega)).2.2.2
  have a2 := (settle_at h tree hl hd (T + 1) hi (by omega)).2.2.2
  have s1 := settle_roles h tree hl hi (T := T) hT
  have s2 := settle_roles h tree hl hi (T := T + 1) (by omega)
  exact ⟨by rw [s1.vec, s2.vec], by rw [a1, a2], by rw [s1.port, s2.port], by rw [s1.ports, s2.ports], by rw [s1.roles, s2.roles]⟩
end Go.Proofs.Ytpgcemabkjmliaa
