/- A row of one's own whose cells a library function has put in another order (or otherwise laid anew). -/
import Derived.Test.YtpgcemabkjmliaaGreatzcPlX
import Derived.Test.YtpgcemabkjmliaaGreatzcSet
import Derived.Shelf.SlLaysF0
import Derived.Shelf.SlLaysNS
import Derived.Test.YtpgcemabkjmliaaGreatProg
import Derived.Sort.Grow
import Derived.Test.YtpgcemabkjmliaaGreatzbInp
namespace Go.Proofs.YtpgcemabkjmliaaGreat
open Go.RowKit
def mix {α : Type} (xs ys : List α) (k : Nat) : List α := xs.take k ++ ys.drop k
section
variable {α : Type} {xs ys : List α} {k : Nat} {a : α}
theorem mix_zero : mix xs ys 0 = ys := by simp [mix]
theorem mix_all (h : xs.length = ys.length) (hk : ys.length ≤ k) : mix xs ys k = xs := by unfold mix; rw [List.take_of_length_le (by omega), List.drop_eq_nil_of_le hk, List.append_nil]
theorem mix_get (h : xs.length = ys.length) : (mix xs ys k)[k]? = ys[k]? := by
  unfold mix
  by_cases hk : k < xs.length
  · rw [List.getElem?_append_right (by rw [List.length_take]; omega), List.length_take, List.getElem?_drop, show k + (k - min k xs.length) = k by omega]
  · rw [List.getElem?_eq_none (by rw [List.length_append, List.length_take, List.length_drop]; omega), List.getElem?_eq_none (by omega)]
theorem mix_set (h : xs.length = ys.length) (ha : xs[k]? = some a) : (mix xs ys k).set k a = mix xs ys (k + 1) := by
  have hk := (List.getElem?_eq_some_iff.1 ha).1
  unfold mix
  rw [List.set_append_right _ _ (by rw [List.length_take]; omega), List.length_take, show k - min k xs.length = 0 by omega, List.drop_eq_getElem_cons (by omega), List.set_cons_zero, List.take_add_one, ha, List.append_assoc]
  rfl
end
end Go.Proofs.YtpgcemabkjmliaaGreat
namespace Go.Proofs.YtpgcemabkjmliaaGreat
open Go.RowKit
def keyB (b : Bridge) : Int × Region := (b.addr, b.region)
def keyL (l : Link) : (Int × Int) × (Int × Int) := ((l.a, l.pa), (l.b, l.pb))
structure Kin (n m : Net) : Prop where
  br : m.bridges.map keyB = n.bridges.map keyB
  lk : m.links.map keyL = n.links.map keyL
theorem Kin.refl (n : Net) : Kin n n := ⟨rfl, rfl⟩
theorem Kin.trans {a b c : Net} (h : Kin a b) (k : Kin b c) : Kin a c := ⟨k.br.trans h.br, k.lk.trans h.lk⟩
theorem Kin.nb {n m : Net} (h : Kin n m) : m.bridges.length = n.bridges.length := by have := congrArg List.length h.br; simpa using this
theorem Kin.nl {n m : Net} (h : Kin n m) : m.links.length = n.links.length := by have := congrArg List.length h.lk; simpa using this
theorem Kin.ids {n m : Net} (h : Kin n m) : idsR m.bridges = idsR n.bridges := by
  have e : ∀ bs : List Bridge, idsR bs = (bs.map keyB).map fun p => identR p.2 := fun bs => by unfold idsR; rw [List.map_map]; rfl
  rw [e, e, h.br]
theorem Kin.ports {n m : Net} (h : Kin n m) (i : Int) : portsOf m.links i = portsOf n.links i := by
  have e : ∀ ls : List Link, ls.flatMap (portAt i) = (ls.map keyL).flatMap fun p => (if p.1.1 = i then [p.1.2] else []) ++ (if p.2.1 = i then [p.2.2] else []) := fun ls => by rw [List.flatMap_map]; rfl
  unfold portsOf
  rw [e, e, h.lk]
theorem Kin.sides {n m : Net} (h : Kin n m) : sidesP m.links = sidesP n.links := by
  have e : ∀ ls : List Link, sidesP ls = (ls.map keyL).flatMap fun p => [p.1, p.2] := fun ls => by unfold sidesP; rw [List.flatMap_map]; rfl
  rw [e, e, h.lk]
theorem map_modify {α β : Type} {f : α → β} {g : α → α} (hg : ∀ a, f (g a) = f a) : ∀ (l : List α) (k : Nat), (l.modify k g).map f = l.map f
  | [], k => by simp
  | a :: r, 0 => by simp [hg]
  | a :: r, k + 1 => by simp [map_modify hg r k]
theorem doS_kin (n : Net) (d : Doing) : Kin n (doS n d).1 := by
  unfold doS
  repeat' split
  all_goals first
    | exact Kin.refl n
    | (refine ⟨rfl, ?_⟩; apply map_modify; intro _; rfl)
    | (refine ⟨?_, rfl⟩; apply map_modify; intro _; rfl)
theorem mem_modify {α : Type} {g : α → α} : ∀ {l : List α} {k : Nat} {x : α}, x ∈ l.modify k g → x ∈ l ∨ ∃ y ∈ l, x = g y
  | [], k, x, h => by simp at h
  | a :: r, 0, x, h => by
    simp at h
    rcases h with h | h
    · exact .inr ⟨a, by simp, h⟩
    · exact .inl (by simp [h])
  | a :: r, k + 1, x, h => by
    simp at h
    rcases h with h | h
    · exact .inl (by simp [h])
    · rcases mem_modify h with h | ⟨y, hy, e⟩
      · exact .inl (by simp [h])
      · exact .inr ⟨y, by simp [hy], e⟩
theorem Net.good.of_kin {n m : Net} (h : n.good) (k : Kin n m) (hb : ∀ b ∈ m.bridges, b.ok) (hl : ∀ l ∈ m.links, l.ok n.bridges.length) : m.good where
  nb := by rw [k.nb]; exact h.nb
  nl := by rw [k.nl]; exact h.nl
  br := hb
  ad := by
    have e : ∀ bs : List Bridge, bs.Pairwise (fun a b => a.addr ≠ b.addr) ↔ (bs.map keyB).Pairwise (fun a b => a.1 ≠ b.1) := fun bs => by rw [List.pairwise_map]; rfl
    rw [e, k.br, ← e]; exact h.ad
  lk := by rw [k.nb]; exact hl
  po := by rw [k.sides]; exact h.po
theorem setPrio_len (ps : List Int) (t : Nat) (v : Int) : (setPrio ps t v).length = max ps.length (t + 1) := by
  unfold setPrio
  rw [List.length_set, List.length_append, List.length_replicate]; omega
theorem mem_set_or {α : Type} {l : List α} {k : Nat} {a x : α} (h : x ∈ l.set k a) : x ∈ l ∨ x = a := List.mem_or_eq_of_mem_set h
theorem setPrio_mem {ps : List Int} {t : Nat} {v x : Int} (h : x ∈ setPrio ps t v) : x ∈ ps ∨ x = 32768 ∨ x = v := by
  unfold setPrio at h
  rcases mem_set_or h with h | h
  · rcases List.mem_append.1 h with h | h
    · exact .inl h
    · exact .inr (.inl (List.mem_replicate.1 h).2)
  · exact .inr (.inr h)
theorem doS_good {n : Net} (h : n.good) (d : Doing) (he : (doS n d).2 = 0) : (doS n d).1.good := by
  have hk := doS_kin n d
  refine h.of_kin hk (fun b hb => ?_) (fun l hl => ?_)
  · unfold doS at hb he
    repeat' (split at hb)
    all_goals try exact h.br b hb
    rename_i h1 h2 h3 h4
    rcases mem_modify hb with hb | ⟨c, hc, rfl⟩
    · exact h.br b hb
    · have ho := h.br c hc
      refine ⟨ho.a0, ho.a1, ?_, fun p hp => ?_, ho.r⟩
      · show (setPrio _ _ _).length ≤ 16
        rw [setPrio_len]
        have := ho.n
        omega
      · rcases setPrio_mem hp with hp | rfl | rfl
        · exact ho.p p hp
        · unfold prioBad; decide
        · unfold prioBad; omega
  · unfold doS at hl he
    repeat' (split at hl)
    all_goals try exact h.lk l hl
    · rcases mem_modify hl with hl | ⟨c, hc, rfl⟩
      · exact h.lk l hl
      · have ho := h.lk c hc
        exact ⟨ho.a0, ho.a1, ho.b0, ho.b1, ho.ne, ho.pa, ho.pb, ho.c⟩
    · rename_i h1 h2 h3 h4
      rcases mem_modify hl with hl | ⟨c, hc, rfl⟩
      · exact h.lk l hl
      · have ho := h.lk c hc
        exact ⟨ho.a0, ho.a1, ho.b0, ho.b1, ho.ne, ho.pa, ho.pb, by show 1 ≤ d.value ∧ d.value ≤ 200000; omega⟩
theorem goodM_kin {n m : Net} (k : Kin n m) {i : Nat} {x : Mind} (h : goodM n i x) : goodM m i x := ⟨by rw [k.ports]; exact h.p, by rw [k.ports]; exact h.r, by rw [k.ports]; exact h.c, h.b⟩
theorem goodT_kin {n m : Net} (k : Kin n m) {t : List (List Mind)} (h : goodT n t) : goodT m t := ⟨h.l, fun l hl => ⟨by rw [k.nb]; exact (h.m l hl).1, fun i x hx => goodM_kin k ((h.m l hl).2 i x hx)⟩⟩
theorem calmOf_in (r c : Int) (h : 0 ≤ c) : 0 ≤ calmOf r c ∧ calmOf r c ≤ 50 := by
  unfold calmOf; repeat' split
  all_goals omega
theorem calmsOf_in {rs cs : List Int} (h : ∀ c ∈ cs, 0 ≤ c ∧ c ≤ 50) : ∀ c ∈ calmsOf rs cs, 0 ≤ c ∧ c ≤ 50 := fun c hc => by
  unfold calmsOf at hc
  obtain ⟨k, _, rfl⟩ := List.mem_map.1 hc
  refine calmOf_in _ _ ?_
  by_cases hk : k < cs.length
  · rw [List.getElem?_eq_getElem hk]; exact (h _ (List.getElem_mem hk)).1
  · rw [List.getElem?_eq_none (by omega)]; exact Int.le_refl _
theorem mindOf_good (n : Net) (tree : Int) (i : Nat) (ends : List End) {l : List Mind} (h : ∀ m, l[i]? = some m → ∀ c ∈ m.calm, 0 ≤ c ∧ c ≤ 50) : goodM n i (mindOf n tree i ends l) := by
  refine ⟨rfl, rolesP_len .., ?_, ?_⟩
  · show (calmsOf _ _).length = _
    rw [calmsOf_len]; exact rolesP_len ..
  · refine calmsOf_in fun c hc => ?_
    cases hm : l[i]? with
    | none => rw [hm] at hc; simp [Mind.zero] at hc
    | some m => rw [hm] at hc; exact h m hm c hc
theorem tickN_good {n : Net} {t : List (List Mind)} (h : goodT n t) : goodT n (tickN n t) := by
  refine ⟨by unfold tickN; rw [List.length_map, List.length_range]; exact h.l, fun l hl => ?_⟩
  unfold tickN at hl
  obtain ⟨k, hk, rfl⟩ := List.mem_map.1 hl
  have hk := List.mem_range.1 hk
  rw [List.getElem?_eq_getElem hk, Option.getD_some]
  have hm := h.m t[k] (List.getElem_mem hk)
  refine ⟨by unfold tickT; rw [List.length_map, List.length_range]; exact hm.1, fun i x hx => ?_⟩
  unfold tickT at hx
  rw [List.getElem?_map] at hx
  obtain ⟨i', hi', rfl⟩ := Option.map_eq_some_iff.1 hx
  have hi := (List.getElem?_eq_some_iff.1 hi').1
  rw [List.length_range] at hi
  rw [List.getElem?_range hi] at hi'
  injection hi' with hi'
  subst hi'
  exact mindOf_good n k i _ (fun m hmi => (hm.2 i m hmi).b)
theorem ticksN_good {n : Net} {t : List (List Mind)} (h : goodT n t) : ∀ k, goodT n (ticksN n t k)
  | 0 => h
  | k + 1 => tickN_good (ticksN_good h k)
theorem start0_good {n : Net} {trees : Nat} (ht : trees ≤ 4) : goodT n (start0 n trees) := by
  refine ⟨by simpa [start0] using ht, fun l hl => ?_⟩
  unfold start0 at hl
  obtain ⟨k, _, rfl⟩ := List.mem_map.1 hl
  refine ⟨by simp, fun i x hx => ?_⟩
  rw [List.getElem?_map] at hx
  obtain ⟨i', hi', rfl⟩ := Option.map_eq_some_iff.1 hx
  have hi := (List.getElem?_eq_some_iff.1 hi').1
  rw [List.length_range] at hi
  rw [List.getElem?_range hi] at hi'
  injection hi' with hi'
  subst hi'
  refine ⟨rfl, by simp [mind0], by simp [mind0], fun c hc => ?_⟩
  simp only [mind0, List.mem_map] at hc
  obtain ⟨_, _, rfl⟩ := hc
  omega
theorem onLoop_good : ∀ (l : List Doing) (i : Nat) (n : Net) (t : List (List Mind)), n.good → goodT n t → ∀ r, (onLoop i l n t).1 = some r → r.1.good ∧ goodT r.1 r.2 ∧ Kin n r.1 ∧ r.2.length = t.length ∧ (onLoop i l n t).2 = (0, 0)
  | [], i, n, t, h, ht, r, hr => by
    rw [onLoop] at hr ⊢
    injection hr with hr
    subst hr; exact ⟨h, ht, .refl n, rfl, rfl⟩
  | d :: l, i, n, t, h, ht, r, hr => by
    rw [onLoop] at hr ⊢
    by_cases h1 : d.kind = 1
    · rw [if_pos h1] at hr ⊢
      by_cases h2 : d.n < 0 ∨ 200 < d.n
      · rw [if_pos h2] at hr; cases hr
      · rw [if_neg h2] at hr ⊢
        have := onLoop_good l _ _ _ h (ticksN_good ht _) r hr
        rw [ticks_len] at this
        exact this
    · rw [if_neg h1] at hr ⊢
      have hg := doS_good h d
      have hk := doS_kin n d
      generalize doS n d = q at hr hg hk ⊢
      obtain ⟨n', e⟩ := q
      by_cases h2 : e ≠ 0
      · simp only [if_pos h2] at hr; cases hr
      · simp only [if_neg h2] at hr ⊢
        obtain ⟨a, b, c, e1, e2⟩ := onLoop_good l (i + 1) n' t (hg (by simpa using h2)) (goodT_kin hk ht) r hr
        exact ⟨a, b, hk.trans c, e1, e2⟩
theorem onLoop_bad : ∀ (l : List Doing) (i : Nat) (n : Net) (t : List (List Mind)), (onLoop i l n t).1 = none → (onLoop i l n t).2.1 ≠ 0
  | [], i, n, t, h => by rw [onLoop] at h; cases h
  | d :: l, i, n, t, h => by
    rw [onLoop] at h ⊢
    by_cases h1 : d.kind = 1
    · rw [if_pos h1] at h ⊢
      by_cases h2 : d.n < 0 ∨ 200 < d.n
      · rw [if_pos h2]; simp
      · rw [if_neg h2] at h ⊢
        exact onLoop_bad l _ _ _ h
    · rw [if_neg h1] at h ⊢
      generalize doS n d = q at h ⊢
      obtain ⟨n', e⟩ := q
      by_cases h2 : e ≠ 0
      · simp only [if_pos h2]; exact h2
      · simp only [if_neg h2] at h ⊢
        exact onLoop_bad l (i + 1) n' t h
def onA (n : Net) (t : List (List Mind)) (l : List Doing) : Option (Net × List (List Mind)) × (Int × Nat) := if n.wrong.1 ≠ 0 then (none, n.wrong) else if 30 < l.length then (none, (5, 0)) else onLoop 0 l n t
def playA (n : Net) (trees : Int) (l : List Doing) : Option (Net × List (List Mind)) × (Int × Nat) := if (startA n trees).2.1 ≠ 0 then (none, (startA n trees).2) else onA n (startA n trees).1 l
def onV (r : Option (Net × List (List Mind)) × (Int × Nat)) : V := .tuple [(match r.1 with | some p => p.1.v | none => Net.v ⟨[], []⟩), (match r.1 with | some p => talkV p.2 | none => talkV []), faultV r.2]
end Go.Proofs.YtpgcemabkjmliaaGreat
namespace Go.Proofs.YtpgcemabkjmliaaGreat
def rAt (m : Mind) (j : Nat) : Int := (m.roles[j]?).getD 0
def cAt (m : Mind) (j : Nat) : Int := (m.calm[j]?).getD 0
def ixI (p : Int) : List Int → Option Nat
  | [] => none
  | x :: r => if x = p then some 0 else (ixI p r).map (· + 1)
theorem ixI_some {p : Int} : ∀ {l : List Int} {k : Nat}, ixI p l = some k → l[k]? = some p
  | [], k, h => by cases h
  | x :: r, k, h => by
    unfold ixI at h
    split at h
    · rename_i e
      injection h with h
      subst h; rw [e]; rfl
    · obtain ⟨k', hk, rfl⟩ := Option.map_eq_some_iff.1 h
      rw [List.getElem?_cons_succ]; exact ixI_some hk
def opensM (m : Mind) (p : Int) : Bool := match ixI p m.ports with
  | none => false
  | some k => decide (k < m.calm.length) && decide (50 ≤ cAt m k)
def opensT (t : List (List Mind)) (tree bridge port : Int) : Bool :=
  if tree < 0 ∨ (t.length : Int) ≤ tree ∨ bridge < 0 then false else match (t[tree.toNat]?).getD [] with
    | l => if (l.length : Int) ≤ bridge then false else opensM (mAt l bridge.toNat) port
theorem mindOf_calm {n : Net} {tree : Int} {i : Nat} {ends : List End} {l : List Mind} {j : Nat} (hj : j < (portsOf n.links i).length) : cAt (mindOf n tree i ends l) j = calmOf (rAt (mindOf n tree i ends l) j) (cAt (mAt l i) j) := by
  show ((calmsOf _ _)[j]?).getD 0 = _
  unfold calmsOf
  rw [List.getElem?_map, List.getElem?_range (by rw [rolesP_len]; exact hj)]
  rfl
theorem calm_tk {n : Net} {tree : Int} {l : List Mind} {k i j : Nat} (hi : i < l.length) (hj : j < (portsOf n.links i).length) : cAt (mAt (tkN n tree l (k + 1)) i) j = calmOf (rAt (mAt (tkN n tree l (k + 1)) i) j) (cAt (mAt (tkN n tree l k) i) j) := by
  rw [tkN_at hi]; exact mindOf_calm hj
theorem calmOf_pos {r c : Int} (h : 0 < calmOf r c) : r = 1 ∨ r = 2 := by
  unfold calmOf at h
  split at h
  · assumption
  · omega
theorem calmOf_le (r c : Int) (h : 0 ≤ c) : calmOf r c ≤ c + 1 ∧ calmOf r c ≤ 50 ∧ 0 ≤ calmOf r c := by
  unfold calmOf; repeat' split
  all_goals omega
theorem calm_back {n : Net} {tree : Int} {l : List Mind} {i j : Nat} (hi : i < l.length) (hj : j < (portsOf n.links i).length) (h0 : 0 ≤ cAt (mAt l i) j) : ∀ k, 0 ≤ cAt (mAt (tkN n tree l k) i) j ∧ cAt (mAt (tkN n tree l k) i) j ≤ cAt (mAt l i) j + k
  | 0 => ⟨h0, by show cAt (mAt l i) j ≤ _; omega⟩
  | k + 1 => by
    have ih := calm_back (tree := tree) hi hj h0 k
    rw [calm_tk hi hj]
    have := calmOf_le (rAt (mAt (tkN n tree l (k + 1)) i) j) _ ih.1
    omega
section
variable {n : Net} (h : n.good) (tree : Int)
include h
end
end Go.Proofs.YtpgcemabkjmliaaGreat
namespace Go.Proofs.YtpgcemabkjmliaaGreat
open Go.Shelf
def sortEnds_ren : Go.Shelf.Ren := ⟨fun | 6 => 56 | 15 => 68 | 14 => 70 | 28 => 88 | 29 => 89 | 20 => 92 | 21 => 93 | 22 => 94 | 23 => 95 | 24 => 96 | 25 => 97 | 26 => 98 | 27 => 99 | 46 => 115 | 47 => 108 | 48 => 109 | 49 => 116 | 50 => 117 | 57 => 126 | n => n, fun | 22 => 114 | 24 => 116 | 25 => 118 | 3 => 3 | 39 => 102 | 0 => 0 | 53 => 150 | 55 => 53 | 4 => 4 | 46 => 142 | 45 => 141 | 50 => 147 | 5 => 5 | 9 => 9 | 66 => 162 | 70 => 166 | 76 => 177 | 77 => 178 | n => n, fun | n => n⟩
theorem sortEnds : Go.Proofs.SlLaysF0.n6 Tryz.prog sortEnds_ren := {
  mixed := by kernel_rfl
  f6 := ⟨Tryz.f56.name, by decide, Tryz.func56.trans (congrArg some (by kernel_rfl))⟩
  f14 := ⟨Tryz.f70.name, by decide, Tryz.func70.trans (congrArg some (by kernel_rfl))⟩
  f15 := Tryz.func68.trans (congrArg some (by kernel_rfl))
  f20 := ⟨Tryz.f92.name, by decide, Tryz.func92.trans (congrArg some (by kernel_rfl))⟩
  f21 := ⟨Tryz.f93.name, by decide, Tryz.func93.trans (congrArg some (by kernel_rfl))⟩
  f22 := ⟨Tryz.f94.name, by decide, Tryz.func94.trans (congrArg some (by kernel_rfl))⟩
  f23 := ⟨Tryz.f95.name, by decide, Tryz.func95.trans (congrArg some (by kernel_rfl))⟩
  f24 := ⟨Tryz.f96.name, by decide, Tryz.func96.trans (congrArg some (by kernel_rfl))⟩
  f25 := ⟨Tryz.f97.name, by decide, Tryz.func97.trans (congrArg some (by kernel_rfl))⟩
  f26 := ⟨Tryz.f98.name, by decide, Tryz.func98.trans (congrArg some (by kernel_rfl))⟩
  f27 := ⟨Tryz.f99.name, by decide, Tryz.func99.trans (congrArg some (by kernel_rfl))⟩
  f28 := Tryz.func88.trans (congrArg some (by kernel_rfl))
  f29 := Tryz.func89.trans (congrArg some (by kernel_rfl))
  f46 := ⟨Tryz.f115.name, by decide, Tryz.func115.trans (congrArg some (by kernel_rfl))⟩
  f47 := Tryz.func108.trans (congrArg some (by kernel_rfl))
  f48 := Tryz.func109.trans (congrArg some (by kernel_rfl))
  f49 := ⟨Tryz.f116.name, by decide, Tryz.func116.trans (congrArg some (by kernel_rfl))⟩
  f50 := ⟨Tryz.f117.name, by decide, Tryz.func117.trans (congrArg some (by kernel_rfl))⟩
  f57 := ⟨Tryz.f126.name, by decide, Tryz.func126.trans (congrArg some (by kernel_rfl))⟩
  t0 := Tryz.underlying0
  a0 := Tryz.isAgg0
  z0 := Tryz.sizeOf0
  v0 := Tryz.zeroValue0
  t3 := Tryz.underlying3
  a3 := Tryz.isAgg3
  z3 := Tryz.sizeOf3
  v3 := Tryz.zeroValue3
  t4 := Tryz.underlying4
  a4 := Tryz.isAgg4
  z4 := Tryz.sizeOf4
  v4 := Tryz.zeroValue4
  t5 := Tryz.underlying5
  a5 := Tryz.isAgg5
  z5 := Tryz.sizeOf5
  v5 := Tryz.zeroValue5
  t9 := Tryz.underlying9
  a9 := Tryz.isAgg9
  z9 := Tryz.sizeOf9
  v9 := Tryz.zeroValue9
  t22 := Tryz.underlying114
  a22 := Tryz.isAgg114
  z22 := Tryz.sizeOf114
  v22 := Tryz.zeroValue114
  t25 := Tryz.underlying118
  a25 := Tryz.isAgg118
  z25 := Tryz.sizeOf118
  v25 := Tryz.zeroValue118
  t39 := Tryz.underlying102
  a39 := Tryz.isAgg102
  z39 := Tryz.sizeOf102
  v39 := Tryz.zeroValue102
  t45 := Tryz.underlying141
  a45 := Tryz.isAgg141
  z45 := Tryz.sizeOf141
  v45 := Tryz.zeroValue141
  t46 := Tryz.underlying142
  a46 := Tryz.isAgg142
  z46 := Tryz.sizeOf142
  v46 := Tryz.zeroValue142
  t50 := Tryz.underlying147
  a50 := Tryz.isAgg147
  z50 := Tryz.sizeOf147
  v50 := Tryz.zeroValue147
  t53 := Tryz.underlying150
  a53 := Tryz.isAgg150
  z53 := Tryz.sizeOf150
  v53 := Tryz.zeroValue150
  t55 := Tryz.underlying53
  a55 := Tryz.isAgg53
  z55 := Tryz.sizeOf53
  v55 := Tryz.zeroValue53
  t66 := Tryz.underlying162
  a66 := Tryz.isAgg162
  z66 := Tryz.sizeOf162
  v66 := Tryz.zeroValue162
  t70 := Tryz.underlying166
  a70 := Tryz.isAgg166
  z70 := Tryz.sizeOf166
  v70 := Tryz.zeroValue166
  t76 := Tryz.underlying177
  a76 := Tryz.isAgg177
  z76 := Tryz.sizeOf177
  v76 := Tryz.zeroValue177
  t77 := Tryz.underlying178
  a77 := Tryz.isAgg178
  z77 := Tryz.sizeOf178
  v77 := Tryz.zeroValue178 }
def sortInts_ren : Go.Shelf.Ren := ⟨fun | 53 => 44 | 64 => 68 | 63 => 67 | 78 => 88 | 79 => 89 | 70 => 79 | 71 => 80 | 72 => 81 | 73 => 82 | 74 => 83 | 75 => 84 | 59 => 85 | 76 => 86 | 77 => 87 | 88 => 107 | 89 => 108 | 90 => 109 | 91 => 110 | 92 => 111 | 68 => 112 | 96 => 123 | n => n, fun | 22 => 54 | 23 => 3 | 3 => 3 | 51 => 102 | 0 => 0 | 67 => 150 | 69 => 53 | 4 => 4 | 61 => 142 | 60 => 141 | 44 => 147 | 5 => 5 | 9 => 9 | 75 => 162 | 79 => 166 | 83 => 177 | 84 => 178 | n => n, fun | n => n⟩
theorem sortInts : Go.Proofs.SlLaysN.n53 Tryz.prog sortInts_ren := {
  mixed := by kernel_rfl
  f53 := ⟨Tryz.f44.name, by decide, Tryz.func44.trans (congrArg some (by kernel_rfl))⟩
  f59 := ⟨Tryz.f85.name, by decide, Tryz.func85.trans (congrArg some (by kernel_rfl))⟩
  f63 := ⟨Tryz.f67.name, by decide, Tryz.func67.trans (congrArg some (by kernel_rfl))⟩
  f64 := Tryz.func68.trans (congrArg some (by kernel_rfl))
  f68 := ⟨Tryz.f112.name, by decide, Tryz.func112.trans (congrArg some (by kernel_rfl))⟩
  f70 := ⟨Tryz.f79.name, by decide, Tryz.func79.trans (congrArg some (by kernel_rfl))⟩
  f71 := ⟨Tryz.f80.name, by decide, Tryz.func80.trans (congrArg some (by kernel_rfl))⟩
  f72 := ⟨Tryz.f81.name, by decide, Tryz.func81.trans (congrArg some (by kernel_rfl))⟩
  f73 := ⟨Tryz.f82.name, by decide, Tryz.func82.trans (congrArg some (by kernel_rfl))⟩
  f74 := ⟨Tryz.f83.name, by decide, Tryz.func83.trans (congrArg some (by kernel_rfl))⟩
  f75 := ⟨Tryz.f84.name, by decide, Tryz.func84.trans (congrArg some (by kernel_rfl))⟩
  f76 := ⟨Tryz.f86.name, by decide, Tryz.func86.trans (congrArg some (by kernel_rfl))⟩
  f77 := ⟨Tryz.f87.name, by decide, Tryz.func87.trans (congrArg some (by kernel_rfl))⟩
  f78 := Tryz.func88.trans (congrArg some (by kernel_rfl))
  f79 := Tryz.func89.trans (congrArg some (by kernel_rfl))
  f88 := ⟨Tryz.f107.name, by decide, Tryz.func107.trans (congrArg some (by kernel_rfl))⟩
  f89 := Tryz.func108.trans (congrArg some (by kernel_rfl))
  f90 := Tryz.func109.trans (congrArg some (by kernel_rfl))
  f91 := ⟨Tryz.f110.name, by decide, Tryz.func110.trans (congrArg some (by kernel_rfl))⟩
  f92 := ⟨Tryz.f111.name, by decide, Tryz.func111.trans (congrArg some (by kernel_rfl))⟩
  f96 := ⟨Tryz.f123.name, by decide, Tryz.func123.trans (congrArg some (by kernel_rfl))⟩
  t0 := Tryz.underlying0
  a0 := Tryz.isAgg0
  z0 := Tryz.sizeOf0
  v0 := Tryz.zeroValue0
  t3 := Tryz.underlying3
  a3 := Tryz.isAgg3
  z3 := Tryz.sizeOf3
  v3 := Tryz.zeroValue3
  t4 := Tryz.underlying4
  a4 := Tryz.isAgg4
  z4 := Tryz.sizeOf4
  v4 := Tryz.zeroValue4
  t5 := Tryz.underlying5
  a5 := Tryz.isAgg5
  z5 := Tryz.sizeOf5
  v5 := Tryz.zeroValue5
  t9 := Tryz.underlying9
  a9 := Tryz.isAgg9
  z9 := Tryz.sizeOf9
  v9 := Tryz.zeroValue9
  t22 := Tryz.underlying54
  a22 := Tryz.isAgg54
  z22 := Tryz.sizeOf54
  v22 := Tryz.zeroValue54
  t23 := Tryz.underlying3
  a23 := Tryz.isAgg3
  z23 := Tryz.sizeOf3
  v23 := Tryz.zeroValue3
  t44 := Tryz.underlying147
  a44 := Tryz.isAgg147
  z44 := Tryz.sizeOf147
  v44 := Tryz.zeroValue147
  t51 := Tryz.underlying102
  a51 := Tryz.isAgg102
  z51 := Tryz.sizeOf102
  v51 := Tryz.zeroValue102
  t60 := Tryz.underlying141
  a60 := Tryz.isAgg141
  z60 := Tryz.sizeOf141
  v60 := Tryz.zeroValue141
  t61 := Tryz.underlying142
  a61 := Tryz.isAgg142
  z61 := Tryz.sizeOf142
  v61 := Tryz.zeroValue142
  t67 := Tryz.underlying150
  a67 := Tryz.isAgg150
  z67 := Tryz.sizeOf150
  v67 := Tryz.zeroValue150
  t69 := Tryz.underlying53
  a69 := Tryz.isAgg53
  z69 := Tryz.sizeOf53
  v69 := Tryz.zeroValue53
  t75 := Tryz.underlying162
  a75 := Tryz.isAgg162
  z75 := Tryz.sizeOf162
  v75 := Tryz.zeroValue162
  t79 := Tryz.underlying166
  a79 := Tryz.isAgg166
  z79 := Tryz.sizeOf166
  v79 := Tryz.zeroValue166
  t83 := Tryz.underlying177
  a83 := Tryz.isAgg177
  z83 := Tryz.sizeOf177
  v83 := Tryz.zeroValue177
  t84 := Tryz.underlying178
  a84 := Tryz.isAgg178
  z84 := Tryz.sizeOf178
  v84 := Tryz.zeroValue178 }
end Go.Proofs.YtpgcemabkjmliaaGreat
namespace Go.Proofs.YtpgcemabkjmliaaGreat
open Go.RowKit Go.Sort
theorem heap_map (w : World) (n b : Nat) (φ : Array Value → Array Value) (k : Nat) : (mapBlock (Sort.ahead w n) b φ).heap[k]? = if b = k then (w.heap[k]?).map (onCells φ) else w.heap[k]? := by
  show (w.heap.modify b (onCells φ))[k]? = _
  rw [Array.getElem?_modify]
theorem step_map {α : Type} {f : α → List V} {C : Cf} {m : Mem} {g b ver sz n : Nat} {nw : Bool} {us us' : List α} [hf : CellsI f sz] (hm : HoldsM C m) (hg : m.at g = .row ver false nw sz (us.map f)) (hi : C.ι g = some b) (hl : us'.length = us.length)
    (hint : ∀ a, ∀ d ∈ f a, ∃ k x, d = .int k x) (φ : Array Value → Array Value) (hs : ∀ arr, (φ arr).size = arr.size)
    (hφ : ∀ (arr : Array Value) (i j : Nat) (a : α) (d : V), us.length * sz ≤ arr.size → us'[i]? = some a → (f a)[j]? = some d → (φ arr)[i * sz + j]? = some d.val) :
    Step C m { C with w := mapBlock (Sort.ahead C.w n) b φ } ((g, .row ver false nw sz (us'.map f)) :: m) := by
  have hb := hm.box g
  rw [hg] at hb
  have hb' : RowAt C b false nw sz (us.map f) := by rw [hi] at hb; exact hb
  obtain ⟨arr, T, fz, h1, h2, h3, h4, h5, h6, h7⟩ := hb'
  have hnew : (mapBlock (Sort.ahead C.w n) b φ).heap[b]? = some (.cells (φ arr) T fz) := by rw [heap_map, if_pos rfl, h1]; rfl
  refine Step.write hm (by rw [hg]; rfl) hi rfl rfl rfl (by show (C.w.heap.modify b _).size = _; simp) (fun k hk => by rw [heap_map, if_neg (Ne.symm hk)]) ?_ ?_ ?_ ?_ (fun hd hslot => ?_)
  · rintro v0 lo len v ⟨ver', frz, nw', sz', xs, e1, e2, e3, e4⟩
    rw [hg] at e1
    injection e1 with z1 z2 z3 z4 z5
    subst z1 z2 z3 z4 z5
    refine ⟨ver, false, nw, sz, us'.map f, Mem.at_cons_same _ _ _, e2, e3, fun hv => ?_⟩
    obtain ⟨q1, q2⟩ := e4 hv
    refine ⟨by simpa [hl] using q1, ?_⟩
    unfold OwnV at *
    show (match C.ι g with | none => _ | some b => _)
    rw [hi] at q2 ⊢
    obtain ⟨cap, arr1, T1, fz1, y1, y2, y3, y4⟩ := q2
    rw [h1] at y2
    injection y2 with y2
    injection y2 with y5 y6 y7
    subst y5 y6 y7
    exact ⟨cap, φ arr, T, fz, y1, hnew, by rw [hs]; exact y3, y4⟩
  · rintro off v ⟨_, _, _, _, h, _⟩; rw [hg] at h; cases h
  · rintro v0 i off v ⟨ver', frz, nw', sz', xs, e1, e2, e3, e4⟩
    rw [hg] at e1
    injection e1 with z1 z2 z3 z4 z5
    subst z1 z2 z3 z4 z5
    refine ⟨ver, false, nw, sz, us'.map f, Mem.at_cons_same _ _ _, e2, e3, fun hv => ?_⟩
    obtain ⟨q1, q2⟩ := e4 hv
    exact ⟨by simpa [hl] using q1, q2⟩
  · rintro v ⟨_, _, _, _, h, _⟩; rw [hg] at h; cases h
  · refine ⟨φ arr, T, fz, hnew, ⟨fun i hi => h2.1 i (by rwa [hs] at hi), h2.2⟩, by rw [hs]; simpa [hl] using h3, fun i e he => ?_, fun i j e d he hd => ?_, fun i j e d c he hd hc => ?_, fun h => by cases h⟩
    · rw [List.getElem?_map] at he
      obtain ⟨a, _, rfl⟩ := Option.map_eq_some_iff.1 he
      exact hf.len a
    · rw [List.getElem?_map] at he
      obtain ⟨a, _, rfl⟩ := Option.map_eq_some_iff.1 he
      exact hf.one a d (List.mem_of_getElem? hd)
    · rw [List.getElem?_map] at he
      obtain ⟨a, ha, rfl⟩ := Option.map_eq_some_iff.1 he
      have := hφ arr i j a d (by simpa using h3) ha hd
      rw [this] at hc
      injection hc with hc
      subst hc
      obtain ⟨k, x, rfl⟩ := hint a d (List.mem_of_getElem? hd)
      exact Rd.int k x
theorem step_grow {C : Cf} {m : Mem} (os : Array Obj) (hm : HoldsM C m) : ∃ C', C'.w = grow C.w os ∧ Step C m C' m := by
  have hw : Grew C.w (grow C.w os) := ⟨rfl, rfl, rfl, by show _ ≤ (C.w.heap ++ os).size; simp, fun b hb => by
    show (C.w.heap ++ os)[b]? = _
    rw [Array.getElem?_append_left hb]⟩
  exact ⟨_, rfl, step_dat (w := grow C.w os) (fun _ => False) hm hw (fun _ h => h.elim)⟩
theorem row_holds {α : Type} {f : α → List V} {C : Cf} {b sz : Nat} {nw : Bool} {us : List α} (hr : RowAt C b false nw sz (us.map f)) (hsz : 0 < sz) [hf : CellsI f sz] (hint : ∀ a, ∀ d ∈ f a, ∃ k x, d = .int k x) {t : Nat} (ht : t < us.length * sz) :
    ∃ a d, us[t / sz]? = some a ∧ (f a)[t % sz]? = some d ∧ C.w.cell? ⟨b, t, none⟩ = some d.val ∧ C.w.frozen? ⟨b, t, none⟩ = false := by
  obtain ⟨arr, T, fz, h1, h2, h3, h4, h5, h6, h7⟩ := hr
  have hi : t / sz < us.length := Nat.div_lt_of_lt_mul (by rw [Nat.mul_comm]; exact ht)
  have hj : t % sz < sz := Nat.mod_lt _ hsz
  have hta : t < arr.size := by simp only [List.length_map] at h3; omega
  have ha : us[t / sz]? = some us[t / sz] := List.getElem?_eq_getElem hi
  generalize us[t / sz] = a at ha
  have hd : (f a)[t % sz]? = some ((f a)[t % sz]'(by rw [hf.len]; exact hj)) := List.getElem?_eq_getElem _
  generalize (f a)[t % sz]'(by rw [hf.len]; exact hj) = d at hd
  have he : t / sz * sz + t % sz = t := by rw [Nat.mul_comm]; exact Nat.div_add_mod t sz
  refine ⟨a, d, ha, hd, ?_, ?_⟩
  · have hc : arr[t]? = some arr[t] := Array.getElem?_eq_getElem hta
    have hr := h6 (t / sz) (t % sz) (f a) d arr[t] (by rw [List.getElem?_map, ha]; rfl) hd (by rw [he]; exact hc)
    obtain ⟨k, x, rfl⟩ := hint a d (List.mem_of_getElem? hd)
    have := rv_int hr
    rw [cell_of_arr h1, hc, this]; rfl
  · unfold World.frozen?
    rw [h1]
    have := h2.1 t hta
    simp only
    rw [Bool.eq_false_iff]
    intro h
    simp only [Bool.and_eq_true, decide_eq_true_eq] at h
    exact this h
end Go.Proofs.YtpgcemabkjmliaaGreat
