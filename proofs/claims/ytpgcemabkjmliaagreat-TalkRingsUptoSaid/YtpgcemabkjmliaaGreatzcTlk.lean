/- Talk: minds, ticks: what they are, in plain Lean. -/
import Derived.Test.YtpgcemabkjmliaaGreatzcPlX
namespace Go.Proofs.YtpgcemabkjmliaaGreat
def sF (n : Net) (tree : Int) (i : Nat) : Vec := sayN n tree (n.bridges.length + 1) i
def pF (n : Net) (tree : Int) (i : Nat) : Int := (chN n tree n.bridges.length i).port
def roleF (n : Net) (tree : Int) (i : Nat) (p : Int) : Int :=
  if (endsOf n i).any (fun e => decide (e.port = p)) then roleOf (sF n tree i) (pF n tree i) p (offersOf (endsOf n i) (saysN n tree (n.bridges.length + 1))) else 0
theorem sF_ids {n : Net} {tree : Int} {i : Nat} (hi : i < n.bridges.length) : (sF n tree i).bridge = idN n tree i ∧ (sF n tree i).port = 0 := sayN_ids hi
section
variable {n : Net} (h : n.good) (tree : Int)
include h
theorem fin_same {i : Nat} (hi : i < n.bridges.length) : (sayN n tree n.bridges.length i).root = (sF n tree i).root ∧ (sayN n tree n.bridges.length i).cost = (sF n tree i).cost := by
  have := round_still h tree (t := n.bridges.length) (by omega) (by have := h.nb; omega) hi
  exact ⟨this.1.symm, this.2.symm⟩
theorem fin_cost {i : Nat} (hi : i < n.bridges.length) : 0 ≤ (sF n tree i).cost ∧ (sF n tree i).cost ≤ 2600000 := by
  have := cost_le h tree (n.bridges.length + 1) i hi
  have := h.nb
  unfold sF; omega
theorem fin_at {i : Nat} (hi : i < n.bridges.length) :
    ((sF n tree i).root = idN n tree i ∧ (sF n tree i).cost = 0 ∧ pF n tree i = -1 ∧ ∀ e, adjN n i e → idN n tree i ≤ (sF n tree e.other.toNat).root) ∨
    ∃ e, adjN n i e ∧ (sF n tree i).root = (sF n tree e.other.toNat).root ∧ (sF n tree i).cost = (sF n tree e.other.toNat).cost + e.cost ∧ pF n tree i = e.port ∧ (sF n tree e.other.toNat).root < idN n tree i ∧
      ∀ e', adjN n i e' → (sF n tree e'.other.toNat).root < idN n tree i →
        Vec.le2 ⟨(sF n tree e.other.toNat).root, (sF n tree e.other.toNat).cost + e.cost, idN n tree e.other.toNat, e.oport⟩ e.port ⟨(sF n tree e'.other.toNat).root, (sF n tree e'.other.toNat).cost + e'.cost, idN n tree e'.other.toNat, e'.oport⟩ e'.port := by
  have hnb := h.nb
  rcases round_at h tree (t := n.bridges.length) (by omega) hi with ⟨h1, h2, h3, h4⟩ | ⟨e, he, h1, h2, h3, h4, h5⟩
  · refine .inl ⟨h1, h2, h3, fun e he => ?_⟩
    rw [← (fin_same h tree (adj_ok h he).2.2.1).1]; exact h4 e he
  · have hs := fin_same h tree (adj_ok h he).2.2.1
    rw [hs.1] at h1 h4
    rw [hs.2] at h2
    refine .inr ⟨e, he, h1, h2, h3, h4, fun e' he' hr => ?_⟩
    have hs' := fin_same h tree (adj_ok h he').2.2.1
    have := h5 e' he' (by rw [hs'.1]; exact hr)
    rw [hs.1, hs.2, hs'.1, hs'.2] at this
    exact this
theorem fin_own {i : Nat} (hi : i < n.bridges.length) : leL (sF n tree i).root (sF n tree i).cost (idN n tree i) 0 := round_own h tree (by have := h.nb; omega) hi
theorem fin_le {i : Nat} (hi : i < n.bridges.length) {e : End} (he : adjN n i e) : leL (sF n tree i).root (sF n tree i).cost (sF n tree e.other.toNat).root ((sF n tree e.other.toNat).cost + e.cost) := by
  have hs := fin_same h tree (adj_ok h he).2.2.1
  have := round_le h tree (t := n.bridges.length) (by have := h.nb; omega) hi he
  rw [hs.1, hs.2] at this
  exact this
theorem fin_root {i : Nat} (hi : i < n.bridges.length) {e : End} (he : adjN n i e) : (sF n tree i).root = (sF n tree e.other.toNat).root := by
  have h1 := fin_le h tree hi he
  have hk := adj_ok h he
  have h2 := fin_le h tree hk.2.2.1 (adj_sym h he)
  rw [show ((i : Nat) : Int).toNat = i from rfl] at h2
  unfold leL at *
  omega
theorem roleF_end {i : Nat} (hi : i < n.bridges.length) {e : End} (he : adjN n i e) :
    roleF n tree i e.port = if e.port = pF n tree i then 1 else if (sF n tree e.other.toNat).cost < (sF n tree i).cost ∨ ((sF n tree e.other.toNat).cost = (sF n tree i).cost ∧ idN n tree e.other.toNat < idN n tree i) then 3 else 2 := by
  have hk := adj_ok h he
  have hany : (endsOf n i).any (fun e' => decide (e'.port = e.port)) = true := List.any_eq_true.2 ⟨e, mem_endsOf.2 he, decide_eq_true rfl⟩
  have hr := fin_root h tree hi he
  have hne : idN n tree e.other.toNat ≠ idN n tree i := fun hx => by
    have := idN_inj h tree hk.2.2.1 hi hx
    have := hk.2.2.2.2; have := hk.2.2.2.1
    omega
  unfold roleF roleOf
  rw [if_pos hany]
  by_cases hp : e.port = pF n tree i
  · rw [if_pos hp, if_pos hp]
  · rw [if_neg hp, if_neg hp]
    have hb : ((offersOf (endsOf n i) (saysN n tree (n.bridges.length + 1))).any (Offer.blocks { sF n tree i with port := e.port } e.port) = true) ↔ ((sF n tree e.other.toNat).cost < (sF n tree i).cost ∨ ((sF n tree e.other.toNat).cost = (sF n tree i).cost ∧ idN n tree e.other.toNat < idN n tree i)) := by
      have hoe := offer_eq (tree := tree) (t := n.bridges.length + 1) h he
      have hids := (sF_ids (tree := tree) hi).1
      have key : Offer.blocks { sF n tree i with port := e.port } e.port (offerOf (saysN n tree (n.bridges.length + 1)) e) = true ↔ ((sF n tree e.other.toNat).cost < (sF n tree i).cost ∨ ((sF n tree e.other.toNat).cost = (sF n tree i).cost ∧ idN n tree e.other.toNat < idN n tree i)) := by
        rw [hoe]
        unfold Offer.blocks
        simp only [Bool.and_eq_true, decide_eq_true_eq, Vec.cmp_lt, hids]
        refine ⟨fun hx => ?_, fun hx => ⟨⟨⟨by first | trivial | rfl, by omega⟩, by omega⟩, ?_⟩⟩
        · have h4 : (sF n tree e.other.toNat).root < (sF n tree i).root ∨ (sF n tree e.other.toNat).root = (sF n tree i).root ∧ ((sF n tree e.other.toNat).cost < (sF n tree i).cost ∨ (sF n tree e.other.toNat).cost = (sF n tree i).cost ∧ (idN n tree e.other.toNat < idN n tree i ∨ idN n tree e.other.toNat = idN n tree i ∧ e.oport < e.port)) := hx.2
          omega
        · show (sF n tree e.other.toNat).root < (sF n tree i).root ∨ (sF n tree e.other.toNat).root = (sF n tree i).root ∧ ((sF n tree e.other.toNat).cost < (sF n tree i).cost ∨ (sF n tree e.other.toNat).cost = (sF n tree i).cost ∧ (idN n tree e.other.toNat < idN n tree i ∨ idN n tree e.other.toNat = idN n tree i ∧ e.oport < e.port))
          omega
      rw [List.any_eq_true]
      constructor
      · rintro ⟨o, ho, hbl⟩
        obtain ⟨e', he', rfl⟩ := offer_mem.1 ho
        have hpe : e'.port = e.port := by
          have := hbl
          rw [offer_eq h he'] at this
          unfold Offer.blocks at this
          simp only [Bool.and_eq_true, decide_eq_true_eq] at this
          exact this.1.1.1
        have : e' = e := h.end_one he' he hpe
        subst this
        exact key.1 hbl
      · intro hx
        exact ⟨_, offer_mem.2 ⟨e, he, rfl⟩, key.2 hx⟩
    by_cases hx : (sF n tree e.other.toNat).cost < (sF n tree i).cost ∨ ((sF n tree e.other.toNat).cost = (sF n tree i).cost ∧ idN n tree e.other.toNat < idN n tree i)
    · rw [if_pos hx, if_pos (hb.2 hx)]
    · rw [if_neg hx, if_neg (fun h' => hx (hb.1 h'))]
omit h in
theorem roleF_none {i : Nat} {p : Int} (hp : ∀ e, adjN n i e → e.port ≠ p) : roleF n tree i p = 0 := by
  unfold roleF
  rw [if_neg]
  intro ha
  obtain ⟨e, he, hx⟩ := List.any_eq_true.1 ha
  exact hp e (mem_endsOf.1 he) (of_decide_eq_true hx)
theorem role_two {i : Nat} (hi : i < n.bridges.length) {e : End} (he : adjN n i e) :
    (roleF n tree i e.port = 1 ∧ roleF n tree e.other.toNat e.oport = 2 ∧ pF n tree i = e.port ∧ pF n tree e.other.toNat ≠ e.oport ∧ (sF n tree i).cost = (sF n tree e.other.toNat).cost + e.cost) ∨
    (roleF n tree i e.port = 2 ∧ roleF n tree e.other.toNat e.oport = 1 ∧ pF n tree e.other.toNat = e.oport ∧ pF n tree i ≠ e.port ∧ (sF n tree e.other.toNat).cost = (sF n tree i).cost + e.cost) ∨
    (roleF n tree i e.port = 2 ∧ roleF n tree e.other.toNat e.oport = 3 ∧ pF n tree i ≠ e.port ∧ pF n tree e.other.toNat ≠ e.oport) ∨
    (roleF n tree i e.port = 3 ∧ roleF n tree e.other.toNat e.oport = 2 ∧ pF n tree i ≠ e.port ∧ pF n tree e.other.toNat ≠ e.oport) := by
  have hk := adj_ok h he
  have hs := adj_sym h he
  have r1 := roleF_end h tree hi he
  have r2 := roleF_end h tree hk.2.2.1 hs
  simp only [Int.toNat_natCast] at r2
  have hne : idN n tree e.other.toNat ≠ idN n tree i := fun hx => by
    have := idN_inj h tree hk.2.2.1 hi hx
    have := hk.2.2.2.2; have := hk.2.2.2.1
    omega
  have p1 : e.port = pF n tree i → (sF n tree i).cost = (sF n tree e.other.toNat).cost + e.cost := fun hp => by
    rcases fin_at h tree hi with ⟨_, _, h3, _⟩ | ⟨e', he', _, h2, h3, _⟩
    · omega
    · have : e' = e := h.end_one he' he (by omega)
      subst this; exact h2
  have p2 : e.oport = pF n tree e.other.toNat → (sF n tree e.other.toNat).cost = (sF n tree i).cost + e.cost := fun hp => by
    rcases fin_at h tree hk.2.2.1 with ⟨_, _, h3, _⟩ | ⟨e', he', _, h2, h3, _⟩
    · have := (adj_ok h hs).1; simp only at this; omega
    · have : e' = ⟨e.oport, e.cost, i, e.port⟩ := h.end_one he' hs (by rw [← h3, ← hp])
      subst this; exact h2
  by_cases hp : e.port = pF n tree i
  · have c1 := p1 hp
    have hq : ¬ e.oport = pF n tree e.other.toNat := fun hq => by have := p2 hq; omega
    rw [if_pos hp] at r1
    rw [if_neg hq, if_neg (by omega)] at r2
    exact .inl ⟨r1, r2, hp.symm, fun e => hq e.symm, c1⟩
  · rw [if_neg hp] at r1
    by_cases hq : e.oport = pF n tree e.other.toNat
    · have c2 := p2 hq
      rw [if_pos hq] at r2
      rw [if_neg (by omega)] at r1
      exact .inr (.inl ⟨r1, r2, hq.symm, fun e => hp e.symm, c2⟩)
    · rw [if_neg hq] at r2
      by_cases hx : (sF n tree e.other.toNat).cost < (sF n tree i).cost ∨ ((sF n tree e.other.toNat).cost = (sF n tree i).cost ∧ idN n tree e.other.toNat < idN n tree i)
      · rw [if_pos hx] at r1
        rw [if_neg (by omega)] at r2
        exact .inr (.inr (.inr ⟨r1, r2, fun e => hp e.symm, fun e => hq e.symm⟩))
      · rw [if_neg hx] at r1
        rw [if_pos (by omega)] at r2
        exact .inr (.inr (.inl ⟨r1, r2, fun e => hp e.symm, fun e => hq e.symm⟩))
end
end Go.Proofs.YtpgcemabkjmliaaGreat
namespace Go.Proofs.YtpgcemabkjmliaaGreat
def insE (e : End) : List End → List End
  | [] => [e]
  | x :: r => if e.port ≤ x.port then e :: x :: r else x :: insE e r
def isoE : List End → List End
  | [] => []
  | e :: r => insE e (isoE r)
def insP (e : Int) : List Int → List Int
  | [] => [e]
  | x :: r => if e ≤ x then e :: x :: r else x :: insP e r
def isoP : List Int → List Int
  | [] => []
  | e :: r => insP e (isoP r)
theorem insE_perm (e : End) : ∀ l, (insE e l).Perm (e :: l)
  | [] => .refl _
  | x :: r => by
    unfold insE
    split
    · exact .refl _
    · exact ((insE_perm e r).cons x).trans (.swap e x r)
theorem isoE_perm : ∀ l, (isoE l).Perm l
  | [] => .refl _
  | e :: r => (insE_perm e _).trans ((isoE_perm r).cons e)
theorem insE_sorted {e : End} : ∀ {l : List End}, l.Pairwise (fun a b => a.port ≤ b.port) → (insE e l).Pairwise (fun a b => a.port ≤ b.port)
  | [], _ => by simp [insE]
  | x :: r, h => by
    unfold insE
    obtain ⟨h1, h2⟩ := List.pairwise_cons.1 h
    split
    · rename_i hx
      refine List.pairwise_cons.2 ⟨fun y hy => ?_, h⟩
      rcases List.mem_cons.1 hy with rfl | hy
      · exact hx
      · exact Int.le_trans hx (h1 y hy)
    · rename_i hx
      refine List.pairwise_cons.2 ⟨fun y hy => ?_, insE_sorted h2⟩
      rcases List.mem_cons.1 ((insE_perm e r).mem_iff.1 hy) with rfl | hy
      · omega
      · exact h1 y hy
theorem isoE_sorted : ∀ l, (isoE l).Pairwise (fun a b => a.port ≤ b.port)
  | [] => .nil
  | _e :: r => insE_sorted (isoE_sorted r)
theorem sortE_iso {l : List End} (h : ∀ x ∈ l, ∀ y ∈ l, x.port = y.port → x = y) : sortE l = isoE l := by
  unfold sortE
  refine List.Perm.eq_of_pairwise (le := fun a b : End => a.port ≤ b.port) (fun a b ha hb h1 h2 => ?_) ?_ (isoE_sorted l) ((List.mergeSort_perm l _).trans (isoE_perm l).symm)
  · exact h a (List.mem_mergeSort.1 ha) b ((isoE_perm l).mem_iff.1 hb) (by omega)
  · have := List.pairwise_mergeSort (le := fun x y : End => decide (x.port ≤ y.port)) (fun a b c h1 h2 => by simp at *; omega) (fun a b => by simp; omega) l
    exact this.imp fun h => by simpa using h
theorem insP_perm (e : Int) : ∀ l, (insP e l).Perm (e :: l)
  | [] => .refl _
  | x :: r => by
    unfold insP
    split
    · exact .refl _
    · exact ((insP_perm e r).cons x).trans (.swap e x r)
theorem isoP_perm : ∀ l, (isoP l).Perm l
  | [] => .refl _
  | e :: r => (insP_perm e _).trans ((isoP_perm r).cons e)
theorem insP_sorted {e : Int} : ∀ {l : List Int}, l.Pairwise (· ≤ ·) → (insP e l).Pairwise (· ≤ ·)
  | [], _ => by simp [insP]
  | x :: r, h => by
    unfold insP
    obtain ⟨h1, h2⟩ := List.pairwise_cons.1 h
    split
    · rename_i hx
      refine List.pairwise_cons.2 ⟨fun y hy => ?_, h⟩
      rcases List.mem_cons.1 hy with rfl | hy
      · exact hx
      · exact Int.le_trans hx (h1 y hy)
    · rename_i hx
      refine List.pairwise_cons.2 ⟨fun y hy => ?_, insP_sorted h2⟩
      rcases List.mem_cons.1 ((insP_perm e r).mem_iff.1 hy) with rfl | hy
      · omega
      · exact h1 y hy
theorem isoP_sorted : ∀ l, (isoP l).Pairwise (· ≤ ·)
  | [] => .nil
  | _e :: r => insP_sorted (isoP_sorted r)
theorem sortI_iso (l : List Int) : sortI l = isoP l := by
  unfold sortI
  refine List.Perm.eq_of_pairwise (le := fun a b : Int => a ≤ b) (fun a b _ _ h1 h2 => by omega) ?_ (isoP_sorted l) ((List.mergeSort_perm l _).trans (isoP_perm l).symm)
  have := List.pairwise_mergeSort (le := fun x y : Int => decide (x ≤ y)) (fun a b c h1 h2 => by simp at *; omega) (fun a b => by simp; omega) l
  exact this.imp fun h => by simpa using h
theorem liveL_one {n : Net} (r : Region) (hr : ∀ b ∈ n.bridges, b.region = r) (hk : ∀ l ∈ n.links, l.a.toNat < n.bridges.length ∧ l.b.toNat < n.bridges.length) : liveL n = n.links.filter (·.up) := by
  unfold liveL
  apply List.filter_congr
  intro l hl
  obtain ⟨h1, h2⟩ := hk l hl
  unfold liveB
  have e : (idsR n.bridges)[l.a.toNat]? = (idsR n.bridges)[l.b.toNat]? := by
    unfold idsR
    rw [List.getElem?_map, List.getElem?_map, List.getElem?_eq_getElem h1, List.getElem?_eq_getElem h2, Option.map_some, Option.map_some, hr _ (List.getElem_mem h1), hr _ (List.getElem_mem h2)]
  rw [decide_eq_true e, Bool.and_true]
theorem ends_iso {n : Net} (h : n.good) (i : Nat) : endsOf n i = isoE (rawE (liveL n) i) := sortE_iso fun _ hx _ hy hp => h.end_one hx hy hp
theorem ports_iso (ls : List Link) (i : Int) : portsOf ls i = isoP (rawP ls i) := by rw [portsOf_eq]; exact sortI_iso _
end Go.Proofs.YtpgcemabkjmliaaGreat
namespace Go.Proofs.YtpgcemabkjmliaaGreat
open Go.RowKit
structure Mind where
  vec : Vec
  age : Int
  rootPort : Int
  ports : List Int
  roles : List Int
  calm : List Int
def Mind.cells (m : Mind) : List V := m.vec.cells ++ [.int .i64 m.age, .int .i64 m.rootPort, .slice (m.ports.map intV1), .slice (m.roles.map intV1), .slice (m.calm.map intV1)]
instance : CellsI Mind.cells 9 := ⟨fun _ => rfl, fun t d h => by
  simp only [Mind.cells, Vec.cells, List.cons_append, List.nil_append, List.mem_cons, List.mem_nil_iff, or_false] at h
  rcases h with rfl | rfl | rfl | rfl | rfl | rfl | rfl | rfl | rfl <;> rfl⟩
def Mind.zero : Mind := ⟨.zero, 0, 0, [], [], []⟩
def mindsRow (l : List Mind) : List V := [.slice (l.map Mind.cells)]
instance : CellsI mindsRow 1 := ⟨fun _ => rfl, fun t d h => by
  simp only [mindsRow, List.mem_cons, List.mem_nil_iff, or_false] at h
  subst h; rfl⟩
def talkV (t : List (List Mind)) : V := .agg [.slice (t.map mindsRow)]
def hearOf (l : List Mind) (e : End) : Offer := ⟨e.port, e.cost, ((l[e.other.toNat]?).getD .zero).age, { ((l[e.other.toNat]?).getD .zero).vec with port := e.oport }⟩
def hears (ends : List End) (l : List Mind) : List Offer := ends.map (hearOf l)
def calmOf (r c : Int) : Int := if r = 1 ∨ r = 2 then (if c < 49 then c else 49) + 1 else 0
def calmsOf (roles calm : List Int) : List Int := (List.range roles.length).map fun k => calmOf ((roles[k]?).getD 0) ((calm[k]?).getD 0)
def mindOf (n : Net) (tree : Int) (i : Nat) (ends : List End) (l : List Mind) : Mind :=
  let c := chooseS (idN n tree i) (hears ends l)
  let v := c.says (idN n tree i)
  let rs := rolesP ends v c.port (hears ends l) (portsOf n.links i)
  ⟨v, c.age, c.port, portsOf n.links i, rs, calmsOf rs ((l[i]?).getD .zero).calm⟩
def tickT (n : Net) (tree : Int) (l : List Mind) : List Mind := (List.range l.length).map fun i => mindOf n tree i (endsOf n i) l
def tickN (n : Net) (t : List (List Mind)) : List (List Mind) := (List.range t.length).map fun (k : Nat) => tickT n k ((t[k]?).getD [])
def ticksN (n : Net) (t : List (List Mind)) : Nat → List (List Mind)
  | 0 => t
  | k + 1 => tickN n (ticksN n t k)
def mind0 (n : Net) (tree : Int) (i : Nat) : Mind := ⟨⟨idN n tree i, 0, idN n tree i, 0⟩, 0, -1, portsOf n.links i, (portsOf n.links i).map fun _ => 0, (portsOf n.links i).map fun _ => 0⟩
def start0 (n : Net) (trees : Nat) : List (List Mind) := (List.range trees).map fun k : Nat => (List.range n.bridges.length).map (mind0 n k)
structure Doing where
  kind : Int
  n : Int
  tree : Int
  value : Int
def Doing.cells (d : Doing) : List V := [.int .i64 d.kind, .int .i64 d.n, .int .i64 d.tree, .int .i64 d.value]
def setPrio (ps : List Int) (tree : Nat) (v : Int) : List Int := (ps ++ List.replicate (tree + 1 - ps.length) 32768).set tree v
def doS (n : Net) (d : Doing) : Net × Int :=
  if d.kind = 2 ∨ d.kind = 3 ∨ d.kind = 4 then
    if d.n < 0 ∨ (n.links.length : Int) ≤ d.n then (n, 6)
    else if d.kind ≠ 4 then (⟨n.bridges, n.links.modify d.n.toNat fun l => { l with up := decide (d.kind = 2) }⟩, 0)
    else if d.value < 1 ∨ 200000 < d.value then (n, 3)
    else (⟨n.bridges, n.links.modify d.n.toNat fun l => { l with cost := d.value }⟩, 0)
  else if d.kind = 5 then
    if d.n < 0 ∨ (n.bridges.length : Int) ≤ d.n then (n, 6)
    else if d.tree < 0 ∨ 15 < d.tree ∨ d.value < 0 ∨ 61440 < d.value ∨ d.value.tmod 4096 ≠ 0 then (n, 3)
    else (⟨n.bridges.modify d.n.toNat fun b => { b with prios := setPrio b.prios d.tree.toNat d.value }, n.links⟩, 0)
  else (n, 1)
def onLoop : Nat → List Doing → Net → List (List Mind) → Option (Net × List (List Mind)) × (Int × Nat)
  | _, [], n, t => (some (n, t), (0, 0))
  | i, d :: r, n, t =>
    if d.kind = 1 then
      if d.n < 0 ∨ 200 < d.n then (none, (3, i)) else onLoop (i + 1) r n (ticksN n t d.n.toNat)
    else match doS n d with
      | (n', e) => if e ≠ 0 then (none, (e, i)) else onLoop (i + 1) r n' t
theorem ownLe2 {s e : Mem} {ρ : Nat → Option Nat} {g g0 ver0 ver lo len sz : Nat} {frz nw : Bool} {xs : List (List V)} (hρ : ρ g = some g0) (hs : s.at g0 = .row ver0 frz nw sz xs) (he : e.at g = .row ver frz nw sz xs) : slotLe s e ρ (.own g0 ver0 lo len) (.own g ver lo len) := by
  show (match ρ g with
    | some g0' => ∃ r, ownView s (.own g0 ver0 lo len) = some (g0', r) ∧ ownView e (.own g ver lo len) = some (g, r)
    | none => (D.own g0 ver0 lo len) = .nil ∧ ∃ nw sz, ownView e (.own g ver lo len) = some (g, 0, 0, false, nw, sz, []))
  rw [hρ]
  refine ⟨(lo, len, frz, nw, sz, xs), ?_, ?_⟩ <;> simp only [ownView, hs, he] <;> rw [show Nat.beq _ _ = true from Nat.beq_refl _] <;> rfl
theorem calmsOf_len (rs calm : List Int) : (calmsOf rs calm).length = rs.length := by simp [calmsOf]
structure goodM (n : Net) (i : Nat) (m : Mind) : Prop where
  p : m.ports = portsOf n.links i
  r : m.roles.length = (portsOf n.links i).length
  c : m.calm.length = (portsOf n.links i).length
  b : ∀ c ∈ m.calm, 0 ≤ c ∧ c ≤ 50
structure goodT (n : Net) (t : List (List Mind)) : Prop where
  l : t.length ≤ 4
  m : ∀ l ∈ t, l.length = n.bridges.length ∧ ∀ (i : Nat) m, l[i]? = some m → goodM n i m
def startA (n : Net) (trees : Int) : List (List Mind) × (Int × Nat) := if n.wrong.1 ≠ 0 then ([], n.wrong) else if trees < 1 ∨ 4 < trees then ([], (3, 0)) else (start0 n trees.toNat, (0, 0))
end Go.Proofs.YtpgcemabkjmliaaGreat
