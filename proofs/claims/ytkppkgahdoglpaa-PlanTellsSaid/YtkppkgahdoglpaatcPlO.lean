/- The document's way to a plan: the root port, the roles: mathematics. -/
import Derived.Test.YtkppkgahdoglpaatcPlT
namespace Go.Proofs.Ytkppkgahdoglpaa
open Go.RowKit
theorem live_in {n : Net} (h : n.good) : inK n.bridges.length (liveL n) := fun l hl => by
  have hk := h.lk l (live_sub hl)
  have := hk.a0; have := hk.a1; have := hk.b0; have := hk.b1; have := hk.ne; have := hk.c
  exact ⟨by omega, by omega, by omega, by omega⟩
def costN (n : Net) (tree : Int) (i : Nat) : Int := (sF n tree i).cost
theorem live_cost {n : Net} (h : n.good) (tree : Int) {l : Link} (hl : l ∈ liveL n) : (sF n tree l.a.toNat).root = (sF n tree l.b.toNat).root ∧ costN n tree l.a.toNat ≤ costN n tree l.b.toNat + l.cost ∧ costN n tree l.b.toNat ≤ costN n tree l.a.toNat + l.cost := by
  obtain ⟨ha, hb, _⟩ := live_in h l hl
  obtain ⟨a1, a2⟩ := adj_of_live h hl
  have r1 := fin_root h tree ha a1
  have l1 := fin_le h tree ha a1
  have l2 := fin_le h tree hb a2
  simp only at r1 l1 l2
  unfold leL at l1 l2
  unfold costN
  exact ⟨r1, by omega, by omega⟩
theorem conn_root {n : Net} (h : n.good) (tree : Int) {i j : Nat} (hc : Conn (liveL n) i j) : (sF n tree i).root = (sF n tree j).root := by
  induction hc with
  | refl => rfl
  | ab _ hl ih => exact ih.trans (live_cost h tree hl).1
  | ba _ hl ih => exact ih.trans (live_cost h tree hl).1.symm
theorem adj_conn {n : Net} (_h : n.good) {i : Nat} {e : End} (he : adjN n i e) : Conn (liveL n) i e.other.toNat ∧ ∃ l ∈ liveL n, l.cost = e.cost ∧ ((l.a.toNat = i ∧ l.b.toNat = e.other.toNat) ∨ (l.b.toNat = i ∧ l.a.toNat = e.other.toNat)) := by
  unfold adjN rawE endAt at he
  obtain ⟨l, hl, he⟩ := List.mem_flatMap.1 he
  rcases List.mem_append.1 he with he | he
  · split at he
    · rename_i ha
      simp only [List.mem_singleton] at he; subst he
      have : l.a.toNat = i := by omega
      refine ⟨?_, l, hl, rfl, .inl ⟨this, rfl⟩⟩
      subst this
      exact .ab (.refl _) hl
    · cases he
  · split at he
    · rename_i ha
      simp only [List.mem_singleton] at he; subst he
      have : l.b.toNat = i := by omega
      refine ⟨?_, l, hl, rfl, .inr ⟨this, rfl⟩⟩
      subst this
      exact .ba (.refl _) hl
    · cases he
theorem fin_thereC {n : Net} (h : n.good) (tree : Int) : ∀ (c : Nat) {i : Nat}, i < n.bridges.length → (sF n tree i).cost ≤ c → ∃ r, r < n.bridges.length ∧ Conn (liveL n) i r ∧ idN n tree r = (sF n tree i).root
  | c, i, hi, hc => by
    rcases fin_at h tree hi with ⟨h1, _⟩ | ⟨e, he, h1, h2, h3, h4, _⟩
    · exact ⟨i, hi, .refl i, h1.symm⟩
    · have hk := adj_ok h he
      have hcj := fin_cost h tree hk.2.2.1
      match c, hc with
      | 0, hc => exfalso; have := hcj.1; simp only [Int.natCast_zero] at hc; omega
      | c + 1, hc =>
        obtain ⟨r, r1, r2, r3⟩ := fin_thereC h tree c hk.2.2.1 (by omega)
        exact ⟨r, r1, (adj_conn h he).1.trans r2, by rw [r3, h1]⟩
def lowG (ids : Nat → Int) (g : List Int) (i : Nat) : List Nat → Int → Int
  | [], r => r
  | j :: t, r => lowG ids g i t (if gv g j = gv g i ∧ ids j < r then ids j else r)
theorem lowG_append (ids : Nat → Int) (g : List Int) (i : Nat) : ∀ (l l' : List Nat) (r : Int), lowG ids g i (l ++ l') r = lowG ids g i l' (lowG ids g i l r)
  | [], _, _ => rfl
  | _j :: t, l', _r => lowG_append ids g i t l' _
theorem lowG_le (ids : Nat → Int) (g : List Int) (i : Nat) : ∀ (l : List Nat) (r : Int), lowG ids g i l r ≤ r ∧ (∀ j ∈ l, gv g j = gv g i → lowG ids g i l r ≤ ids j) ∧ (lowG ids g i l r = r ∨ ∃ j ∈ l, gv g j = gv g i ∧ lowG ids g i l r = ids j)
  | [], r => ⟨Int.le_refl _, by simp, .inl rfl⟩
  | j :: t, r => by
    have ih := lowG_le ids g i t (if gv g j = gv g i ∧ ids j < r then ids j else r)
    show lowG ids g i t _ ≤ r ∧ (∀ j' ∈ j :: t, gv g j' = gv g i → lowG ids g i t _ ≤ ids j') ∧ (lowG ids g i t _ = r ∨ ∃ j' ∈ j :: t, gv g j' = gv g i ∧ lowG ids g i t _ = ids j')
    generalize lowG ids g i t (if gv g j = gv g i ∧ ids j < r then ids j else r) = x at ih
    obtain ⟨h1, h2, h3⟩ := ih
    refine ⟨by split at h1 <;> omega, fun j' hj' hg => ?_, ?_⟩
    · rcases List.mem_cons.1 hj' with rfl | hj'
      · split at h1
        · exact h1
        · rename_i hn
          have : ¬ ids j' < r := fun hl => hn ⟨hg, hl⟩
          omega
      · exact h2 j' hj' hg
    · rcases h3 with h3 | ⟨j', hj', hg, he⟩
      · split at h3
        · rename_i hy; exact .inr ⟨j, List.mem_cons_self .., hy.1, h3⟩
        · exact .inl h3
      · exact .inr ⟨j', List.mem_cons_of_mem _ hj', hg, he⟩
def rangeI (k : Nat) : List Int := (List.range k).map fun i : Nat => (i : Int)
theorem rangeI_gv {k i : Nat} (hi : i < k) : gv (rangeI k) i = i := by unfold gv rangeI; simp [hi]
theorem rangeI_len (k : Nat) : (rangeI k).length = k := by simp [rangeI]
def labN (n : Net) : List Int := roundsG (liveL n) (rangeI n.bridges.length) n.bridges.length
theorem low_root {n : Net} (h : n.good) (tree : Int) {i : Nat} (hi : i < n.bridges.length) : lowG (idN n tree) (labN n) i (List.range n.bridges.length) (idN n tree i) = (sF n tree i).root := by
  obtain ⟨h1, h2, h3⟩ := lowG_le (idN n tree) (labN n) i (List.range n.bridges.length) (idN n tree i)
  have hlab : ∀ {i j : Nat}, i < n.bridges.length → j < n.bridges.length → (gv (labN n) i = gv (labN n) j ↔ Conn (liveL n) i j) := fun hi hj => labels_fin (rangeI_len _) (live_in h) (fun i hi => rangeI_gv hi) hi hj
  have hown : ∀ j, j < n.bridges.length → (sF n tree j).root ≤ idN n tree j := fun j hj => by have := fin_own h tree hj; unfold leL at this; omega
  obtain ⟨r, r1, r2, r3⟩ := fin_thereC h tree 2600000 hi (fin_cost h tree hi).2
  have hle := h2 r (List.mem_range.2 r1) ((hlab r1 hi).2 r2.symm)
  have hge : (sF n tree i).root ≤ lowG (idN n tree) (labN n) i (List.range n.bridges.length) (idN n tree i) := by
    rcases h3 with h3 | ⟨j, hj, hg, he⟩
    · rw [h3]; exact hown i hi
    · have hj := List.mem_range.1 hj
      rw [he, ← conn_root h tree ((hlab hj hi).1 hg)]; exact hown j hj
  omega
theorem relaxF_at {f : List Int} {l : Link} (ha : l.a.toNat < f.length) (hb : l.b.toNat < f.length) (hne : l.a.toNat ≠ l.b.toNat) (hc : 1 ≤ l.cost) (j : Nat) :
    gv (relaxF f l) j = if j = l.b.toNat then min (gv f l.b.toNat) (gv f l.a.toNat + l.cost) else if j = l.a.toNat then min (gv f l.a.toNat) (gv f l.b.toNat + l.cost) else gv f j := by
  unfold relaxF
  dsimp only
  by_cases h1 : gv f l.a.toNat + l.cost < gv f l.b.toNat
  · rw [if_pos h1, gv_set hb, if_pos rfl, gv_set hb, if_neg (Ne.symm hne), if_neg (by omega), gv_set hb]
    by_cases h2 : j = l.b.toNat
    · rw [if_pos h2, if_pos h2.symm]; omega
    · rw [if_neg h2, if_neg (Ne.symm h2)]
      by_cases h3 : j = l.a.toNat
      · rw [if_pos h3, h3]; omega
      · rw [if_neg h3]
  · rw [if_neg h1]
    by_cases h2 : gv f l.b.toNat + l.cost < gv f l.a.toNat
    · rw [if_pos h2, gv_set ha]
      by_cases h3 : j = l.b.toNat
      · rw [if_pos h3, if_neg (by omega), h3]; omega
      · rw [if_neg h3]
        by_cases h4 : j = l.a.toNat
        · rw [if_pos h4, if_pos h4.symm]; omega
        · rw [if_neg h4, if_neg (Ne.symm h4)]
    · rw [if_neg h2]
      by_cases h3 : j = l.b.toNat
      · rw [if_pos h3, h3]; omega
      · rw [if_neg h3]
        by_cases h4 : j = l.a.toNat
        · rw [if_pos h4, h4]; omega
        · rw [if_neg h4]
theorem foldF_le : ∀ {ls : List Link} {f : List Int}, inK f.length ls → (∀ j, gv (ls.foldl relaxF f) j ≤ gv f j) ∧
    ∀ l ∈ ls, gv (ls.foldl relaxF f) l.a.toNat ≤ gv f l.b.toNat + l.cost ∧ gv (ls.foldl relaxF f) l.b.toNat ≤ gv f l.a.toNat + l.cost
  | [], f, _ => ⟨fun j => Int.le_refl _, by simp⟩
  | l :: r, f, h => by
    obtain ⟨ha, hb, hne, hc⟩ := h l (List.mem_cons_self ..)
    have hone : ∀ j, gv (relaxF f l) j ≤ gv f j := fun j => by
      rw [relaxF_at ha hb hne hc]
      split
      · rename_i hj; subst hj; omega
      · split
        · rename_i hj; subst hj; omega
        · exact Int.le_refl _
    obtain ⟨h1, h2⟩ := foldF_le (ls := r) (f := relaxF f l) (by rw [relaxF_len]; exact fun x hx => h x (List.mem_cons_of_mem _ hx))
    refine ⟨fun j => Int.le_trans (h1 j) (hone j), fun x hx => ?_⟩
    rw [List.foldl_cons]
    rcases List.mem_cons.1 hx with rfl | hx
    · have k1 := h1 x.a.toNat
      have k2 := h1 x.b.toNat
      rw [relaxF_at ha hb hne hc] at k1 k2
      rw [if_neg hne, if_pos rfl] at k1
      rw [if_pos rfl] at k2
      omega
    · obtain ⟨k1, k2⟩ := h2 x hx
      have := hone x.a.toNat
      have := hone x.b.toNat
      omega
theorem foldF_ge {c : Nat → Int} : ∀ {ls : List Link} {f : List Int}, inK f.length ls → (∀ l ∈ ls, c l.a.toNat ≤ c l.b.toNat + l.cost ∧ c l.b.toNat ≤ c l.a.toNat + l.cost) → (∀ j, j < f.length → c j ≤ gv f j) → ∀ j, j < f.length → c j ≤ gv (ls.foldl relaxF f) j
  | [], _, _, _, h, j, hj => h j hj
  | l :: r, f, h, hc, h0, j, hj => by
    obtain ⟨ha, hb, hne, hc1⟩ := h l (List.mem_cons_self ..)
    obtain ⟨k1, k2⟩ := hc l (List.mem_cons_self ..)
    rw [List.foldl_cons]
    refine foldF_ge (c := c) (ls := r) (f := relaxF f l) (by rw [relaxF_len]; exact fun x hx => h x (List.mem_cons_of_mem _ hx)) (fun x hx => hc x (List.mem_cons_of_mem _ hx)) (fun i hi => ?_) j (by rw [relaxF_len]; exact hj)
    rw [relaxF_len] at hi
    rw [relaxF_at ha hb hne hc1]
    have := h0 _ ha
    have := h0 _ hb
    split
    · rename_i he; subst he; omega
    · split
      · rename_i he; subst he; omega
      · exact h0 i hi
def far0 (n : Net) (tree : Int) : List Int := (List.range n.bridges.length).map fun i => if (sF n tree i).root = idN n tree i then 0 else 1099511627776
theorem far0_len (n : Net) (tree : Int) : (far0 n tree).length = n.bridges.length := by simp [far0]
theorem far0_gv {n : Net} {tree : Int} {i : Nat} (hi : i < n.bridges.length) : gv (far0 n tree) i = if (sF n tree i).root = idN n tree i then 0 else 1099511627776 := by unfold gv far0; simp [hi]
def rankN (n : Net) (tree : Int) (i : Nat) : Nat := (List.range n.bridges.length).countP fun j => decide (costN n tree j < costN n tree i)
theorem far_ge {n : Net} (h : n.good) (tree : Int) : ∀ (t i : Nat), i < n.bridges.length → costN n tree i ≤ gv (roundsF (liveL n) (far0 n tree) t) i
  | 0, i, hi => by
    show _ ≤ gv (far0 n tree) i
    rw [far0_gv hi]
    have := fin_cost h tree hi
    split
    · rename_i hr; unfold costN; rw [((fin_port h tree hi).2 hr)]; omega
    · unfold costN; omega
  | t + 1, i, hi => by
    have hlen : (roundsF (liveL n) (far0 n tree) t).length = n.bridges.length := by rw [roundsF_len, far0_len]
    exact foldF_ge (c := costN n tree) (ls := liveL n) (by rw [hlen]; exact live_in h) (fun l hl => (live_cost h tree hl).2) (by rw [hlen]; exact fun j hj => far_ge h tree t j hj) i (by rw [hlen]; exact hi)
theorem far_le {n : Net} (h : n.good) (tree : Int) : ∀ (t i : Nat), i < n.bridges.length → rankN n tree i ≤ t → gv (roundsF (liveL n) (far0 n tree) t) i ≤ costN n tree i
  | t, i, hi, hr => by
    have hlen : ∀ t, (roundsF (liveL n) (far0 n tree) t).length = n.bridges.length := fun t => by rw [roundsF_len, far0_len]
    have hmono : ∀ t, gv (roundsF (liveL n) (far0 n tree) t) i ≤ gv (far0 n tree) i := fun t => by
      induction t with
      | zero => exact Int.le_refl _
      | succ t ih => exact Int.le_trans ((foldF_le (ls := liveL n) (f := roundsF (liveL n) (far0 n tree) t) (by rw [hlen]; exact live_in h)).1 i) ih
    rcases fin_at h tree hi with ⟨h1, h2, _⟩ | ⟨e, he, h1, h2, _, _⟩
    · have := hmono t
      rw [far0_gv hi, if_pos h1] at this
      unfold costN; omega
    · have hk := adj_ok h he
      obtain ⟨_, l, hl, hcl, hend⟩ := adj_conn h he
      have hlt : costN n tree e.other.toNat < costN n tree i := by unfold costN; omega
      have hrl : rankN n tree e.other.toNat < rankN n tree i := countP_lt (fun x _ hx => decide_eq_true (Int.lt_trans (of_decide_eq_true hx) hlt)) ⟨e.other.toNat, List.mem_range.2 hk.2.2.1, decide_eq_false (Int.lt_irrefl _), decide_eq_true hlt⟩
      match t, hr with
      | 0, hr => omega
      | t + 1, hr =>
        have ih := far_le h tree t e.other.toNat hk.2.2.1 (by omega)
        have h3 := (foldF_le (ls := liveL n) (f := roundsF (liveL n) (far0 n tree) t) (by rw [hlen]; exact live_in h)).2 l hl
        show gv ((liveL n).foldl relaxF (roundsF (liveL n) (far0 n tree) t)) i ≤ _
        unfold costN at ih ⊢
        rcases hend with ⟨e1, e2⟩ | ⟨e1, e2⟩
        · rw [e1, e2] at h3; omega
        · rw [e1, e2] at h3; omega
theorem rank_lt {n : Net} {tree : Int} {i : Nat} (hi : i < n.bridges.length) : rankN n tree i < n.bridges.length := by
  have h1 : rankN n tree i < (List.range n.bridges.length).countP fun _ => true := countP_lt (fun _ _ _ => rfl) ⟨i, List.mem_range.2 hi, decide_eq_false (Int.lt_irrefl _), rfl⟩
  have h2 := List.countP_le_length (p := fun _ => true) (l := List.range n.bridges.length)
  rw [List.length_range] at h2
  omega
def farN (n : Net) (tree : Int) : List Int := roundsF (liveL n) (far0 n tree) n.bridges.length
theorem far_fin {n : Net} (h : n.good) (tree : Int) {i : Nat} (hi : i < n.bridges.length) : gv (farN n tree) i = (sF n tree i).cost := by
  have h1 := far_ge h tree n.bridges.length i hi
  have h2 := far_le h tree n.bridges.length i hi (Nat.le_of_lt (rank_lt hi))
  unfold farN costN at *
  omega
end Go.Proofs.Ytkppkgahdoglpaa
namespace Go.Proofs.Ytkppkgahdoglpaa
def insP (e : Int) : List Int → List Int
  | [] => [e]
  | x :: r => if e ≤ x then e :: x :: r else x :: insP e r
def isoP : List Int → List Int
  | [] => []
  | e :: r => insP e (isoP r)
theorem insP_perm (e : Int) : ∀ l, (insP e l).Perm (e :: l)
  | [] => .refl _
  | x :: r => by
    unfold insP
    split
    · exact .refl _
    · exact ((insP_perm e r).cons x).trans (.swap e x r)
theorem isoP_perm : ∀ l, (isoP l).Perm l
  | [] => .refl _
  | e :: r => (insP_perm e _).trans ((isoP_perm r).cons e)
theorem insP_sorted {e : Int} : ∀ {l : List Int}, l.Pairwise (· ≤ ·) → (insP e l).Pairwise (· ≤ ·)
  | [], _ => by simp [insP]
  | x :: r, h => by
    unfold insP
    obtain ⟨h1, h2⟩ := List.pairwise_cons.1 h
    split
    · rename_i hx
      refine List.pairwise_cons.2 ⟨fun y hy => ?_, h⟩
      rcases List.mem_cons.1 hy with rfl | hy
      · exact hx
      · exact Int.le_trans hx (h1 y hy)
    · rename_i hx
      refine List.pairwise_cons.2 ⟨fun y hy => ?_, insP_sorted h2⟩
      rcases List.mem_cons.1 ((insP_perm e r).mem_iff.1 hy) with rfl | hy
      · omega
      · exact h1 y hy
theorem isoP_sorted : ∀ l, (isoP l).Pairwise (· ≤ ·)
  | [] => .nil
  | _e :: r => insP_sorted (isoP_sorted r)
theorem sortI_iso (l : List Int) : sortI l = isoP l := by
  unfold sortI
  refine List.Perm.eq_of_pairwise (le := fun a b : Int => a ≤ b) (fun a b _ _ h1 h2 => by omega) ?_ (isoP_sorted l) ((List.mergeSort_perm l _).trans (isoP_perm l).symm)
  have := List.pairwise_mergeSort (le := fun x y : Int => decide (x ≤ y)) (fun a b c h1 h2 => by simp at *; omega) (fun a b => by simp; omega) l
  exact this.imp fun h => by simpa using h
theorem ports_iso (ls : List Link) (i : Int) : portsOf ls i = isoP (rawP ls i) := by rw [portsOf_eq]; exact sortI_iso _
end Go.Proofs.Ytkppkgahdoglpaa
namespace Go.Proofs.Ytkppkgahdoglpaa
open Go.RowKit
def hitL (b p : Int) (l : Link) : Bool := (decide (l.a = b) && decide (l.pa = p)) || (decide (l.b = b) && decide (l.pb = p))
def portsU (ls : List Link) (b : Int) (P : Nat) : List Int := (List.range P).flatMap fun q : Nat => (ls.filter (hitL b ((q : Int) + 1))).map fun _ => (q : Int) + 1
theorem portsU_succ (ls : List Link) (b : Int) (P : Nat) : portsU ls b (P + 1) = portsU ls b P ++ (ls.filter (hitL b ((P : Int) + 1))).map fun _ => (P : Int) + 1 := by
  unfold portsU
  rw [List.range_succ, List.flatMap_append]
  simp
theorem portsU_mem {ls : List Link} {b : Int} : ∀ {P : Nat} {x : Int}, x ∈ portsU ls b P → 1 ≤ x ∧ x ≤ P
  | 0, x, h => by simp [portsU] at h
  | P + 1, x, h => by
    rw [portsU_succ] at h
    rcases List.mem_append.1 h with h | h
    · have := portsU_mem h; omega
    · obtain ⟨_, _, rfl⟩ := List.mem_map.1 h; omega
theorem portsU_sorted (ls : List Link) (b : Int) : ∀ P, (portsU ls b P).Pairwise (· ≤ ·)
  | 0 => by simp [portsU]
  | P + 1 => by
    rw [portsU_succ]
    refine List.pairwise_append.2 ⟨portsU_sorted ls b P, ?_, fun x hx y hy => ?_⟩
    · rw [List.pairwise_map]; exact List.pairwise_of_forall (fun _ _ => Int.le_refl _)
    · obtain ⟨_, _, rfl⟩ := List.mem_map.1 hy
      have := portsU_mem hx; omega
theorem portsU_len (ls : List Link) (b : Int) : ∀ P, (portsU ls b P).length ≤ P * ls.length
  | 0 => by simp [portsU]
  | P + 1 => by
    have h1 := portsU_len ls b P
    have h2 := List.length_filter_le (hitL b ((P : Int) + 1)) ls
    rw [portsU_succ, List.length_append, List.length_map, Nat.succ_mul]
    omega
theorem flatMap_two {α β : Type} (f g : α → List β) : ∀ l : List α, (l.flatMap fun x => f x ++ g x).Perm (l.flatMap f ++ l.flatMap g)
  | [] => by simp
  | a :: r => by
    have ih := flatMap_two f g r
    simp only [List.flatMap_cons]
    have h1 : (f a ++ g a ++ (r.flatMap fun x => f x ++ g x)).Perm (f a ++ g a ++ (r.flatMap f ++ r.flatMap g)) := List.Perm.append_left _ ih
    refine h1.trans ?_
    rw [List.append_assoc, List.append_assoc]
    refine List.Perm.append_left _ ?_
    rw [← List.append_assoc, ← List.append_assoc]
    exact List.Perm.append_right _ List.perm_append_comm
theorem flatMap_hit {c : Int} : ∀ (P : Nat), (List.range P).flatMap (fun q : Nat => if c = (q : Int) + 1 then [(q : Int) + 1] else []) = if 1 ≤ c ∧ c ≤ P then [c] else []
  | 0 => by rw [if_neg (by omega)]; rfl
  | P + 1 => by
    rw [List.range_succ, List.flatMap_append, flatMap_hit P]
    simp only [List.flatMap_cons, List.flatMap_nil, List.append_nil]
    by_cases h : c = (P : Int) + 1
    · rw [if_neg (by omega), if_pos h, if_pos (by omega), h]; rfl
    · rw [if_neg h, List.append_nil]
      by_cases h2 : 1 ≤ c ∧ c ≤ P
      · rw [if_pos h2, if_pos (by omega)]
      · rw [if_neg h2, if_neg (by omega)]
theorem hit_one {k : Nat} {l : Link} (h : l.ok k) (b : Int) : (List.range 30).flatMap (fun q : Nat => if hitL b ((q : Int) + 1) l = true then [(q : Int) + 1] else []) = portAt b l := by
  have hpa := h.pa
  have hpb := h.pb
  have hne := h.ne
  unfold portAt hitL
  by_cases ha : l.a = b
  · have hb : ¬ l.b = b := by omega
    rw [if_pos ha, if_neg hb, List.append_nil]
    have := flatMap_hit (c := l.pa) 30
    rw [if_pos (by omega)] at this
    rw [← this]
    congr 1
    funext q
    simp [ha, hb]
  · rw [if_neg ha, List.nil_append]
    by_cases hb : l.b = b
    · rw [if_pos hb]
      have := flatMap_hit (c := l.pb) 30
      rw [if_pos (by omega)] at this
      rw [← this]
      congr 1
      funext q
      simp [ha, hb]
    · rw [if_neg hb]
      simp [ha, hb]
theorem portsU_perm {k : Nat} (b : Int) : ∀ {ls : List Link}, (∀ l ∈ ls, l.ok k) → (portsU ls b 30).Perm (rawP ls b)
  | [], _ => by
    have : portsU [] b 30 = [] := by simp [portsU]
    rw [this]; exact List.Perm.refl _
  | l :: r, h => by
    have h1 : portsU (l :: r) b 30 = (List.range 30).flatMap fun q : Nat => (if hitL b ((q : Int) + 1) l = true then [(q : Int) + 1] else []) ++ ((r.filter (hitL b ((q : Int) + 1))).map fun _ => (q : Int) + 1) := by
      unfold portsU
      congr 1
      funext q
      rw [List.filter_cons]
      split <;> simp
    rw [h1]
    refine (flatMap_two _ _ _).trans ?_
    rw [hit_one (h l (List.mem_cons_self ..)) b]
    exact List.Perm.append_left _ (portsU_perm b fun x hx => h x (List.mem_cons_of_mem _ hx))
theorem portsU_eq {k : Nat} (b : Int) {ls : List Link} (h : ∀ l ∈ ls, l.ok k) : portsU ls b 30 = portsOf ls b := by
  rw [ports_iso]
  exact List.Perm.eq_of_pairwise (le := fun a b : Int => a ≤ b) (fun a b _ _ h1 h2 => by omega) (portsU_sorted ls b 30) (isoP_sorted _) ((portsU_perm b h).trans (isoP_perm _).symm)
end Go.Proofs.Ytkppkgahdoglpaa
namespace Go.Proofs.Ytkppkgahdoglpaa
open Go.RowKit
def vOf (o : Offer) : Vec := { o.vec with cost := o.vec.cost + o.cost }
def candR (c : Int) (o : Offer) : Prop := 0 < c ∧ (vOf o).cost = c
instance (c : Int) (o : Offer) : Decidable (candR c o) := by unfold candR; infer_instance
def betR (s : Int × Vec) (o : Offer) : Prop := s.1 < 0 ∨ (vOf o).cmp s.2 < 0 ∨ (vOf o = s.2 ∧ o.port < s.1)
instance (s : Int × Vec) (o : Offer) : Decidable (betR s o) := by unfold betR; infer_instance
def pickR (c : Int) (s : Int × Vec) (o : Offer) : Int × Vec := if candR c o ∧ betR s o then (o.port, vOf o) else s
theorem pick_inv {c : Int} : ∀ {l : List Offer}, (∀ o ∈ l, 0 ≤ o.port) →
    ((l.foldl (pickR c) (-1, .zero)) = (-1, .zero) ∧ ∀ o ∈ l, ¬ candR c o) ∨
    ∃ o ∈ l, candR c o ∧ l.foldl (pickR c) (-1, .zero) = (o.port, vOf o) ∧ ∀ o' ∈ l, candR c o' → (vOf o).le2 o.port (vOf o') o'.port := by
  intro l
  generalize hn : l.length = n
  induction n generalizing l with
  | zero =>
    intro _
    have : l = [] := List.length_eq_zero_iff.1 hn
    subst this
    exact .inl ⟨rfl, by simp⟩
  | succ n ih =>
    intro hp
    obtain ⟨r, o, rfl⟩ : ∃ r o, l = r ++ [o] := ⟨l.dropLast, l.getLast (by intro h; rw [h] at hn; cases hn), (List.dropLast_concat_getLast _).symm⟩
    have hrl : r.length = n := by simpa using hn
    have hpo := hp o (by simp)
    have ih := ih hrl (fun x hx => hp x (List.mem_append_left _ hx))
    rw [List.foldl_append, List.foldl_cons, List.foldl_nil]
    rcases ih with ⟨e, hno⟩ | ⟨o1, h1, hc1, e, hmin⟩
    · rw [e]
      by_cases hc : candR c o
      · refine .inr ⟨o, by simp, hc, by unfold pickR; rw [if_pos ⟨hc, .inl (by decide)⟩], fun o' ho' hc' => ?_⟩
        rcases List.mem_append.1 ho' with ho' | ho'
        · exact absurd hc' (hno o' ho')
        · simp only [List.mem_singleton] at ho'; subst ho'; exact Vec.le2_refl _ _
      · refine .inl ⟨by unfold pickR; rw [if_neg (fun h => hc h.1)], fun o' ho' => ?_⟩
        rcases List.mem_append.1 ho' with ho' | ho'
        · exact hno o' ho'
        · simp only [List.mem_singleton] at ho'; subst ho'; exact hc
    · rw [e]
      have hp1 := hp o1 (List.mem_append_left _ h1)
      by_cases hb : candR c o ∧ betR (o1.port, vOf o1) o
      · refine .inr ⟨o, by simp, hb.1, by unfold pickR; rw [if_pos hb], fun o' ho' hc' => ?_⟩
        have hlt : (vOf o).cmp (vOf o1) < 0 ∨ ((vOf o).cmp (vOf o1) = 0 ∧ o.port < o1.port) := by
          rcases hb.2 with h | h | ⟨h, h2⟩
          · exact absurd h (by simp only; omega)
          · exact .inl h
          · refine .inr ⟨?_, h2⟩
            simp only at h
            rw [h]; exact Vec.cmp_eq.2 ⟨rfl, rfl, rfl, rfl⟩
        rcases List.mem_append.1 ho' with ho' | ho'
        · exact Vec.le2_trans (Vec.le2_of_lt hlt) (hmin o' ho' hc')
        · simp only [List.mem_singleton] at ho'; subst ho'; exact Vec.le2_refl _ _
      · refine .inr ⟨o1, List.mem_append_left _ h1, hc1, by unfold pickR; rw [if_neg hb], fun o' ho' hc' => ?_⟩
        rcases List.mem_append.1 ho' with ho' | ho'
        · exact hmin o' ho' hc'
        · simp only [List.mem_singleton] at ho'; subst ho'
          refine Vec.le2_total _ _ _ _ fun hlt => hb ⟨hc', ?_⟩
          rcases hlt with h | ⟨h, h2⟩
          · exact .inr (.inl h)
          · refine .inr (.inr ⟨?_, h2⟩)
            obtain ⟨q1, q2, q3, q4⟩ := Vec.cmp_eq.1 h
            exact Vec.ext4 q1 q2 q3 q4
def saysF (n : Net) (tree : Int) : List Vec := (List.range n.bridges.length).map (sF n tree)
theorem saysF_eq (n : Net) (tree : Int) : saysF n tree = saysN n tree (n.bridges.length + 1) := by
  refine List.ext_getElem? fun i => ?_
  by_cases hi : i < n.bridges.length
  · rw [sayN_get hi]; unfold saysF sF; simp [hi]
  · rw [List.getElem?_eq_none (by unfold saysF; simp; omega), List.getElem?_eq_none (by rw [saysN_len]; omega)]
def offersU (n : Net) (tree : Int) (i : Nat) : List Offer := (rawE (liveL n) i).map (offerOf (saysF n tree))
section
variable {n : Net} (h : n.good) (tree : Int)
include h
theorem offerU_eq {i : Nat} {e : End} (he : adjN n i e) : offerOf (saysF n tree) e = ⟨e.port, e.cost, 0, ⟨(sF n tree e.other.toNat).root, (sF n tree e.other.toNat).cost, idN n tree e.other.toNat, e.oport⟩⟩ := by
  rw [saysF_eq, offer_eq h he]; rfl
theorem pick_root {i : Nat} (hi : i < n.bridges.length) : ((offersU n tree i).foldl (pickR (sF n tree i).cost) (-1, .zero)).1 = pF n tree i := by
  have hmem : ∀ {o}, o ∈ offersU n tree i ↔ ∃ e, adjN n i e ∧ o = offerOf (saysF n tree) e := by
    intro o
    unfold offersU adjN
    rw [List.mem_map]
    constructor
    · rintro ⟨e, he, rfl⟩; exact ⟨e, he, rfl⟩
    · rintro ⟨e, he, rfl⟩; exact ⟨e, he, rfl⟩
  have hpp : ∀ o ∈ offersU n tree i, 0 ≤ o.port := fun o ho => by
    obtain ⟨e, he, rfl⟩ := hmem.1 ho
    have := adj_ok h he
    show 0 ≤ e.port
    omega
  have hv : ∀ {e}, adjN n i e → vOf (offerOf (saysF n tree) e) = ⟨(sF n tree e.other.toNat).root, (sF n tree e.other.toNat).cost + e.cost, idN n tree e.other.toNat, e.oport⟩ := fun he => by rw [offerU_eq h tree he]; rfl
  rcases pick_inv (c := (sF n tree i).cost) hpp with ⟨e0, hno⟩ | ⟨o, ho, hc, e0, hmin⟩
  · rw [e0]
    rcases fin_at h tree hi with ⟨_, _, h3, _⟩ | ⟨e, he, h1, h2, h3, h4, _⟩
    · exact h3.symm
    · exfalso
      have hk := adj_ok h he
      have hcj := fin_cost h tree hk.2.2.1
      refine hno _ (hmem.2 ⟨e, he, rfl⟩) ⟨by omega, ?_⟩
      rw [hv he]; exact h2.symm
  · rw [e0]
    obtain ⟨e1, he1, rfl⟩ := hmem.1 ho
    have hc2 := hc.2
    rw [hv he1] at hc2
    rcases fin_at h tree hi with ⟨_, h2, _, _⟩ | ⟨e, he, h1, h2, h3, h4, h5⟩
    · exact absurd hc.1 (by omega)
    · have hr1 := fin_root h tree hi he1
      have a1 := h5 e1 he1 (by omega)
      have a2 := hmin _ (hmem.2 ⟨e, he, rfl⟩) ⟨hc.1, by rw [hv he]; exact h2.symm⟩
      rw [hv he1, hv he] at a2
      have := (Vec.le2_antisymm a1 a2).2.2.2.2
      rw [h3]
      exact this.symm
theorem hit_adj {i : Nat} (p : Int) : (liveL n).any (hitL i p) = (endsOf n i).any (fun e => decide (e.port = p)) := by
  rw [Bool.eq_iff_iff, List.any_eq_true, List.any_eq_true]
  constructor
  · rintro ⟨l, hl, hh⟩
    unfold hitL at hh
    simp only [Bool.or_eq_true, Bool.and_eq_true, decide_eq_true_eq] at hh
    have hk := h.lk l (live_sub hl)
    have a0 := hk.a0
    have b0 := hk.b0
    obtain ⟨a1, a2⟩ := adj_of_live h hl
    rcases hh with ⟨e1, e2⟩ | ⟨e1, e2⟩
    · rw [show l.a.toNat = i by omega] at a1
      exact ⟨_, mem_endsOf.2 a1, decide_eq_true e2⟩
    · rw [show l.b.toNat = i by omega] at a2
      exact ⟨_, mem_endsOf.2 a2, decide_eq_true e2⟩
  · rintro ⟨e, he, hp⟩
    have hp := of_decide_eq_true hp
    have he := mem_endsOf.1 he
    unfold rawE endAt at he
    obtain ⟨l, hl, he⟩ := List.mem_flatMap.1 he
    refine ⟨l, hl, ?_⟩
    unfold hitL
    simp only [Bool.or_eq_true, Bool.and_eq_true, decide_eq_true_eq]
    rcases List.mem_append.1 he with he | he
    · split at he
      · rename_i ha; simp only [List.mem_singleton] at he; subst he; exact .inl ⟨ha, hp⟩
      · cases he
    · split at he
      · rename_i ha; simp only [List.mem_singleton] at he; subst he; exact .inr ⟨ha, hp⟩
      · cases he
theorem offers_any {i : Nat} (f : Offer → Bool) : (offersU n tree i).any f = (offersOf (endsOf n i) (saysN n tree (n.bridges.length + 1))).any f := by
  have _ := h
  unfold offersU offersOf
  rw [saysF_eq, Bool.eq_iff_iff, List.any_eq_true, List.any_eq_true]
  constructor
  · rintro ⟨o, ho, hf⟩
    obtain ⟨e, he, rfl⟩ := List.mem_map.1 ho
    exact ⟨_, List.mem_map.2 ⟨e, mem_endsOf.2 he, rfl⟩, hf⟩
  · rintro ⟨o, ho, hf⟩
    obtain ⟨e, he, rfl⟩ := List.mem_map.1 ho
    exact ⟨_, List.mem_map.2 ⟨e, mem_endsOf.1 he, rfl⟩, hf⟩
theorem roleU_eq {i : Nat} (p : Int) : (if (liveL n).any (hitL i p) then roleOf (sF n tree i) (pF n tree i) p (offersU n tree i) else 0) = roleF n tree i p := by
  unfold roleF
  rw [hit_adj h p]
  split
  · unfold roleOf
    rw [offers_any h tree]
  · rfl
end
end Go.Proofs.Ytkppkgahdoglpaa
