/- Never a ring: mathematics. -/
import Derived.Test.YtpgcemabkjmliaaGreatzdPlL
import Derived.Test.YtpgcemabkjmliaaGreatzbSrt
namespace Go.Proofs.YtpgcemabkjmliaaGreat
open Go.RowKit
def mindC (id : Int) (ends : List End) (ps : List Int) (calm : List Int) (l : List Mind) : Mind :=
  ⟨(chooseS id (hears ends l)).says id, (chooseS id (hears ends l)).age, (chooseS id (hears ends l)).port, ps, rolesP ends ((chooseS id (hears ends l)).says id) (chooseS id (hears ends l)).port (hears ends l) ps, calmsOf (rolesP ends ((chooseS id (hears ends l)).says id) (chooseS id (hears ends l)).port (hears ends l) ps) calm⟩
theorem mindOf_C {n : Net} {tree : Int} {i : Nat} {ends : List End} {l : List Mind} {id : Int} {ps : List Int} (h1 : idN n tree i = id) (h2 : portsOf n.links i = ps) : mindOf n tree i ends l = mindC id ends ps (mAt l i).calm l := by
  subst h1; subst h2; rfl
theorem net2_ends (i : Nat) : endsOf net2 i = isoE (rawE net2.links i) := by rw [ends_iso net2_good, net2_live]
theorem net2_mind (i : Nat) (l : List Mind) : mindOf net2 0 i (endsOf net2 i) l = mindC (idN net2 0 i) (isoE (rawE net2.links i)) (isoP (rawP net2.links i)) (mAt l i).calm l := by
  rw [mindOf_C rfl rfl, net2_ends, ports_iso]
def talk2 : List Mind := [⟨⟨9223372036854775809, 0, 9223372036854775809, 0⟩, 0, -1, [1], [2], [2]⟩, ⟨⟨9223372036854775809, 5, 9223372036854775810, 0⟩, 1, 2, [2], [1], [2]⟩]
theorem net2_start : start0 net2 1 = [[⟨⟨9223372036854775809, 0, 9223372036854775809, 0⟩, 0, -1, [1], [0], [0]⟩, ⟨⟨9223372036854775810, 0, 9223372036854775810, 0⟩, 0, -1, [2], [0], [0]⟩]] := by
  unfold start0 mind0
  simp only [ports_iso]
  with_unfolding_all rfl
theorem net2_tick (l : List Mind) (hl : l.length = 2) : tickN net2 [l] = [[mindC (idN net2 0 0) (isoE (rawE net2.links 0)) (isoP (rawP net2.links 0)) (mAt l 0).calm l, mindC (idN net2 0 1) (isoE (rawE net2.links 1)) (isoP (rawP net2.links 1)) (mAt l 1).calm l]] := by
  have e : tickN net2 [l] = [(List.range l.length).map fun i => mindOf net2 0 i (endsOf net2 i) l] := rfl
  rw [e, hl]
  have : (List.range 2).map (fun i => mindOf net2 0 i (endsOf net2 i) l) = [mindOf net2 0 0 (endsOf net2 0) l, mindOf net2 0 1 (endsOf net2 1) l] := rfl
  rw [this, net2_mind, net2_mind]
  rfl
theorem net2_talk : ticksN net2 (start0 net2 1) 2 = [talk2] := by
  show tickN net2 (tickN net2 (start0 net2 1)) = _
  rw [net2_start, net2_tick _ rfl, net2_tick _ rfl]
  with_unfolding_all rfl
theorem net2_play : playA net2 1 [⟨1, 2, 0, 0⟩] = (some (net2, [talk2]), (0, 0)) := by
  unfold playA startA
  rw [net2_wrong]
  show onA net2 (start0 net2 1) [⟨1, 2, 0, 0⟩] = _
  unfold onA
  rw [net2_wrong]
  show (some (net2, ticksN net2 (start0 net2 1) 2), _) = _
  rw [net2_talk]
attribute [local irreducible] SStep DW DWin DOps thenQ inBlk loopQ retQ retQG FnF FnG FnI FnM Wk IntKind.wrap IntKind.andI IntKind.orI IntKind.xorI IntKind.andNotI IntKind.shlI IntKind.shrI
theorem law7_two : FnF Tryz.prog 39 [] net2.v := by
  refine fnF_of Tryz.func39 rfl rfl rfl ?_
  simp only [envOf]
  repeat' (first | (apply Wa; constructor) | refine Wb rfl ?_ | refine Wc rfl ?_ | refine Wd (by kernel_rfl) ?_ | refine We rfl ?_ | refine Wf rfl ?_ | refine Wi rfl rfl ?_ | ((first | apply dX rfl | apply Da rfl rfl | apply Db rfl rfl (by intro h; first | trivial | exact ⟨h, trivial⟩ | exact ⟨h, h, trivial⟩)); (focus ((try intro hg); first | exact S_al rfl | exact S_bx rfl rfl | exact S_store rfl rfl rfl rfl rfl rfl | (apply Pu.ok; repeat' (first | rfl | exact .inK (by simp only [InK]; omega) | exact .wr | constructor | decide | omega)))); constructor) | refine Pa rfl rfl rfl rfl rfl ?_ | refine Po rfl rfl rfl rfl rfl ?_ | fail)
  refine retN (.cellA inferInstance rfl rfl rfl rfl (.inl rfl) .nil) ?_
  rfl
def tickD (k : Int) : Doing := ⟨1, k, 0, 0⟩
theorem law7_ticks (k : Int) : FnF Tryz.prog 17 [.int .i64 k] (.agg (tickD k).cells) := by
  refine fnF_of Tryz.func17 rfl rfl rfl ?_
  simp only [envOf]
  repeat' (first | (apply Wa; constructor) | refine Wb rfl ?_ | refine Wc rfl ?_ | refine Wd (by kernel_rfl) ?_ | refine We rfl ?_ | refine Wf rfl ?_ | refine Wi rfl rfl ?_ | ((first | apply dX rfl | apply Da rfl rfl | apply Db rfl rfl (by intro h; first | trivial | exact ⟨h, trivial⟩ | exact ⟨h, h, trivial⟩)); (focus ((try intro hg); first | exact S_al rfl | exact S_bx rfl rfl | exact S_store rfl rfl rfl rfl rfl rfl | (apply Pu.ok; repeat' (first | rfl | exact .inK (by simp only [InK]; omega) | exact .wr | constructor | decide | omega)))); constructor) | refine Pa rfl rfl rfl rfl rfl ?_ | refine Po rfl rfl rfl rfl rfl ?_ | fail)
  refine retN (.cellA inferInstance rfl rfl rfl rfl (by first | exact .inl rfl | exact .inr (flat_of rfl)) .nil) ?_
  rfl
set_option maxHeartbeats 1000000 in
theorem law7_alive : FnF Tryz.prog 15 [] (.bool true) := by
  refine fnF_of Tryz.func15 rfl rfl rfl ?_
  simp only [envOf]
  have hp := talk_Play net2 net2_typed 1 [tickD 2]
  rw [show playA net2 1 [tickD 2] = _ from net2_play] at hp
  repeat' (first | (apply Wa; constructor) | refine Wb rfl ?_ | refine Wc rfl ?_ | refine Wd (by kernel_rfl) ?_ | refine We rfl ?_ | refine Wf rfl ?_ | refine Wi rfl rfl ?_ | ((first | apply dX rfl | apply Da rfl rfl | apply Db rfl rfl (by intro h; first | trivial | exact ⟨h, trivial⟩ | exact ⟨h, h, trivial⟩)); (focus ((try intro hg); first | exact S_call law7_two rfl | exact S_call (law7_ticks 2) rfl | exact S_call hp rfl | exact S_al rfl | exact S_bx rfl rfl | exact S_store rfl rfl rfl rfl rfl rfl | (apply Pu.ok; repeat' (first | rfl | exact .inK (by simp only [InK]; omega) | exact .wr | constructor | decide | omega)))); constructor) | refine Pa rfl rfl rfl rfl rfl ?_ | refine Po rfl rfl rfl rfl rfl ?_ | fail)
  refine ret1 rfl (by first | exact .inl rfl | exact .inr (flat_of rfl)) ?_
  rfl
end Go.Proofs.YtpgcemabkjmliaaGreat
namespace Go.Proofs.YtpgcemabkjmliaaGreat
open Go.RowKit
theorem sidesP_nodup : ∀ {ls : List Link} {p : Link → Bool}, (sidesP ls).Nodup → (sidesP (ls.filter p)).Nodup ∧ ∀ x ∈ sidesP (ls.filter p), x ∈ sidesP ls
  | [], p, _ => by simp [sidesP]
  | l :: r, p, h => by
    have hs : sidesP (l :: r) = (l.a, l.pa) :: (l.b, l.pb) :: sidesP r := rfl
    rw [hs] at h ⊢
    simp only [List.nodup_cons, List.mem_cons, not_or] at h
    obtain ⟨ih1, ih2⟩ := sidesP_nodup (p := p) h.2.2
    rw [List.filter_cons]
    split
    · have hs2 : sidesP (l :: r.filter p) = (l.a, l.pa) :: (l.b, l.pb) :: sidesP (r.filter p) := rfl
      rw [hs2]
      refine ⟨?_, fun x hx => ?_⟩
      · simp only [List.nodup_cons, List.mem_cons, not_or]
        exact ⟨⟨h.1.1, fun hm => h.1.2 (ih2 _ hm)⟩, fun hm => h.2.1 (ih2 _ hm), ih1⟩
      · rcases List.mem_cons.1 hx with rfl | hx
        · exact List.mem_cons_self ..
        · rcases List.mem_cons.1 hx with rfl | hx
          · exact List.mem_cons_of_mem _ (List.mem_cons_self ..)
          · exact List.mem_cons_of_mem _ (List.mem_cons_of_mem _ (ih2 _ hx))
    · exact ⟨ih1, fun x hx => List.mem_cons_of_mem _ (List.mem_cons_of_mem _ (ih2 _ hx))⟩
attribute [local irreducible] SStep DW DWin DOps thenQ inBlk loopQ retQ retQG FnF FnG FnI Wk IntKind.wrap IntKind.andI IntKind.orI IntKind.xorI IntKind.andNotI IntKind.shlI IntKind.shrI Net.wrong Bridge.id Bridge.prio identR idsR liveB liveL sF pF portsOf roleF idN
end Go.Proofs.YtpgcemabkjmliaaGreat
namespace Go.Proofs.YtpgcemabkjmliaaGreat
def join0 (nb : Nat) : List Int := (List.range nb).map fun (i : Nat) => (i : Int)
def prL (x : Link) : Int × Int := (x.a, x.b)
def isPar (n : Net) (tree : Int) (i j : Nat) : Prop := ∃ e, adjN n i e ∧ pF n tree i = e.port ∧ e.other.toNat = j
inductive Desc (n : Net) (tree : Int) (c : Nat) : Nat → Prop
  | refl : Desc n tree c c
  | step {i j : Nat} (h : isPar n tree i j) (d : Desc n tree c j) : Desc n tree c i
section
variable {n : Net} (h : n.good) (tree : Int)
include h
theorem par_one {i j j' : Nat} (h1 : isPar n tree i j) (h2 : isPar n tree i j') : j = j' := by
  obtain ⟨e, a1, p1, o1⟩ := h1
  obtain ⟨e', a2, p2, o2⟩ := h2
  have : e = e' := h.end_one a1 a2 (by rw [← p1, ← p2])
  subst this; omega
theorem par_cost {i j : Nat} (hi : i < n.bridges.length) (h1 : isPar n tree i j) : (sF n tree j).cost < (sF n tree i).cost ∧ j < n.bridges.length := by
  obtain ⟨e, a1, p1, o1⟩ := h1
  have hk := adj_ok h a1
  subst o1
  rcases fin_at h tree hi with ⟨_, _, h3, _⟩ | ⟨e', he', _, h2, h3, _⟩
  · omega
  · have : e' = e := h.end_one he' a1 (by rw [← h3, p1])
    subst this
    exact ⟨by omega, hk.2.2.1⟩
theorem desc_cost {c i : Nat} (hi : i < n.bridges.length) (d : Desc n tree c i) : (sF n tree c).cost ≤ (sF n tree i).cost := by
  induction d with
  | refl => exact Int.le_refl _
  | step hp _ ih =>
    obtain ⟨h1, h2⟩ := par_cost h tree hi hp
    have := ih h2
    omega
end
end Go.Proofs.YtpgcemabkjmliaaGreat
namespace Go.Proofs.YtpgcemabkjmliaaGreat
theorem flatMap_sub {α β : Type} (f : α → List β) {l1 l2 : List α} (h : l1.Sublist l2) : (l1.flatMap f).Sublist (l2.flatMap f) := by
  induction h with
  | slnil => exact .slnil
  | cons a _ ih => rw [List.flatMap_cons]; exact ih.trans (List.sublist_append_right _ _)
  | cons_cons a _ ih => rw [List.flatMap_cons, List.flatMap_cons]; exact (List.Sublist.refl _).append ih
theorem forest_sep {n : Net} (h : n.good) (tree : Int) {xs : List Link} (hnd : (sidesP xs).Nodup) (hf : ∀ x ∈ xs, (0 ≤ x.a ∧ x.a.toNat < n.bridges.length ∧ 0 ≤ x.b ∧ x.b.toNat < n.bridges.length) ∧ (isPar n tree x.a.toNat x.b.toNat ∧ pF n tree x.a.toNat = x.pa ∨ isPar n tree x.b.toNat x.a.toNat ∧ pF n tree x.b.toNat = x.pb)) :
    ∀ l1 x l2, xs = l1 ++ x :: l2 → ∃ f : Nat → Prop, (∀ q ∈ l1, (f q.a.toNat ↔ f q.b.toNat)) ∧ ¬ (f x.a.toNat ↔ f x.b.toNat) := by
  intro l1 x l2 e0
  rw [e0] at hnd
  have hx : x ∈ xs := by rw [e0]; simp
  obtain ⟨⟨x0, ba, x1, bb⟩, hxf⟩ := hf x hx
  have key : ∀ c : Nat, (∀ y ∈ l1, ∀ c' j', isPar n tree c' j' → ((y.a = (c' : Int) ∧ y.pa = pF n tree c') ∨ (y.b = (c' : Int) ∧ y.pb = pF n tree c')) → c' ≠ c) → ∀ y ∈ l1, (Desc n tree c y.a.toNat ↔ Desc n tree c y.b.toNat) := by
    intro c hc y hy
    obtain ⟨⟨y0, _, y1, _⟩, hyf⟩ := hf y (by rw [e0]; simp [hy])
    have par : ∀ i j, isPar n tree i j → i ≠ c → (Desc n tree c i ↔ Desc n tree c j) := fun i j hp hne => by
      constructor
      · intro d
        cases d with
        | refl => exact absurd rfl hne
        | step hp' d' => rw [par_one h tree hp hp']; exact d'
      · intro d; exact .step hp d
    rcases hyf with ⟨g1, g2⟩ | ⟨g1, g2⟩
    · exact par _ _ g1 (hc y hy _ _ g1 (.inl ⟨by omega, g2.symm⟩))
    · exact (par _ _ g1 (hc y hy _ _ g1 (.inr ⟨by omega, g2.symm⟩))).symm
  have hsp : sidesP (l1 ++ x :: l2) = sidesP l1 ++ (x.a, x.pa) :: (x.b, x.pb) :: sidesP l2 := by unfold sidesP; rw [List.flatMap_append, List.flatMap_cons]; rfl
  rw [hsp, List.nodup_append] at hnd
  have hdis : ∀ y ∈ l1, ∀ k : Int × Int, k = (x.a, x.pa) ∨ k = (x.b, x.pb) → ¬ ((y.a, y.pa) = k ∨ (y.b, y.pb) = k) := fun y hy k hk2 hh => by
    have m1 : (y.a, y.pa) ∈ sidesP l1 := List.mem_flatMap.2 ⟨y, hy, List.mem_cons_self ..⟩
    have m2 : (y.b, y.pb) ∈ sidesP l1 := List.mem_flatMap.2 ⟨y, hy, List.mem_cons_of_mem _ (List.mem_cons_self ..)⟩
    have m3 : k ∈ (x.a, x.pa) :: (x.b, x.pb) :: sidesP l2 := by rcases hk2 with rfl | rfl <;> simp
    rcases hh with hh | hh
    · rw [hh] at m1; exact hnd.2.2 _ m1 _ m3 rfl
    · rw [hh] at m2; exact hnd.2.2 _ m2 _ m3 rfl
  rcases hxf with ⟨g1, g2⟩ | ⟨g1, g2⟩
  · refine ⟨Desc n tree x.a.toNat, key _ (fun y hy c' j' hp hc hcc => ?_), fun hh => ?_⟩
    · subst hcc
      refine hdis y hy (x.a, x.pa) (.inl rfl) ?_
      rcases hc with ⟨c1, c2⟩ | ⟨c1, c2⟩
      · exact .inl (by rw [c1, c2, g2]; congr 1; omega)
      · exact .inr (by rw [c1, c2, g2]; congr 1; omega)
    · have d := desc_cost h tree bb (hh.1 .refl)
      have := (par_cost h tree ba g1).1
      exact absurd d (by show ¬ (sF n tree x.a.toNat).cost ≤ (sF n tree x.b.toNat).cost; omega)
  · refine ⟨Desc n tree x.b.toNat, key _ (fun y hy c' j' hp hc hcc => ?_), fun hh => ?_⟩
    · subst hcc
      refine hdis y hy (x.b, x.pb) (.inr rfl) ?_
      rcases hc with ⟨c1, c2⟩ | ⟨c1, c2⟩
      · exact .inl (by rw [c1, c2, g2]; congr 1; omega)
      · exact .inr (by rw [c1, c2, g2]; congr 1; omega)
    · have d := desc_cost h tree ba (hh.2 .refl)
      have := (par_cost h tree bb g1).1
      exact absurd d (by show ¬ (sF n tree x.b.toNat).cost ≤ (sF n tree x.a.toNat).cost; omega)
theorem fwd_par {n : Net} (h : n.good) (tree : Int) {y : Link} (hy : y ∈ n.links) (h1 : roleF n tree y.a.toNat y.pa = 1 ∨ roleF n tree y.a.toNat y.pa = 2) (h2 : roleF n tree y.b.toNat y.pb = 1 ∨ roleF n tree y.b.toNat y.pb = 2) :
    isPar n tree y.a.toNat y.b.toNat ∧ pF n tree y.a.toNat = y.pa ∨ isPar n tree y.b.toNat y.a.toNat ∧ pF n tree y.b.toNat = y.pb := by
  have hk := h.lk y hy
  have a0 := hk.a0
  have a1 := hk.a1
  have b0 := hk.b0
  have b1 := hk.b1
  have hai : y.a.toNat < n.bridges.length := by omega
  have hex : ∃ e, adjN n y.a.toNat e ∧ e.port = y.pa := Classical.byContradiction fun hn => by
    have := roleF_none (n := n) (tree := tree) (i := y.a.toNat) (p := y.pa) (fun e he hp => hn ⟨e, he, hp⟩)
    omega
  obtain ⟨e, he, hp⟩ := hex
  have s1 : (((y.a.toNat : Nat) : Int), e.port) = (y.a, y.pa) := by rw [hp]; congr 1; omega
  have hs := sides_mono (fun l hl => live_sub hl) (rawE_side he)
  rw [s1] at hs
  have hs2 : ((y.a, y.pa), (⟨y.pa, y.cost, y.b, y.pb⟩ : End)) ∈ sides n.links := List.mem_flatMap.2 ⟨y, hy, List.mem_cons_self ..⟩
  have hee := assoc_one (by rw [sides_fst]; exact h.po) hs hs2
  subst hee
  have r2 := role_two h tree hai he
  simp only at r2
  rcases r2 with ⟨g1, g2, g3, g4, _⟩ | ⟨g1, g2, g3, g4, _⟩ | ⟨g1, g2, g3, g4⟩ | ⟨g1, g2, g3, g4⟩
  · exact .inl ⟨⟨_, he, g3, rfl⟩, g3⟩
  · exact .inr ⟨⟨_, adj_sym h he, g3, Int.toNat_natCast _⟩, g3⟩
  · omega
  · omega
def Calmed (l : List Mind) : Prop := ∀ i j, 0 < cAt (mAt l i) j → rAt (mAt l i) j = 1 ∨ rAt (mAt l i) j = 2
def Was (m : Net) (tree : Int) (l0 : List Mind) : Prop := (∀ i j, cAt (mAt l0 i) j = 0) ∨ ∃ n', Net.good n' ∧ Kin n' m ∧ (∀ i, i < m.bridges.length → Stands n' tree i (mAt l0 i)) ∧ Calmed l0
structure RI (m : Net) (t : List (List Mind)) (q : Nat) : Prop where
  ok : m.good
  tk : goodT m t
  w : ∀ (k : Nat) l, t[k]? = some l → ∃ l0, l0.length = m.bridges.length ∧ l = tkN m k l0 q ∧ (∀ i j, 0 ≤ cAt (mAt l0 i) j) ∧ Was m k l0
theorem calm_len {n : Net} {t : List (List Mind)} (ht : goodT n t) {l : List Mind} (hl : l ∈ t) {i j : Nat} (h : 0 < cAt (mAt l i) j) : i < l.length ∧ j < (portsOf n.links i).length := by
  unfold cAt at h
  by_cases hi : i < l.length
  · have hm := (ht.m l hl).2 i _ (mAt_get hi)
    refine ⟨hi, ?_⟩
    rw [← hm.c]
    refine Classical.byContradiction fun hn => ?_
    rw [List.getElem?_eq_none (by omega)] at h
    simp at h
  · unfold mAt at h
    rw [show l[i]? = none from List.getElem?_eq_none (by omega)] at h
    simp [Mind.zero] at h
theorem open_role {m : Net} {t : List (List Mind)} {q : Nat} (h : RI m t q) {k : Nat} {l : List Mind} (hl : t[k]? = some l) : ∃ n', Net.good n' ∧ Kin n' m ∧ ∀ i, i < m.bridges.length → ∀ p, opensM (mAt l i) p = true → roleF n' k i p = 1 ∨ roleF n' k i p = 2 := by
  obtain ⟨l0, h0, rfl, hc, hw⟩ := h.w k l hl
  have hlm := List.mem_of_getElem? hl
  have hpos : ∀ i p, opensM (mAt (tkN m k l0 q) i) p = true → i < m.bridges.length → ∃ j, (portsOf m.links i)[j]? = some p ∧ j < (portsOf m.links i).length ∧ 50 ≤ cAt (mAt (tkN m k l0 q) i) j := fun i p ho hi => by
    unfold opensM at ho
    have hgm := (h.tk.m _ hlm).2 i _ (mAt_get (by rw [tkN_len, h0]; exact hi))
    rw [hgm.p] at ho
    cases hx : ixI p (portsOf m.links i) with
    | none => rw [hx] at ho; cases ho
    | some j =>
      rw [hx] at ho
      simp only [Bool.and_eq_true, decide_eq_true_eq] at ho
      exact ⟨j, ixI_some hx, (List.getElem?_eq_some_iff.1 (ixI_some hx)).1, ho.2⟩
  by_cases hq : 33 ≤ q
  · refine ⟨m, h.ok, .refl m, fun i hi p ho => ?_⟩
    obtain ⟨j, hj, hjl, h50⟩ := hpos i p ho hi
    have st := settle_roles h.ok k h0 hi hq
    obtain ⟨q', rfl⟩ : ∃ q', q = q' + 1 := ⟨q - 1, by omega⟩
    rw [calm_tk (by omega) hjl] at h50
    have := calmOf_pos (r := rAt (mAt (tkN m k l0 (q' + 1)) i) j) (c := cAt (mAt (tkN m k l0 q') i) j) (by omega)
    unfold rAt at this
    rw [st.roles, List.getElem?_map, hj] at this
    exact this
  · rcases hw with hw | ⟨n', g', k', st, ca⟩
    · refine ⟨m, h.ok, .refl m, fun i hi p ho => ?_⟩
      obtain ⟨j, _, hjl, h50⟩ := hpos i p ho hi
      have := (calm_back (n := m) (tree := k) (l := l0) (i := i) (j := j) (by omega) hjl (hc i j) q).2
      rw [hw] at this
      omega
    · refine ⟨n', g', k', fun i hi p ho => ?_⟩
      obtain ⟨j, hj, hjl, h50⟩ := hpos i p ho hi
      have := (calm_back (n := m) (tree := k) (l := l0) (i := i) (j := j) (by omega) hjl (hc i j) q).2
      have := ca i j (by omega)
      unfold rAt at this
      rw [(st i hi).roles, List.getElem?_map, ← k'.ports, hj] at this
      exact this
theorem no_rings {m : Net} {t : List (List Mind)} {q : Nat} (h : RI m t q) {k : Nat} {l : List Mind} (hl : t[k]? = some l) {xs : List Link} (hsub : xs.Sublist (liveL m)) (ho : ∀ x ∈ xs, opensM (mAt l x.a.toNat) x.pa = true ∧ opensM (mAt l x.b.toNat) x.pb = true) :
    ∀ l1 x l2, xs = l1 ++ x :: l2 → ∃ f : Nat → Prop, (∀ q ∈ l1, (f q.a.toNat ↔ f q.b.toNat)) ∧ ¬ (f x.a.toNat ↔ f x.b.toNat) := by
  obtain ⟨n', g', kn, hr⟩ := open_role h hl
  have hin : ∀ x ∈ xs, x ∈ m.links := fun x hx => live_sub (hsub.subset hx)
  have hnd : (sidesP xs).Nodup := by
    have h1 : (sidesP (liveL m)).Nodup := (sidesP_nodup (p := liveB m.bridges) h.ok.po).1
    have h2 : (sidesP xs).Sublist (sidesP (liveL m)) := by
      unfold sidesP
      exact flatMap_sub _ hsub
    exact h2.nodup h1
  refine forest_sep g' k hnd fun x hx => ?_
  have hk := h.ok.lk x (hin x hx)
  have a0 := hk.a0
  have a1 := hk.a1
  have b0 := hk.b0
  have b1 := hk.b1
  have hnb := kn.nb
  refine ⟨⟨a0, by omega, b0, by omega⟩, ?_⟩
  obtain ⟨j, hj, hxj⟩ := List.mem_iff_getElem.1 (hin x hx)
  have e : (m.links.map keyL)[j]? = some (keyL x) := by rw [List.getElem?_map, List.getElem?_eq_getElem hj, hxj]; rfl
  rw [kn.lk, List.getElem?_map] at e
  obtain ⟨y, hy, he⟩ := Option.map_eq_some_iff.1 e
  unfold keyL at he
  simp only [Prod.mk.injEq] at he
  obtain ⟨⟨e1, e2⟩, e3, e4⟩ := he
  have o := ho x hx
  have r1 := hr x.a.toNat (by omega) x.pa o.1
  have r2 := hr x.b.toNat (by omega) x.pb o.2
  rw [← e1, ← e2] at r1
  rw [← e3, ← e4] at r2
  have := fwd_par g' k (List.mem_of_getElem? hy) r1 r2
  rw [e1, e2, e3, e4] at this
  exact this
theorem RI.ticks {m : Net} {t : List (List Mind)} {q : Nat} (h : RI m t q) (T : Nat) : RI m (ticksN m t T) (q + T) where
  ok := h.ok
  tk := ticksN_good h.tk T
  w k l hl := by
    rw [ticksN_get] at hl
    obtain ⟨l1, h1, rfl⟩ := Option.map_eq_some_iff.1 hl
    obtain ⟨l0, h0, rfl, hc, hw⟩ := h.w k l1 h1
    exact ⟨l0, h0, by rw [tkN_add], hc, hw⟩
theorem RI.start {n : Net} (hg : n.good) {trees : Nat} (ht : trees ≤ 4) : RI n (start0 n trees) 0 where
  ok := hg
  tk := start0_good ht
  w k l hl := by
    have hz : ∀ i j, cAt (mAt l i) j = 0 := fun i j => by
      unfold start0 at hl
      rw [List.getElem?_map] at hl
      obtain ⟨k', _, rfl⟩ := Option.map_eq_some_iff.1 hl
      unfold cAt mAt
      rw [List.getElem?_map]
      cases hi : (List.range n.bridges.length)[i]? with
      | none => simp [Mind.zero]
      | some i' =>
        simp only [Option.map_some, Option.getD_some, mind0]
        rw [List.getElem?_map]
        cases (portsOf n.links i')[j]? <;> rfl
    exact ⟨l, ((start0_good (n := n) ht).m l (List.mem_of_getElem? hl)).1, rfl, fun i j => by rw [hz]; exact Int.le_refl _, .inl hz⟩
theorem RI.change {m m' : Net} {t : List (List Mind)} {q : Nat} (h : RI m t q) (hq : 40 ≤ q) (hk : Kin m m') (hg : m'.good) : RI m' t 0 where
  ok := hg
  tk := goodT_kin hk h.tk
  w k l hl := by
    obtain ⟨l0, h0, rfl, hc, hw⟩ := h.w k l hl
    have hlm := List.mem_of_getElem? hl
    refine ⟨tkN m k l0 q, by rw [tkN_len, h0, hk.nb], rfl, fun i j => ?_, .inr ⟨m, h.ok, hk, fun i hi => settle_roles h.ok k h0 (by rw [← hk.nb]; exact hi) (by omega), fun i j hp => ?_⟩⟩
    · by_cases hi : i < l0.length
      · by_cases hj : j < (portsOf m.links i).length
        · exact (calm_back hi hj (hc i j) q).1
        · refine Classical.byContradiction fun hn => ?_
          have : cAt (mAt (tkN m k l0 q) i) j = 0 := by
            have hgm := (h.tk.m _ hlm).2 i _ (mAt_get (by rw [tkN_len]; exact hi))
            unfold cAt
            rw [List.getElem?_eq_none (by rw [hgm.c]; omega)]; rfl
          omega
      · unfold cAt mAt
        rw [show (tkN m k l0 q)[i]? = none from List.getElem?_eq_none (by rw [tkN_len]; omega)]
        simp [Mind.zero]
    · obtain ⟨hi, hj⟩ := calm_len h.tk hlm hp
      rw [tkN_len] at hi
      obtain ⟨q', rfl⟩ : ∃ q', q = q' + 1 := ⟨q - 1, by omega⟩
      rw [calm_tk hi hj] at hp
      exact calmOf_pos hp
theorem RI.again {m m' : Net} {t : List (List Mind)} (h : RI m t 0) (hk : Kin m m') (hg : m'.good) : RI m' t 0 where
  ok := hg
  tk := goodT_kin hk h.tk
  w k l hl := by
    obtain ⟨l0, h0, e, hc, hw⟩ := h.w k l hl
    refine ⟨l0, by rw [h0, hk.nb], e, hc, ?_⟩
    rcases hw with hw | ⟨n', g', k', st, ca⟩
    · exact .inl hw
    · exact .inr ⟨n', g', k'.trans hk, fun i hi => st i (by rw [← hk.nb]; exact hi), ca⟩
def apartL : Nat → Bool → Int → List Doing → Bool
  | _, _, _, [] => true
  | i, pt, c, d :: r => if d.kind = 1 then apartL (i + 1) true (min (IntKind.i64.wrap (c + d.n)) 40) r else if c < 40 ∧ 0 < i ∧ pt = true then false else apartL (i + 1) false 0 r
theorem wrap_small {a : Int} (h : 0 ≤ a) (h2 : a ≤ 1000) : IntKind.i64.wrap a = a := wrap_in (by simp only [InK]; omega)
theorem rings_run : ∀ (r r1 : List Doing) (i j : Nat) (pt : Bool) (c : Int) (m : Net) (t : List (List Mind)) (q : Nat), 0 < i → RI m t q → c = (if (q : Int) < 40 then (q : Int) else 40) → (pt = false → q = 0) → apartL i pt c r = true → r1 <+: r →
    ∀ m' t' f, onLoop j r1 m t = (some (m', t'), f) → ∃ q', RI m' t' q'
  | [], r1, i, j, pt, c, m, t, q, hi, h, hc, hp, ha, hpre, m', t', f, ho => by
    rw [List.prefix_nil.1 hpre, onLoop] at ho
    injection ho with ho _
    injection ho with ho
    injection ho with e1 e2
    subst e1; subst e2
    exact ⟨q, h⟩
  | d :: r, [], i, j, pt, c, m, t, q, hi, h, hc, hp, ha, hpre, m', t', f, ho => by
    rw [onLoop] at ho
    injection ho with ho _
    injection ho with ho
    injection ho with e1 e2
    subst e1; subst e2
    exact ⟨q, h⟩
  | d :: r, d1 :: r1, i, j, pt, c, m, t, q, hi, h, hc, hp, ha, hpre, m', t', f, ho => by
    obtain ⟨rfl, hpre'⟩ := List.cons_prefix_cons.1 hpre
    rw [onLoop] at ho
    rw [apartL] at ha
    by_cases h1 : d1.kind = 1
    · rw [if_pos h1] at ho ha
      by_cases h2 : d1.n < 0 ∨ 200 < d1.n
      · rw [if_pos h2] at ho; cases ho
      · rw [if_neg h2] at ho
        rw [wrap_small (by split at hc <;> omega) (by split at hc <;> omega)] at ha
        refine rings_run r r1 (i + 1) (j + 1) true _ m _ (q + d1.n.toNat) (by omega) (h.ticks _) ?_ (fun h => by cases h) ha hpre' m' t' f ho
        split at hc <;> split <;> omega
    · rw [if_neg h1] at ho ha
      have hk := doS_kin m d1
      have hgd := doS_good h.ok d1
      generalize doS m d1 = x at ho hk hgd
      obtain ⟨m1, e⟩ := x
      by_cases h2 : e ≠ 0
      · simp only [if_pos h2] at ho; cases ho
      · simp only [if_neg h2] at ho
        have hg1 := hgd (by simpa using h2)
        by_cases h3 : c < 40 ∧ 0 < i ∧ pt = true
        · rw [if_pos h3] at ha; cases ha
        · rw [if_neg h3] at ha
          have hr : RI m1 t 0 := by
            by_cases h4 : c < 40
            · have hpt : pt = false := by
                cases pt with
                | false => rfl
                | true => exact absurd ⟨h4, hi, rfl⟩ h3
              have hq := hp hpt
              subst hq
              exact h.again hk hg1
            · exact h.change (by split at hc <;> omega) hk hg1
          exact rings_run r r1 (i + 1) (j + 1) false 0 m1 t 0 (by omega) hr (by simp) (fun _ => rfl) ha hpre' m' t' f ho
def rstep (g : List Int) (p : Int × Int) : List Int := g.map fun v => if v = (g[p.1.toNat]?).getD 0 then (g[p.2.toNat]?).getD 0 else v
structure LInv (nb : Nat) (l : List (Int × Int)) (g : List Int) : Prop where
  len : g.length = nb
  resp : ∀ f : Nat → Prop, (∀ p ∈ l, (f p.1.toNat ↔ f p.2.toNat)) → ∀ i j, i < nb → j < nb → g[i]? = g[j]? → (f i ↔ f j)
theorem linv_zero (nb : Nat) : LInv nb [] (join0 nb) where
  len := by simp [join0]
  resp f _ i j hi hj h := by
    unfold join0 at h
    rw [List.getElem?_map, List.getElem?_map, List.getElem?_range hi, List.getElem?_range hj] at h
    simp only [Option.map_some, Option.some.injEq] at h
    have : i = j := by omega
    rw [this]
theorem linv_step {nb : Nat} {l : List (Int × Int)} {g : List Int} (h : LInv nb l g) {p : Int × Int} (h1 : p.1.toNat < nb) (h2 : p.2.toNat < nb) : LInv nb (l ++ [p]) (rstep g p) where
  len := by unfold rstep; rw [List.length_map, h.len]
  resp f hf i j hi hj he := by
    have hr := h.resp f (fun q hq => hf q (by simp [hq]))
    have hp := hf p (by simp)
    have hl := h.len
    have gi : g[i]? = some (g[i]'(by omega)) := List.getElem?_eq_getElem _
    have gj : g[j]? = some (g[j]'(by omega)) := List.getElem?_eq_getElem _
    have ga : g[p.1.toNat]? = some (g[p.1.toNat]'(by omega)) := List.getElem?_eq_getElem _
    have gb : g[p.2.toNat]? = some (g[p.2.toNat]'(by omega)) := List.getElem?_eq_getElem _
    unfold rstep at he
    rw [List.getElem?_map, List.getElem?_map, gi, gj, ga, gb] at he
    simp only [Option.map_some, Option.getD_some, Option.some.injEq] at he
    have r1 := hr i p.1.toNat hi h1
    have r2 := hr j p.1.toNat hj h1
    have r3 := hr i p.2.toNat hi h2
    have r4 := hr j p.2.toNat hj h2
    have r5 := hr i j hi hj
    rw [gi, ga] at r1
    rw [gj, ga] at r2
    rw [gi, gb] at r3
    rw [gj, gb] at r4
    rw [gi, gj] at r5
    simp only [Option.some.injEq] at r1 r2 r3 r4 r5
    split at he
    · rename_i c1
      split at he
      · rename_i c2
        exact (r1 c1).trans (r2 c2).symm
      · exact ((r1 c1).trans hp).trans (r4 he.symm).symm
    · split at he
      · rename_i c2
        exact (r3 he).trans (hp.symm.trans (r2 c2).symm)
      · exact r5 he
theorem linv_ne {nb : Nat} {l : List (Int × Int)} {g : List Int} (h : LInv nb l g) {p : Int × Int} (h1 : p.1.toNat < nb) (h2 : p.2.toNat < nb) (hs : ∃ f : Nat → Prop, (∀ q ∈ l, (f q.1.toNat ↔ f q.2.toNat)) ∧ ¬ (f p.1.toNat ↔ f p.2.toNat)) :
    (g[p.1.toNat]?).getD 0 ≠ (g[p.2.toNat]?).getD 0 := fun he => by
  obtain ⟨f, f1, f2⟩ := hs
  have hl := h.len
  refine f2 (h.resp f f1 _ _ h1 h2 ?_)
  rw [List.getElem?_eq_getElem (by omega), List.getElem?_eq_getElem (by omega)] at he ⊢
  simp only [Option.getD_some] at he
  rw [he]
end Go.Proofs.YtpgcemabkjmliaaGreat
