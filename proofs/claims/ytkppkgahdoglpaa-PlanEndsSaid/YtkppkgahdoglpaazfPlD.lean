/- Law: PlanEnds. -/
import Derived.Test.YtkppkgahdoglpaazfPlF
namespace Go.Proofs.Ytkppkgahdoglpaa
open Go.RowKit
def sidesL (ls : List Link) : List ((Int × Int) × (Link × Bool)) := ls.flatMap fun l => [((l.a, l.pa), (l, true)), ((l.b, l.pb), (l, false))]
theorem sidesL_fst (ls : List Link) : (sidesL ls).map (·.1) = sidesP ls := by
  unfold sidesL sidesP
  induction ls with
  | nil => rfl
  | cons l r ih => simp only [List.flatMap_cons, List.map_append, ih]; rfl
theorem mem_sidesL {ls : List Link} {l : Link} (h : l ∈ ls) : ((l.a, l.pa), (l, true)) ∈ sidesL ls ∧ ((l.b, l.pb), (l, false)) ∈ sidesL ls :=
  ⟨List.mem_flatMap.2 ⟨l, h, List.mem_cons_self ..⟩, List.mem_flatMap.2 ⟨l, h, List.mem_cons_of_mem _ (List.mem_cons_self ..)⟩⟩
theorem adj_link {n : Net} {i : Nat} {e : End} (h : adjN n i e) : ∃ y ∈ liveL n, (y.a = i ∧ e.port = y.pa) ∨ (y.b = i ∧ e.port = y.pb) := by
  unfold adjN rawE endAt at h
  obtain ⟨l, hl, he⟩ := List.mem_flatMap.1 h
  refine ⟨l, hl, ?_⟩
  rcases List.mem_append.1 he with he | he
  · split at he
    · rename_i ha; simp only [List.mem_singleton] at he; subst he; exact .inl ⟨ha, rfl⟩
    · cases he
  · split at he
    · rename_i ha; simp only [List.mem_singleton] at he; subst he; exact .inr ⟨ha, rfl⟩
    · cases he
theorem dead_port {n : Net} (h : n.good) {x : Link} (hx : x ∈ n.links) (hd : x ∉ liveL n) : (∀ e, adjN n x.a.toNat e → e.port ≠ x.pa) ∧ (∀ e, adjN n x.b.toNat e → e.port ≠ x.pb) := by
  have hn : ((sidesL n.links).map (·.1)).Nodup := by rw [sidesL_fst]; exact h.po
  have hk := h.lk x hx
  have a0 := hk.a0
  have b0 := hk.b0
  obtain ⟨m1, m2⟩ := mem_sidesL hx
  refine ⟨fun e he hp => ?_, fun e he hp => ?_⟩
  · obtain ⟨y, hy, hc⟩ := adj_link he
    obtain ⟨k1, k2⟩ := mem_sidesL (live_sub hy)
    rcases hc with ⟨h1, h2⟩ | ⟨h1, h2⟩
    · have e1 : (y.a, y.pa) = (x.a, x.pa) := by rw [h1, ← h2, hp]; congr 1; omega
      rw [e1] at k1
      have := assoc_one hn k1 m1
      injection this with this _
      subst this; exact hd hy
    · have e1 : (y.b, y.pb) = (x.a, x.pa) := by rw [h1, ← h2, hp]; congr 1; omega
      rw [e1] at k2
      have := assoc_one hn k2 m1
      injection this with _ this
      cases this
  · obtain ⟨y, hy, hc⟩ := adj_link he
    obtain ⟨k1, k2⟩ := mem_sidesL (live_sub hy)
    rcases hc with ⟨h1, h2⟩ | ⟨h1, h2⟩
    · have e1 : (y.a, y.pa) = (x.b, x.pb) := by rw [h1, ← h2, hp]; congr 1; omega
      rw [e1] at k1
      have := assoc_one hn k1 m2
      injection this with _ this
      cases this
    · have e1 : (y.b, y.pb) = (x.b, x.pb) := by rw [h1, ← h2, hp]; congr 1; omega
      rw [e1] at k2
      have := assoc_one hn k2 m2
      injection this with this _
      subst this; exact hd hy
theorem sidesP_nodup : ∀ {ls : List Link} {p : Link → Bool}, (sidesP ls).Nodup → (sidesP (ls.filter p)).Nodup ∧ ∀ x ∈ sidesP (ls.filter p), x ∈ sidesP ls
  | [], p, _ => by simp [sidesP]
  | l :: r, p, h => by
    have hs : sidesP (l :: r) = (l.a, l.pa) :: (l.b, l.pb) :: sidesP r := rfl
    rw [hs] at h ⊢
    simp only [List.nodup_cons, List.mem_cons, not_or] at h
    obtain ⟨ih1, ih2⟩ := sidesP_nodup (p := p) h.2.2
    rw [List.filter_cons]
    split
    · have hs2 : sidesP (l :: r.filter p) = (l.a, l.pa) :: (l.b, l.pb) :: sidesP (r.filter p) := rfl
      rw [hs2]
      refine ⟨?_, fun x hx => ?_⟩
      · simp only [List.nodup_cons, List.mem_cons, not_or]
        exact ⟨⟨h.1.1, fun hm => h.1.2 (ih2 _ hm)⟩, fun hm => h.2.1 (ih2 _ hm), ih1⟩
      · rcases List.mem_cons.1 hx with rfl | hx
        · exact List.mem_cons_self ..
        · rcases List.mem_cons.1 hx with rfl | hx
          · exact List.mem_cons_of_mem _ (List.mem_cons_self ..)
          · exact List.mem_cons_of_mem _ (List.mem_cons_of_mem _ (ih2 _ hx))
    · exact ⟨ih1, fun x hx => List.mem_cons_of_mem _ (List.mem_cons_of_mem _ (ih2 _ hx))⟩
theorem aside_nodup : ∀ {ls : List Link}, (sidesP ls).Nodup → (ls.map fun x => (x.a, x.pa)).Nodup
  | [], _ => by simp
  | l :: r, h => by
    have hs : sidesP (l :: r) = (l.a, l.pa) :: (l.b, l.pb) :: sidesP r := rfl
    rw [hs] at h
    simp only [List.nodup_cons, List.mem_cons, not_or] at h
    rw [List.map_cons, List.nodup_cons]
    refine ⟨fun hm => ?_, aside_nodup h.2.2⟩
    obtain ⟨y, hy, e⟩ := List.mem_map.1 hm
    exact h.1.2 (by rw [← e]; exact List.mem_flatMap.2 ⟨y, hy, List.mem_cons_self ..⟩)
def asides (ls : List Link) : List (Int × Int) := ls.map fun x => (x.a, x.pa)
theorem aside_new {n : Net} (h : n.good) {k : Nat} {x : Link} (hx : (liveL n)[k]? = some x) : (x.a, x.pa) ∉ asides ((liveL n).take k) ∧ asides ((liveL n).take (k + 1)) = asides ((liveL n).take k) ++ [(x.a, x.pa)] := by
  have hn := aside_nodup (sidesP_nodup (p := liveB n.bridges) h.po).1
  have ht : (liveL n).take (k + 1) = (liveL n).take k ++ [x] := by rw [List.take_add_one, hx]; rfl
  refine ⟨fun hm => ?_, by unfold asides; rw [ht, List.map_append]; rfl⟩
  have hn' : (asides ((liveL n).take (k + 1))).Nodup := by
    unfold asides
    have : ((liveL n).map fun x => (x.a, x.pa)).Nodup := hn
    rw [List.map_take]
    exact this.sublist (List.take_sublist _ _)
  unfold asides at hn' hm
  rw [ht, List.map_append, List.nodup_append] at hn'
  exact hn'.2.2 _ hm _ (by simp) rfl
theorem role_of {p : Place} {ps : List Int} {f : Int → Int} (h1 : p.ports = ps) (h2 : p.roles = ps.map f) (q : Int) : p.role q = if q ∈ ps then f q else 0 := by
  obtain ⟨v, r, a, b⟩ := p
  simp only at h1 h2
  subst h1 h2
  exact role_map q
attribute [local irreducible] SStep DW DWin DOps thenQ inBlk loopQ retQ retQG FnF FnG FnI Wk IntKind.wrap IntKind.andI IntKind.orI IntKind.xorI IntKind.andNotI IntKind.shlI IntKind.shrI Net.wrong Bridge.id Bridge.prio identR idsR liveB planA planF liveL sF pF portsOf roleF idN asides Place.role
set_option maxHeartbeats 8000000 in
theorem law_PlanEnds (n : Net) (ht : n.typed) (tree : Int) : FnF Try.prog 6 [n.v, .int .i64 tree] (.bool true) := by
  refine fnF_of Try.func6 rfl rfl rfl ?_
  simp only [envOf]
  have hp := plan_Plan n ht tree
  rcases planA_cases ht tree with ⟨e, i, he, hpa⟩ | ⟨h, hw, t0, t1, hpa⟩
  · rw [hpa] at hp
    have he' : decide (e ≠ 0) = true := decide_eq_true he
    repeat' (first
    | (apply Stp.go; case a => constructor)
    | refine blk_hit rfl ?_ | refine blk_miss rfl ?_ | refine dnilD (by kernel_rfl) ?_ | refine DW_cond_t rfl ?_ | refine DW_cond_f rfl ?_
    | refine dpOff rfl rfl ?_
    | ((first | apply dX rfl | apply dXon rfl rfl | apply dpMay rfl rfl (by intro h; first | trivial | exact ⟨h, trivial⟩ | exact ⟨h, h, trivial⟩ | exact ⟨h, h, h, trivial⟩)); (case h => ((try intro hg); first | exact S_call law6_alive rfl | exact S_call hp rfl | exact as_bool (S_neq rfl rfl) he' | exact S_al rfl | exact S_bx rfl rfl | exact S_store rfl rfl rfl rfl rfl rfl | (apply Pu.ok; repeat' (first | rfl | exact .inK (by simp only [InK]; omega) | exact .inK (by simp only [InK]; simp at hg; omega) | exact .wr | constructor | decide | omega)))); (try case hp => constructor))
    | refine dpickAnd rfl rfl rfl rfl rfl ?_ | refine dpickOr rfl rfl rfl rfl rfl ?_
    | fail)
    refine ret1 rfl (by first | exact .inl rfl | exact .inr (flat_of rfl)) ?_
    rfl
  rw [hpa] at hp
  have hli := ref6_Live n h
  have hmp : ((planF n tree).map Place.cells).length = n.bridges.length := by rw [List.length_map, plan_len]
  have hml : ((liveL n).map linkV).length = (liveL n).length := by simp
  have hll : (liveL n).length ≤ 40 := by with_unfolding_all exact Nat.le_trans (List.length_filter_le _ _) h.nl
  have hnl := h.nl
  have hmn : (n.links.map linkV).length = n.links.length := by simp
  have hnb := h.nb
  repeat' (first
    | (apply Stp.go; case a => constructor)
    | refine blk_hit rfl ?_ | refine blk_miss rfl ?_ | refine dnilD (by kernel_rfl) ?_ | refine DW_cond_t rfl ?_ | refine DW_cond_f rfl ?_
    | refine DW_tD rfl (by omega) ?_ | refine DW_fD rfl (by omega) ?_
    | refine dpOff rfl rfl ?_
    | (apply dt rfl; case h => first | exact S_mkMapK (kt := 0) (et := 0) portV V.bool _ rfl)
    | ((first | apply dX rfl | apply dXon rfl rfl | apply dpMay rfl rfl (by intro h; first | trivial | exact ⟨h, trivial⟩ | exact ⟨h, h, trivial⟩ | exact ⟨h, h, h, trivial⟩)); (case h => ((try intro hg); first | exact S_call law6_alive rfl | exact S_call hp rfl | exact S_call hli rfl | exact S_mkMapK (kt := 0) (et := 0) portV V.bool _ rfl | exact S_al rfl | exact S_bx rfl rfl | exact S_store rfl rfl rfl rfl rfl rfl | (apply Pu.ok; repeat' (first | rfl | exact .inK (by simp only [InK]; omega) | exact .inK (by simp only [InK]; simp at hg; omega) | exact .wr | constructor | decide | omega)))); (try case hp => constructor))
    | refine dpickAnd rfl rfl rfl rfl rfl ?_ | refine dpickOr rfl rfl rfl rfl rfl ?_
    | fail)
  refine DW_loop (fun k : Nat => ⟨[(2, .ptr 2 0), (5, .dat true (.slice ((planF n tree).map Place.cells))), (7, .mp 25), (27, .dat true (.slice ((liveL n).map linkV))), (28, .dat true (.int .i64 ((liveL n).map linkV).length)), (29, .dat true (.int .i64 k))],
      [(2, .cells false true (n.cells.map (.dat false))), (25, .mapb 0 0 (mapK portV V.bool (hadE (asides ((liveL n).take k)))))], 107⟩)
    (fun k => k ≤ (liveL n).length) (fun k => (liveL n).length - k) 0 (Nat.zero_le _) (by
      have : asides ((liveL n).take 0) = [] := by with_unfolding_all rfl
      rw [this]; exact Wk_g some rfl rfl (by (repeat' (first | exact trivial | rfl | exact listLe_map _ | exact ⟨_, rfl, .inl rfl⟩ | exact ⟨_, rfl, .inr (.inl rfl)⟩ | exact ⟨_, rfl, .inr (.inr rfl)⟩ | refine ⟨_, _, rfl, rfl, ?_⟩ | exact ⟨_, rfl, rfl⟩ | exact ⟨_, _, _, _, rfl, rfl, rfl⟩ | exact ⟨_, rfl⟩ | exact ⟨_, _, rfl⟩ | apply And.intro)))) (fun k hk => ?_)
  by_cases hlt : k < (liveL n).length
  · have hx : (liveL n)[(k : Int).toNat]? = some (liveL n)[k] := by simp [hlt]
    have hx' : (liveL n)[k]? = some (liveL n)[k] := by simp [hlt]
    have hm : (liveL n)[k] ∈ liveL n := List.getElem_mem hlt
    generalize (liveL n)[k] = x at hx hx' hm
    obtain ⟨hnew, hnext⟩ := aside_new h hx'
    have hk' := h.lk x (live_sub hm)
    have a0 := hk'.a0
    have b0 := hk'.b0
    have a1 := hk'.a1
    have b1 := hk'.b1
    have hai : x.a.toNat < n.bridges.length := by omega
    have hbi : x.b.toNat < n.bridges.length := by omega
    obtain ⟨pa, ga, _, _, qa, ra⟩ := plan_at (tree := tree) hai
    obtain ⟨pb, gb, _, _, qb, rb⟩ := plan_at (tree := tree) hbi
    have hpm := port_mem h (live_sub hm)
    have ea : ((x.a.toNat : Nat) : Int) = x.a := by omega
    have eb : ((x.b.toNat : Nat) : Int) = x.b := by omega
    have va := role_of qa ra x.pa
    have vb := role_of qb rb x.pb
    rw [ea, if_pos hpm.1] at va
    rw [eb, if_pos hpm.2] at vb
    have ca := law6_role pa x.pa (by rw [qa, ra, List.length_map])
    have cb := law6_role pb x.pb (by rw [qb, rb, List.length_map])
    have h2 := role_two h tree hai (adj_of_live h hm).1
    simp only at h2
    rw [← va, ← vb] at h2
    generalize pa.role x.pa = u at ca h2
    generalize pb.role x.pb = w at cb h2
    have h3 : (u = 2 ∧ w ≠ 2 ∧ w ≠ 0) ∨ (u ≠ 2 ∧ w = 2 ∧ u ≠ 0) := by omega
    clear h2
    rcases h3 with ⟨h3, h4, h5⟩ | ⟨h3, h4, h5⟩
    · repeat' (first
    | (apply Stp.go; case a => constructor)
    | refine blk_hit rfl ?_ | refine blk_miss rfl ?_ | refine dnilD (by kernel_rfl) ?_ | refine DW_cond_t rfl ?_ | refine DW_cond_f rfl ?_
    | refine DW_tD rfl (by omega) ?_ | refine DW_fD rfl (by omega) ?_
    | refine dpOff rfl rfl ?_
    | ((first | apply dX rfl | apply dXon rfl rfl | apply dpMay rfl rfl (by intro h; first | trivial | exact ⟨h, trivial⟩ | exact ⟨h, h, trivial⟩ | exact ⟨h, h, h, trivial⟩)); (case h => ((try intro hg); first | exact S_ixM rfl rfl (by omega) hx | exact S_ixM (f := Place.cells) rfl rfl a0 ga | exact S_ixM (f := Place.cells) rfl rfl b0 gb | exact S_call ca rfl | exact S_call cb rfl | exact S_setHad Try.underlying52 hnew rfl rfl rfl rfl | exact S_cT rfl rfl (by constructor) (by omega) | exact S_cF rfl rfl (by constructor) (by omega) | exact S_al rfl | exact S_bx rfl rfl | exact S_store rfl rfl rfl rfl rfl rfl | (apply Pu.ok; repeat' (first | rfl | exact .inK (by simp only [InK]; omega) | exact .inK (by simp only [InK]; simp at hg; omega) | exact .wr | constructor | decide | omega)))); (try case hp => constructor))
    | refine dpickAnd rfl rfl rfl rfl rfl ?_ | refine dpickOr rfl rfl rfl rfl rfl ?_
    | fail)
      refine loop_again (k + 1) hlt (by omega) ?_
      rw [hnext]
      exact (Wk_g some rfl rfl (by (repeat' (first | exact trivial | rfl | exact listLe_map _ | exact ⟨_, rfl, .inl rfl⟩ | exact ⟨_, rfl, .inr (.inl rfl)⟩ | exact ⟨_, rfl, .inr (.inr rfl)⟩ | refine ⟨_, _, rfl, rfl, ?_⟩ | exact ⟨_, rfl, rfl⟩ | exact ⟨_, _, _, _, rfl, rfl, rfl⟩ | exact ⟨_, rfl⟩ | exact ⟨_, _, rfl⟩ | apply And.intro))))
    · repeat' (first
    | (apply Stp.go; case a => constructor)
    | refine blk_hit rfl ?_ | refine blk_miss rfl ?_ | refine dnilD (by kernel_rfl) ?_ | refine DW_cond_t rfl ?_ | refine DW_cond_f rfl ?_
    | refine DW_tD rfl (by omega) ?_ | refine DW_fD rfl (by omega) ?_
    | refine dpOff rfl rfl ?_
    | ((first | apply dX rfl | apply dXon rfl rfl | apply dpMay rfl rfl (by intro h; first | trivial | exact ⟨h, trivial⟩ | exact ⟨h, h, trivial⟩ | exact ⟨h, h, h, trivial⟩)); (case h => ((try intro hg); first | exact S_ixM rfl rfl (by omega) hx | exact S_ixM (f := Place.cells) rfl rfl a0 ga | exact S_ixM (f := Place.cells) rfl rfl b0 gb | exact S_call ca rfl | exact S_call cb rfl | exact S_setHad Try.underlying52 hnew rfl rfl rfl rfl | exact S_cT rfl rfl (by constructor) (by omega) | exact S_cF rfl rfl (by constructor) (by omega) | exact S_al rfl | exact S_bx rfl rfl | exact S_store rfl rfl rfl rfl rfl rfl | (apply Pu.ok; repeat' (first | rfl | exact .inK (by simp only [InK]; omega) | exact .inK (by simp only [InK]; simp at hg; omega) | exact .wr | constructor | decide | omega)))); (try case hp => constructor))
    | refine dpickAnd rfl rfl rfl rfl rfl ?_ | refine dpickOr rfl rfl rfl rfl rfl ?_
    | fail)
      refine loop_again (k + 1) hlt (by omega) ?_
      rw [hnext]
      exact (Wk_g some rfl rfl (by (repeat' (first | exact trivial | rfl | exact listLe_map _ | exact ⟨_, rfl, .inl rfl⟩ | exact ⟨_, rfl, .inr (.inl rfl)⟩ | exact ⟨_, rfl, .inr (.inr rfl)⟩ | refine ⟨_, _, rfl, rfl, ?_⟩ | exact ⟨_, rfl, rfl⟩ | exact ⟨_, _, _, _, rfl, rfl, rfl⟩ | exact ⟨_, rfl⟩ | exact ⟨_, _, rfl⟩ | apply And.intro))))
  · have hall : ∀ x, x ∈ liveL n → (x.a, x.pa) ∈ asides ((liveL n).take k) := fun x hx => by
      rw [List.take_of_length_le (by omega)]
      with_unfolding_all exact List.mem_map.2 ⟨x, hx, rfl⟩
    generalize asides ((liveL n).take k) = had at hall
    repeat' (first
    | (apply Stp.go; case a => constructor)
    | refine blk_hit rfl ?_ | refine blk_miss rfl ?_ | refine dnilD (by kernel_rfl) ?_ | refine DW_cond_t rfl ?_ | refine DW_cond_f rfl ?_
    | refine DW_tD rfl (by omega) ?_ | refine DW_fD rfl (by omega) ?_
    | refine dpOff rfl rfl ?_
    | ((first | apply dX rfl | apply dXon rfl rfl | apply dpMay rfl rfl (by intro h; first | trivial | exact ⟨h, trivial⟩ | exact ⟨h, h, trivial⟩ | exact ⟨h, h, h, trivial⟩)); (case h => ((try intro hg); first | exact S_al rfl | exact S_bx rfl rfl | exact S_store rfl rfl rfl rfl rfl rfl | (apply Pu.ok; repeat' (first | rfl | exact .inK (by simp only [InK]; omega) | exact .inK (by simp only [InK]; simp at hg; omega) | exact .wr | constructor | decide | omega)))); (try case hp => constructor))
    | refine dpickAnd rfl rfl rfl rfl rfl ?_ | refine dpickOr rfl rfl rfl rfl rfl ?_
    | fail)
    refine DW_loop (fun k : Nat => ⟨[(5, .dat true (.slice ((planF n tree).map Place.cells))), (7, .mp 25), (70, .dat false (.slice (n.links.map linkV))), (71, .dat true (.int .i64 (n.links.map linkV).length)), (72, .dat true (.int .i64 k))],
        [(25, .mapb 0 0 (mapK portV V.bool (hadE had)))], 107⟩)
      (fun k => k ≤ n.links.length) (fun k => n.links.length - k) 0 (Nat.zero_le _) (Wk_g some rfl rfl (by (repeat' (first | exact trivial | rfl | exact listLe_map _ | exact ⟨_, rfl, .inl rfl⟩ | exact ⟨_, rfl, .inr (.inl rfl)⟩ | exact ⟨_, rfl, .inr (.inr rfl)⟩ | refine ⟨_, _, rfl, rfl, ?_⟩ | exact ⟨_, rfl, rfl⟩ | exact ⟨_, _, _, _, rfl, rfl, rfl⟩ | exact ⟨_, rfl⟩ | exact ⟨_, _, rfl⟩ | apply And.intro)))) (fun k2 hk2 => ?_)
    by_cases hlt2 : k2 < n.links.length
    · have hx : n.links[(k2 : Int).toNat]? = some n.links[k2] := by simp [hlt2]
      have hm : n.links[k2] ∈ n.links := List.getElem_mem hlt2
      generalize n.links[k2] = x at hx hm
      by_cases hin : (x.a, x.pa) ∈ had
      · repeat' (first
    | (apply Stp.go; case a => constructor)
    | refine blk_hit rfl ?_ | refine blk_miss rfl ?_ | refine dnilD (by kernel_rfl) ?_ | refine DW_cond_t rfl ?_ | refine DW_cond_f rfl ?_
    | refine DW_tD rfl (by omega) ?_ | refine DW_fD rfl (by omega) ?_
    | refine dpOff rfl rfl ?_
    | ((first | apply dX rfl | apply dXon rfl rfl | apply dpMay rfl rfl (by intro h; first | trivial | exact ⟨h, trivial⟩ | exact ⟨h, h, trivial⟩ | exact ⟨h, h, h, trivial⟩)); (case h => ((try intro hg); first | exact S_ixM rfl rfl (by omega) hx | exact S_lookHad Try.underlying52 (decide_eq_true hin) rfl rfl rfl | exact S_cT rfl rfl (by constructor) (by omega) | exact S_cF rfl rfl (by constructor) (by omega) | exact S_al rfl | exact S_bx rfl rfl | exact S_store rfl rfl rfl rfl rfl rfl | (apply Pu.ok; repeat' (first | rfl | exact .inK (by simp only [InK]; omega) | exact .inK (by simp only [InK]; simp at hg; omega) | exact .wr | constructor | decide | omega)))); (try case hp => constructor))
    | refine dpickAnd rfl rfl rfl rfl rfl ?_ | refine dpickOr rfl rfl rfl rfl rfl ?_
    | fail)
        exact loop_again (k2 + 1) hlt2 (by omega) (Wk_g some rfl rfl (by (repeat' (first | exact trivial | rfl | exact listLe_map _ | exact ⟨_, rfl, .inl rfl⟩ | exact ⟨_, rfl, .inr (.inl rfl)⟩ | exact ⟨_, rfl, .inr (.inr rfl)⟩ | refine ⟨_, _, rfl, rfl, ?_⟩ | exact ⟨_, rfl, rfl⟩ | exact ⟨_, _, _, _, rfl, rfl, rfl⟩ | exact ⟨_, rfl⟩ | exact ⟨_, _, rfl⟩ | apply And.intro))))
      · have hdd := dead_port h hm (fun hl => hin (hall x hl))
        have hk' := h.lk x hm
        have a0 := hk'.a0
        have b0 := hk'.b0
        have a1 := hk'.a1
        have b1 := hk'.b1
        have hai : x.a.toNat < n.bridges.length := by omega
        have hbi : x.b.toNat < n.bridges.length := by omega
        obtain ⟨pa, ga, _, _, qa, ra⟩ := plan_at (tree := tree) hai
        obtain ⟨pb, gb, _, _, qb, rb⟩ := plan_at (tree := tree) hbi
        have va := role_of qa ra x.pa
        have vb := role_of qb rb x.pb
        rw [roleF_none tree hdd.1, ite_self] at va
        rw [roleF_none tree hdd.2, ite_self] at vb
        have ca := law6_role pa x.pa (by rw [qa, ra, List.length_map])
        have cb := law6_role pb x.pb (by rw [qb, rb, List.length_map])
        rw [va] at ca
        rw [vb] at cb
        repeat' (first
    | (apply Stp.go; case a => constructor)
    | refine blk_hit rfl ?_ | refine blk_miss rfl ?_ | refine dnilD (by kernel_rfl) ?_ | refine DW_cond_t rfl ?_ | refine DW_cond_f rfl ?_
    | refine DW_tD rfl (by omega) ?_ | refine DW_fD rfl (by omega) ?_
    | refine dpOff rfl rfl ?_
    | ((first | apply dX rfl | apply dXon rfl rfl | apply dpMay rfl rfl (by intro h; first | trivial | exact ⟨h, trivial⟩ | exact ⟨h, h, trivial⟩ | exact ⟨h, h, h, trivial⟩)); (case h => ((try intro hg); first | exact S_ixM rfl rfl (by omega) hx | exact S_ixM (f := Place.cells) rfl rfl a0 ga | exact S_ixM (f := Place.cells) rfl rfl b0 gb | exact S_call ca rfl | exact S_call cb rfl | exact S_lookHad Try.underlying52 (decide_eq_false hin) rfl rfl rfl | exact S_cT rfl rfl (by constructor) (by omega) | exact S_cF rfl rfl (by constructor) (by omega) | exact S_al rfl | exact S_bx rfl rfl | exact S_store rfl rfl rfl rfl rfl rfl | (apply Pu.ok; repeat' (first | rfl | exact .inK (by simp only [InK]; omega) | exact .inK (by simp only [InK]; simp at hg; omega) | exact .wr | constructor | decide | omega)))); (try case hp => constructor))
    | refine dpickAnd rfl rfl rfl rfl rfl ?_ | refine dpickOr rfl rfl rfl rfl rfl ?_
    | fail)
        exact loop_again (k2 + 1) hlt2 (by omega) (Wk_g some rfl rfl (by (repeat' (first | exact trivial | rfl | exact listLe_map _ | exact ⟨_, rfl, .inl rfl⟩ | exact ⟨_, rfl, .inr (.inl rfl)⟩ | exact ⟨_, rfl, .inr (.inr rfl)⟩ | refine ⟨_, _, rfl, rfl, ?_⟩ | exact ⟨_, rfl, rfl⟩ | exact ⟨_, _, _, _, rfl, rfl, rfl⟩ | exact ⟨_, rfl⟩ | exact ⟨_, _, rfl⟩ | apply And.intro))))
    · repeat' (first
    | (apply Stp.go; case a => constructor)
    | refine blk_hit rfl ?_ | refine blk_miss rfl ?_ | refine dnilD (by kernel_rfl) ?_ | refine DW_cond_t rfl ?_ | refine DW_cond_f rfl ?_
    | refine DW_tD rfl (by omega) ?_ | refine DW_fD rfl (by omega) ?_
    | refine dpOff rfl rfl ?_
    | ((first | apply dX rfl | apply dXon rfl rfl | apply dpMay rfl rfl (by intro h; first | trivial | exact ⟨h, trivial⟩ | exact ⟨h, h, trivial⟩ | exact ⟨h, h, h, trivial⟩)); (case h => ((try intro hg); first | exact S_al rfl | exact S_bx rfl rfl | exact S_store rfl rfl rfl rfl rfl rfl | (apply Pu.ok; repeat' (first | rfl | exact .inK (by simp only [InK]; omega) | exact .inK (by simp only [InK]; simp at hg; omega) | exact .wr | constructor | decide | omega)))); (try case hp => constructor))
    | refine dpickAnd rfl rfl rfl rfl rfl ?_ | refine dpickOr rfl rfl rfl rfl rfl ?_
    | fail)
      refine ret1 rfl (by first | exact .inl rfl | exact .inr (flat_of rfl)) ?_
      rfl
end Go.Proofs.Ytkppkgahdoglpaa
