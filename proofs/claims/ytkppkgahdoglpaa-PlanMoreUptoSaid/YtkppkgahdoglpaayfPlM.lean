/- Law: PlanMore. -/
import Derived.Test.YtkppkgahdoglpaaydPlQ
namespace Go.Proofs.Ytkppkgahdoglpaa
open Go.RowKit
def Link.key (l : Link) : Int × Int × Int × Int × Int := (l.a, l.pa, l.b, l.pb, l.cost)
theorem Link.wrong_key {k : Nat} {l l' : Link} (h : l.key = l'.key) : l.wrong k = l'.wrong k ∧ l.a = l'.a ∧ l.pa = l'.pa ∧ l.b = l'.b ∧ l.pb = l'.pb := by
  unfold Link.key at h
  simp only [Prod.mk.injEq] at h
  obtain ⟨h1, h2, h3, h4, h5⟩ := h
  refine ⟨?_, h1, h2, h3, h4⟩
  unfold Link.wrong
  rw [h1, h2, h3, h4, h5]
theorem wrongLk_key (k : Nat) : ∀ (ls ls' : List Link) (had : List (Int × Int)) (i : Nat), ls.map Link.key = ls'.map Link.key → wrongLk k had i ls = wrongLk k had i ls'
  | [], [], _, _, _ => rfl
  | [], _ :: _, _, _, h => by simp at h
  | _ :: _, [], _, _, h => by simp at h
  | l :: r, l' :: r', had, i, h => by
    simp only [List.map_cons, List.cons.injEq] at h
    obtain ⟨e1, e2, e3, e4, e5⟩ := Link.wrong_key (k := k) h.1
    rw [wrongLk, wrongLk, e1, e2, e3, e4, e5, wrongLk_key k r r' _ _ h.2]
theorem wrong_key {n m : Net} (hb : n.bridges = m.bridges) (hl : n.links.map Link.key = m.links.map Link.key) : n.wrong = m.wrong := by
  have hlen : n.links.length = m.links.length := by have := congrArg List.length hl; simpa using this
  unfold Net.wrong
  rw [hb, hlen, wrongLk_key _ _ _ _ _ hl]
theorem modify_at {α : Type} (f : α → α) (l : List α) (w j : Nat) : (l.modify w f)[j]? = if w = j then (l[j]?).map f else l[j]? := by
  rw [List.getElem?_modify]
  by_cases h : w = j
  · rw [if_pos h]; cases l[j]? <;> simp [h]
  · rw [if_neg h]; cases l[j]? <;> simp [h]
def upN (n : Net) (w : Nat) (up : Bool) : Net := ⟨n.bridges, n.links.modify w fun l => { l with up := up }⟩
theorem upN_key (n : Net) (w : Nat) (up : Bool) : (upN n w up).links.map Link.key = n.links.map Link.key := by
  apply List.ext_getElem?
  intro i
  rw [List.getElem?_map, List.getElem?_map]
  show ((n.links.modify w _)[i]?).map _ = _
  rw [modify_at]
  split
  · cases n.links[i]? <;> rfl
  · rfl
theorem upN_typed {n : Net} (h : n.typed) (w : Nat) (up : Bool) : (upN n w up).typed := ⟨h.ad, h.wy⟩
theorem upN_adj {n : Net} {w i : Nat} {e : End} (h : adjN (upN n w false) i e) : adjN (upN n w true) i e := by
  unfold adjN rawE at *
  obtain ⟨l, hl, he⟩ := List.mem_flatMap.1 h
  refine List.mem_flatMap.2 ⟨l, ?_, he⟩
  obtain ⟨h1, h2⟩ := List.mem_filter.1 hl
  refine List.mem_filter.2 ⟨?_, h2⟩
  obtain ⟨j, hj⟩ := List.mem_iff_getElem?.1 h1
  have hj' : (n.links.modify w fun l => { l with up := false })[j]? = some l := hj
  rw [modify_at] at hj'
  have hne : w ≠ j := by
    intro e
    subst e
    cases hx : n.links[w]? with
    | none => rw [hx, if_pos rfl] at hj'; cases hj'
    | some x =>
      rw [hx, if_pos rfl, Option.map_some, Option.some.injEq] at hj'
      subst hj'
      unfold liveB at h2
      simp at h2
  refine List.mem_iff_getElem?.2 ⟨j, ?_⟩
  show (n.links.modify w _)[j]? = _
  rw [modify_at, if_neg hne]
  rw [if_neg hne] at hj'
  exact hj'
theorem more_le {n m : Net} (hn : n.good) (hm : m.good) (tree : Int) (hb : n.bridges = m.bridges) (ha : ∀ i e, adjN n i e → adjN m i e) : ∀ (t i : Nat), t ≤ 1000 → i < n.bridges.length →
    leL (sayN m tree t i).root (sayN m tree t i).cost (sayN n tree t i).root (sayN n tree t i).cost
  | 0, i, _, hi => by
    have hid : idN n tree i = idN m tree i := by unfold idN; rw [hb]
    rw [(sayN_zero hi).1, (sayN_zero hi).2, (sayN_zero (n := m) (by rw [← hb]; exact hi)).1, (sayN_zero (n := m) (by rw [← hb]; exact hi)).2, hid]
    exact leL_refl _ _
  | t + 1, i, ht, hi => by
    have hid : idN n tree i = idN m tree i := by unfold idN; rw [hb]
    have hi' : i < m.bridges.length := by rw [← hb]; exact hi
    rcases round_from hn tree (t := t) (by omega) hi with ⟨h1, h2⟩ | ⟨e, he, h1, h2⟩
    · rw [h1, h2, hid]; exact round_own hm tree (by omega) hi'
    · rw [h1, h2]
      exact leL_trans (round_le hm tree (by omega) hi' (ha _ _ he)) (leL_add _ (more_le hn hm tree hb ha t _ (by omega) (adj_ok hn he).2.2.1))
theorem upN_cells (n : Net) {w : Nat} {up : Bool} {l : Link} (hx : n.links[w]? = some l) : (upN n w up).links = n.links.set w { l with up := up } := by
  unfold upN
  simp only
  apply List.ext_getElem?
  intro i
  rw [modify_at, List.getElem?_set]
  obtain ⟨hw, hx'⟩ := List.getElem?_eq_some_iff.1 hx
  by_cases h : w = i
  · subst h; rw [if_pos rfl, if_pos rfl, hx, if_pos hw]; rfl
  · rw [if_neg h, if_neg h]
attribute [local irreducible] SStep DW DWin DOps thenQ inBlk loopQ retQ retQG FnF FnG FnI Wk IntKind.wrap IntKind.andI IntKind.orI IntKind.xorI IntKind.andNotI IntKind.shlI IntKind.shrI Net.wrong Bridge.id Bridge.prio identR idsR liveB planA planF liveL sF pF portsOf roleF idN
set_option maxHeartbeats 2000000 in
theorem more_fn (n : Net) (ht : n.typed) (hl : n.links.length ≤ 1048576) (tree : Int) (w : Nat) (hw : w < n.links.length) (up : Bool) :
    FnF Try.prog 24 [.bool up, .rp n.cells, .rp [.int .i64 w], .rp [.int .i64 tree]] (.tuple [.slice ((planA (upN n w up) tree).1.map Place.cells), faultV (planA (upN n w up) tree).2]) := by
  refine fnF_of Try.func24 rfl rfl rfl ?_
  simp only [envOf]
  have hx : n.links[(w : Int).toNat]? = some n.links[w] := by simp [hw]
  have hx' : n.links[w]? = some n.links[w] := by simp [hw]
  have hp := plan_Plan (upN n w up) (upN_typed ht w up) tree
  have hc : (upN n w up).v = .agg [.slice (n.bridges.map bridgeV), .slice ((((n.links.set w { n.links[w] with up := up }).map linkV).drop 0).take n.links.length)] := by
    rw [whole_eq (by simp), ← upN_cells n hx']; rfl
  rw [hc] at hp
  have hml : (n.links.map linkV).length = n.links.length := by simp
  generalize n.links[w] = l at hx hp
  repeat' (first
    | (apply dt rfl; case h => exact S_litO (els := []) _ rfl rfl rfl rfl rfl)
    | (apply Stp.go; case a => constructor)
    | refine blk_hit rfl ?_ | refine blk_miss rfl ?_ | refine dnilD (by kernel_rfl) ?_ | refine DW_cond_t rfl ?_ | refine DW_cond_f rfl ?_
    | refine DW_tD rfl (by omega) ?_ | refine DW_fD rfl (by omega) ?_
    | refine dpOff rfl rfl ?_
    | ((first | apply dX rfl | apply dXon rfl rfl | apply dpMay rfl rfl (by intro h; first | trivial | exact ⟨h, trivial⟩ | exact ⟨h, h, trivial⟩ | exact ⟨h, h, h, trivial⟩)); (case h => ((try intro hg); first | exact S_appM (f := linkV) (us := []) (bs := n.links) rfl rfl (.dat _ _) rfl rfl (.inr ⟨rfl, inferInstance⟩) rfl (by simp only [List.length_nil]; omega) | exact S_ixO rfl rfl rfl (by omega) (by simp only [List.nil_append]; omega) | exact S_storeM (f := linkV) (a := { l with up := up }) rfl rfl hx rfl rfl (.inr ⟨rfl, inferInstance⟩) rfl rfl | exact S_call hp rfl | exact S_al rfl | exact S_bx rfl rfl | exact S_store rfl rfl rfl rfl rfl rfl | (apply Pu.ok; repeat' (first | rfl | exact .inK (by simp only [InK]; omega) | exact .inK (by simp only [InK]; simp at hg; omega) | exact .wr | constructor | decide | omega)))); (try case hp => constructor))
    | refine dpickAnd rfl rfl rfl rfl rfl ?_ | refine dpickOr rfl rfl rfl rfl rfl ?_
    | fail)
  refine retN (.tmp rfl (by first | exact .inl rfl | exact .inr (flat_of rfl)) (.cellA inferInstance rfl rfl rfl rfl (by first | exact .inl rfl | exact .inr (flat_of rfl)) .nil)) ?_
  rfl
set_option maxHeartbeats 8000000 in
theorem law_PlanMore (n : Net) (ht : n.typed) (hl : n.links.length ≤ 1048576) (tree which : Int) : FnF Try.prog 9 [n.v, .int .i64 tree, .int .i64 which] (.bool true) := by
  refine fnF_of Try.func9 rfl rfl rfl ?_
  simp only [envOf]
  have hmn : (n.links.map linkV).length = n.links.length := by simp
  repeat' (first
    | (apply Stp.go; case a => constructor)
    | refine blk_hit rfl ?_ | refine blk_miss rfl ?_ | refine dnilD (by kernel_rfl) ?_ | refine DW_cond_t rfl ?_ | refine DW_cond_f rfl ?_
    | refine dpOff rfl rfl ?_
    | ((first | apply dX rfl | apply dXon rfl rfl | apply dpMay rfl rfl (by intro h; first | trivial | exact ⟨h, trivial⟩ | exact ⟨h, h, trivial⟩ | exact ⟨h, h, h, trivial⟩)); (case h => ((try intro hg); first | exact S_call law6_alive rfl | exact S_al rfl | exact S_bx rfl rfl | exact S_store rfl rfl rfl rfl rfl rfl | (apply Pu.ok; repeat' (first | rfl | exact .inK (by simp only [InK]; omega) | exact .inK (by simp only [InK]; simp at hg; omega) | exact .wr | constructor | decide | omega)))); (try case hp => constructor))
    | refine dpickAnd rfl rfl rfl rfl rfl ?_ | refine dpickOr rfl rfl rfl rfl rfl ?_
    | fail)
  refine DW_cond rfl (fun hb => ?_) (fun hb => ?_)
  · repeat' (first
    | (apply Stp.go; case a => constructor)
    | refine blk_hit rfl ?_ | refine blk_miss rfl ?_ | refine dnilD (by kernel_rfl) ?_ | refine DW_cond_t rfl ?_ | refine DW_cond_f rfl ?_
    | refine dpOff rfl rfl ?_
    | ((first | apply dX rfl | apply dXon rfl rfl | apply dpMay rfl rfl (by intro h; first | trivial | exact ⟨h, trivial⟩ | exact ⟨h, h, trivial⟩ | exact ⟨h, h, h, trivial⟩)); (case h => ((try intro hg); first | exact S_al rfl | exact S_bx rfl rfl | exact S_store rfl rfl rfl rfl rfl rfl | (apply Pu.ok; repeat' (first | rfl | exact .inK (by simp only [InK]; omega) | exact .inK (by simp only [InK]; simp at hg; omega) | exact .wr | constructor | decide | omega)))); (try case hp => constructor))
    | refine dpickAnd rfl rfl rfl rfl rfl ?_ | refine dpickOr rfl rfl rfl rfl rfl ?_
    | fail)
    refine ret1 rfl (by first | exact .inl rfl | exact .inr (flat_of rfl)) ?_
    rfl
  simp only [Bool.or_eq_false_iff, decide_eq_false_iff_not] at hb
  obtain ⟨w, rfl⟩ : ∃ w : Nat, which = (w : Int) := ⟨which.toNat, by omega⟩
  have hw : w < n.links.length := by omega
  have f0 := more_fn n ht hl tree w hw false
  have f1 := more_fn n ht hl tree w hw true
  have hww : (upN n w false).wrong = (upN n w true).wrong := wrong_key rfl ((upN_key n w false).trans (upN_key n w true).symm)
  refine DW_freeze 3 (fun _ _ _ h => by cases h) ?_
  refine DW_freeze 4 (fun _ _ _ h => by cases h) ?_
  refine DW_freeze 5 (fun _ _ _ h => by cases h) ?_
  rcases planA_cases (upN_typed ht w false) tree with ⟨e, i, he, hpa⟩ | ⟨h, hw0, t0, t1, hpa⟩
  · have hpb : planA (upN n w true) tree = ([], (e, i)) := by
      rw [← hpa]
      with_unfolding_all
        unfold planA at hpa ⊢
        rw [hww] at hpa ⊢
        split
        · rfl
        · rename_i h1
          rw [if_neg h1] at hpa
          split
          · rfl
          · rename_i h2
            rw [if_neg h2] at hpa
            simp only [Prod.mk.injEq] at hpa
            exact absurd hpa.2.1.symm he
    rw [hpa] at f0
    rw [hpb] at f1
    have he' : decide (e ≠ 0) = true := decide_eq_true he
    repeat' (first
    | (apply Stp.go; case a => constructor)
    | refine blk_hit rfl ?_ | refine blk_miss rfl ?_ | refine dnilD (by kernel_rfl) ?_ | refine DW_cond_t rfl ?_ | refine DW_cond_f rfl ?_
    | refine dpOff rfl rfl ?_
    | ((first | apply dX rfl | apply dXon rfl rfl | apply dpMay rfl rfl (by intro h; first | trivial | exact ⟨h, trivial⟩ | exact ⟨h, h, trivial⟩ | exact ⟨h, h, h, trivial⟩)); (case h => ((try intro hg); first | exact S_makeFunc rfl | exact S_callv rfl rfl f0 | exact S_callv rfl rfl f1 | exact as_bool (S_neq rfl rfl) he' | exact S_al rfl | exact S_bx rfl rfl | exact S_store rfl rfl rfl rfl rfl rfl | (apply Pu.ok; repeat' (first | rfl | exact .inK (by simp only [InK]; omega) | exact .inK (by simp only [InK]; simp at hg; omega) | exact .wr | constructor | decide | omega)))); (try case hp => constructor))
    | refine dpickAnd rfl rfl rfl rfl rfl ?_ | refine dpickOr rfl rfl rfl rfl rfl ?_
    | fail)
    refine ret1 rfl (by first | exact .inl rfl | exact .inr (flat_of rfl)) ?_
    simp []
  · have hg : (upN n w true).good := ((Net.wrong_iff (upN_typed ht w true)).1 (by rw [← hww, hw0])).1
    have hpb : planA (upN n w true) tree = (planF (upN n w true) tree, (0, 0)) := by
      rcases planA_cases (upN_typed ht w true) tree with ⟨e, i, he, hpb⟩ | ⟨_, _, _, _, hpb⟩
      · exfalso
        with_unfolding_all
          unfold planA at hpb
          rw [← hww, hw0, if_neg (by simp), if_neg (by omega)] at hpb
          simp only [Prod.mk.injEq] at hpb
          exact he hpb.2.1.symm
      · exact hpb
    rw [hpa] at f0
    rw [hpb] at f1
    have l0 : ((planF (upN n w false) tree).map Place.cells).length = n.bridges.length := by rw [List.length_map, plan_len]; rfl
    have l1 : ((planF (upN n w true) tree).map Place.cells).length = n.bridges.length := by rw [List.length_map, plan_len]; rfl
    have hnb : n.bridges.length ≤ 12 := h.nb
    have hle := fun i (hi : i < n.bridges.length) => more_le h hg tree rfl (fun _ _ h => upN_adj h) (n.bridges.length + 1) i (by omega) hi
    repeat' (first
    | (apply Stp.go; case a => constructor)
    | refine blk_hit rfl ?_ | refine blk_miss rfl ?_ | refine dnilD (by kernel_rfl) ?_ | refine DW_cond_t rfl ?_ | refine DW_cond_f rfl ?_
    | refine DW_tD rfl (by omega) ?_ | refine DW_fD rfl (by omega) ?_
    | refine dpOff rfl rfl ?_
    | ((first | apply dX rfl | apply dXon rfl rfl | apply dpMay rfl rfl (by intro h; first | trivial | exact ⟨h, trivial⟩ | exact ⟨h, h, trivial⟩ | exact ⟨h, h, h, trivial⟩)); (case h => ((try intro hg); first | exact S_makeFunc rfl | exact S_callv rfl rfl f0 | exact S_callv rfl rfl f1 | exact S_al rfl | exact S_bx rfl rfl | exact S_store rfl rfl rfl rfl rfl rfl | (apply Pu.ok; repeat' (first | rfl | exact .inK (by simp only [InK]; omega) | exact .inK (by simp only [InK]; simp at hg; omega) | exact .wr | constructor | decide | omega)))); (try case hp => constructor))
    | refine dpickAnd rfl rfl rfl rfl rfl ?_ | refine dpickOr rfl rfl rfl rfl rfl ?_
    | fail)
    refine DW_loop (fun k : Nat => ⟨[(8, .dat true (.slice ((planF (upN n w false) tree).map Place.cells))), (10, .dat true (.slice ((planF (upN n w true) tree).map Place.cells))), (47, .dat true (.int .i64 ((planF (upN n w false) tree).map Place.cells).length)), (48, .dat true (.int .i64 k))], [], 100⟩)
      (fun k => k ≤ n.bridges.length) (fun k => n.bridges.length - k) 0 (Nat.zero_le _) (Wk_g some rfl rfl (by (repeat' (first | exact trivial | rfl | exact listLe_map _ | exact ⟨_, rfl, .inl rfl⟩ | exact ⟨_, rfl, .inr (.inl rfl)⟩ | exact ⟨_, rfl, .inr (.inr rfl)⟩ | refine ⟨_, _, rfl, rfl, ?_⟩ | exact ⟨_, rfl, rfl⟩ | exact ⟨_, _, _, _, rfl, rfl, rfl⟩ | exact ⟨_, rfl⟩ | exact ⟨_, _, rfl⟩ | apply And.intro)))) (fun k hk => ?_)
    by_cases hlt : k < n.bridges.length
    · obtain ⟨p0, g0, v0, _⟩ := plan_at (n := upN n w false) (tree := tree) (i := k) hlt
      obtain ⟨p1, g1, v1, _⟩ := plan_at (n := upN n w true) (tree := tree) (i := k) hlt
      have g0' : (planF (upN n w false) tree)[(k : Int).toNat]? = some p0 := g0
      have g1' : (planF (upN n w true) tree)[(k : Int).toNat]? = some p1 := g1
      have hl1 := hle k hlt
      have hl2 : leL p1.vec.root p1.vec.cost p0.vec.root p0.vec.cost := by rw [v0, v1]; with_unfolding_all exact hl1
      unfold leL at hl2
      have hc1 : decide (p0.vec.root < p1.vec.root) = false := decide_eq_false (by omega)
      have hc2 : (decide (p1.vec.root = p0.vec.root) && decide (p0.vec.cost < p1.vec.cost)) = false := by
        by_cases he : p1.vec.root = p0.vec.root
        · rw [decide_eq_true he, decide_eq_false (by omega)]; rfl
        · rw [decide_eq_false he]; rfl
      repeat' (first
    | (apply Stp.go; case a => constructor)
    | refine blk_hit rfl ?_ | refine blk_miss rfl ?_ | refine dnilD (by kernel_rfl) ?_ | refine DW_cond_t rfl ?_ | refine DW_cond_f rfl ?_
    | refine DW_tD rfl (by omega) ?_ | refine DW_fD rfl (by omega) ?_
    | refine dpOff rfl rfl ?_
    | ((first | apply dX rfl | apply dXon rfl rfl | apply dpMay rfl rfl (by intro h; first | trivial | exact ⟨h, trivial⟩ | exact ⟨h, h, trivial⟩ | exact ⟨h, h, h, trivial⟩)); (case h => ((try intro hg); first | exact S_ixM (f := Place.cells) rfl rfl (by omega) g0' | exact S_ixM (f := Place.cells) rfl rfl (by omega) g1' | exact as_bool (S_gtr rfl rfl) hc1 | exact S_al rfl | exact S_bx rfl rfl | exact S_store rfl rfl rfl rfl rfl rfl | (apply Pu.ok; repeat' (first | rfl | exact .inK (by simp only [InK]; omega) | exact .inK (by simp only [InK]; simp at hg; omega) | exact .wr | constructor | decide | omega)))); (try case hp => constructor))
    | refine dpickAnd rfl rfl rfl rfl rfl ?_ | refine dpickOr rfl rfl rfl rfl rfl ?_
    | fail)
      refine DW_false rfl (by rw [hc2]) ?_
      repeat' (first
    | (apply Stp.go; case a => constructor)
    | refine blk_hit rfl ?_ | refine blk_miss rfl ?_ | refine dnilD (by kernel_rfl) ?_ | refine DW_cond_t rfl ?_ | refine DW_cond_f rfl ?_
    | refine dpOff rfl rfl ?_
    | ((first | apply dX rfl | apply dXon rfl rfl | apply dpMay rfl rfl (by intro h; first | trivial | exact ⟨h, trivial⟩ | exact ⟨h, h, trivial⟩ | exact ⟨h, h, h, trivial⟩)); (case h => ((try intro hg); first | exact S_al rfl | exact S_bx rfl rfl | exact S_store rfl rfl rfl rfl rfl rfl | (apply Pu.ok; repeat' (first | rfl | exact .inK (by simp only [InK]; omega) | exact .inK (by simp only [InK]; simp at hg; omega) | exact .wr | constructor | decide | omega)))); (try case hp => constructor))
    | refine dpickAnd rfl rfl rfl rfl rfl ?_ | refine dpickOr rfl rfl rfl rfl rfl ?_
    | fail)
      exact loop_again (k + 1) hlt (by omega) (Wk_g some rfl rfl (by (repeat' (first | exact trivial | rfl | exact listLe_map _ | exact ⟨_, rfl, .inl rfl⟩ | exact ⟨_, rfl, .inr (.inl rfl)⟩ | exact ⟨_, rfl, .inr (.inr rfl)⟩ | refine ⟨_, _, rfl, rfl, ?_⟩ | exact ⟨_, rfl, rfl⟩ | exact ⟨_, _, _, _, rfl, rfl, rfl⟩ | exact ⟨_, rfl⟩ | exact ⟨_, _, rfl⟩ | apply And.intro))))
    · repeat' (first
    | (apply Stp.go; case a => constructor)
    | refine blk_hit rfl ?_ | refine blk_miss rfl ?_ | refine dnilD (by kernel_rfl) ?_ | refine DW_cond_t rfl ?_ | refine DW_cond_f rfl ?_
    | refine DW_tD rfl (by omega) ?_ | refine DW_fD rfl (by omega) ?_
    | refine dpOff rfl rfl ?_
    | ((first | apply dX rfl | apply dXon rfl rfl | apply dpMay rfl rfl (by intro h; first | trivial | exact ⟨h, trivial⟩ | exact ⟨h, h, trivial⟩ | exact ⟨h, h, h, trivial⟩)); (case h => ((try intro hg); first | exact S_cT rfl rfl (by constructor) (by omega) | exact S_cF rfl rfl (by constructor) (by omega) | exact S_al rfl | exact S_bx rfl rfl | exact S_store rfl rfl rfl rfl rfl rfl | (apply Pu.ok; repeat' (first | rfl | exact .inK (by simp only [InK]; omega) | exact .inK (by simp only [InK]; simp at hg; omega) | exact .wr | constructor | decide | omega)))); (try case hp => constructor))
    | refine dpickAnd rfl rfl rfl rfl rfl ?_ | refine dpickOr rfl rfl rfl rfl rfl ?_
    | fail)
      refine ret1 rfl (by first | exact .inl rfl | exact .inr (flat_of rfl)) ?_
      rfl
end Go.Proofs.Ytkppkgahdoglpaa
