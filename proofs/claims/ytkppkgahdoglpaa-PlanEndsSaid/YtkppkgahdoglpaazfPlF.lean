/- Law: PlanFar. -/
import Derived.Test.YtkppkgahdoglpaazdPlL
import Derived.Test.YtkppkgahdoglpaazbRg
namespace Go.Proofs.Ytkppkgahdoglpaa
open Go.RowKit
theorem planA_cases {n : Net} (ht : n.typed) (tree : Int) : (∃ e i, e ≠ 0 ∧ planA n tree = ([], (e, i))) ∨ (n.good ∧ n.wrong = (0, 0) ∧ 0 ≤ tree ∧ tree ≤ 15 ∧ planA n tree = (planF n tree, (0, 0))) := by
  unfold planA
  by_cases h0 : n.wrong.1 ≠ 0
  · rw [if_pos h0]; exact .inl ⟨n.wrong.1, n.wrong.2, h0, rfl⟩
  · rw [if_neg h0]
    by_cases h1 : tree < 0 ∨ 15 < tree
    · rw [if_pos h1]; exact .inl ⟨3, 0, by decide, rfl⟩
    · rw [if_neg h1]
      have h0' : n.wrong.1 = 0 := Decidable.not_not.1 h0
      exact .inr ⟨((Net.wrong_iff ht).1 h0').1, Net.wrong_zero h0', by omega, by omega, rfl⟩
theorem plan_at {n : Net} {tree : Int} {i : Nat} (hi : i < n.bridges.length) : ∃ p : Place, (planF n tree)[i]? = some p ∧ p.vec = sF n tree i ∧ p.rootPort = pF n tree i ∧ p.ports = portsOf n.links i ∧ p.roles = (portsOf n.links i).map (roleF n tree i) :=
  ⟨_, plan_get hi, rfl, rfl, rfl, rfl⟩
attribute [local irreducible] SStep DW DWin DOps thenQ inBlk loopQ retQ retQG FnF FnG FnI Wk IntKind.wrap IntKind.andI IntKind.orI IntKind.xorI IntKind.andNotI IntKind.shlI IntKind.shrI Net.wrong Bridge.id Bridge.prio identR idsR liveB planA planF liveL sF pF portsOf roleF idN
end Go.Proofs.Ytkppkgahdoglpaa
namespace Go.Proofs.Ytkppkgahdoglpaa
def boolV1 (b : Bool) : List V := [.bool b]
instance : CellsI boolV1 1 := ⟨fun _ => rfl, fun _ d h => by simp [boolV1] at h; subst h; rfl⟩
instance : FlatI boolV1 := ⟨fun _ d h => by simp [boolV1] at h; subst h; exact .bool _⟩
end Go.Proofs.Ytkppkgahdoglpaa
namespace Go.Proofs.Ytkppkgahdoglpaa
open Go.RowKit
def justBy (n : Net) (tree : Int) (x : Link) (i : Nat) : Prop :=
  (x.a = i ∧ x.pa = pF n tree i ∧ (sF n tree x.a.toNat).cost = (sF n tree x.b.toNat).cost + x.cost) ∨ (x.b = i ∧ x.pb = pF n tree i ∧ (sF n tree x.b.toNat).cost = (sF n tree x.a.toNat).cost + x.cost)
theorem just_there {n : Net} (h : n.good) (tree : Int) {i : Nat} (hi : i < n.bridges.length) (hp : 0 ≤ pF n tree i) : ∃ x ∈ liveL n, justBy n tree x i := by
  rcases fin_at h tree hi with ⟨_, _, h3, _⟩ | ⟨e, he, _, h2, h3, _⟩
  · omega
  · unfold adjN rawE at he
    obtain ⟨l, hl, he⟩ := List.mem_flatMap.1 he
    refine ⟨l, hl, ?_⟩
    unfold endAt at he
    unfold justBy
    rcases List.mem_append.1 he with he | he
    · split at he
      · rename_i ha
        simp only [List.mem_singleton] at he; subst he
        exact .inl ⟨ha, h3.symm, by rw [ha]; exact h2⟩
      · cases he
    · split at he
      · rename_i ha
        simp only [List.mem_singleton] at he; subst he
        exact .inr ⟨ha, h3.symm, by rw [ha]; exact h2⟩
      · cases he
theorem just_set {J : List Bool} {a b : Nat} {ja jb ca cb : Bool} (hab : a ≠ b) (ha : J[a]? = some ja) (hb : J[b]? = some jb) {i : Nat} (h : J[i]? = some true ∨ (i = a ∧ ca = true) ∨ (i = b ∧ cb = true)) :
    ((J.set a (ja || ca)).set b (jb || cb))[i]? = some true := by
  have hal := (List.getElem?_eq_some_iff.1 ha).1
  have hbl := (List.getElem?_eq_some_iff.1 hb).1
  by_cases hib : i = b
  · subst hib
    rw [List.getElem?_set_self (by rw [List.length_set]; exact hbl)]
    rcases h with h | ⟨h, _⟩ | ⟨_, h⟩
    · rw [hb] at h; injection h with h; rw [h]; rfl
    · exact absurd h.symm hab
    · rw [h, Bool.or_true]
  · rw [List.getElem?_set_ne (Ne.symm hib)]
    by_cases hia : i = a
    · subst hia
      rw [List.getElem?_set_self hal]
      rcases h with h | ⟨_, h⟩ | ⟨h, _⟩
      · rw [ha] at h; injection h with h; rw [h]; rfl
      · rw [h, Bool.or_true]
      · exact absurd h hib
    · rw [List.getElem?_set_ne (Ne.symm hia)]
      rcases h with h | ⟨h, _⟩ | ⟨h, _⟩
      · exact h
      · exact absurd h hia
      · exact absurd h hib
theorem just_a {n : Net} {tree : Int} {x : Link} {i : Nat} (h : justBy n tree x i) : (x.a = i ∧ x.pa = pF n tree i ∧ (sF n tree x.a.toNat).cost = (sF n tree x.b.toNat).cost + x.cost) ∨ (x.b = i ∧ x.pb = pF n tree i ∧ (sF n tree x.b.toNat).cost = (sF n tree x.a.toNat).cost + x.cost) := h
attribute [local irreducible] SStep DW DWin DOps thenQ inBlk loopQ retQ retQG FnF FnG FnI Wk IntKind.wrap IntKind.andI IntKind.orI IntKind.xorI IntKind.andNotI IntKind.shlI IntKind.shrI Net.wrong Bridge.id Bridge.prio identR idsR liveB planA planF liveL sF pF portsOf roleF idN justBy
set_option maxHeartbeats 8000000 in
theorem law_PlanFar (n : Net) (ht : n.typed) (tree : Int) : FnF Try.prog 5 [n.v, .int .i64 tree] (.bool true) := by
  refine fnF_of Try.func5 rfl rfl rfl ?_
  simp only [envOf]
  have hp := plan_Plan n ht tree
  rcases planA_cases ht tree with ⟨e, i, he, hpa⟩ | ⟨h, hw, t0, t1, hpa⟩
  · rw [hpa] at hp
    have he' : decide (e ≠ 0) = true := decide_eq_true he
    repeat' (first
    | (apply Stp.go; case a => constructor)
    | refine blk_hit rfl ?_ | refine blk_miss rfl ?_ | refine dnilD (by kernel_rfl) ?_ | refine DW_cond_t rfl ?_ | refine DW_cond_f rfl ?_
    | refine dpOff rfl rfl ?_
    | ((first | apply dX rfl | apply dXon rfl rfl | apply dpMay rfl rfl (by intro h; first | trivial | exact ⟨h, trivial⟩ | exact ⟨h, h, trivial⟩ | exact ⟨h, h, h, trivial⟩)); (case h => ((try intro hg); first | exact S_call law6_alive rfl | exact S_call hp rfl | exact as_bool (S_neq rfl rfl) he' | exact S_al rfl | exact S_bx rfl rfl | exact S_store rfl rfl rfl rfl rfl rfl | (apply Pu.ok; repeat' (first | rfl | exact .inK (by simp only [InK]; omega) | exact .inK (by simp only [InK]; simp at hg; omega) | exact .wr | constructor | decide | omega)))); (try case hp => constructor))
    | refine dpickAnd rfl rfl rfl rfl rfl ?_ | refine dpickOr rfl rfl rfl rfl rfl ?_
    | fail)
    refine ret1 rfl (by first | exact .inl rfl | exact .inr (flat_of rfl)) ?_
    rfl
  rw [hpa] at hp
  have hli := ref6_Live n h
  have hmp : ((planF n tree).map Place.cells).length = n.bridges.length := by rw [List.length_map, plan_len]
  have hml : ((liveL n).map linkV).length = (liveL n).length := by simp
  have hll : (liveL n).length ≤ 40 := by with_unfolding_all exact Nat.le_trans (List.length_filter_le _ _) h.nl
  have hnb := h.nb
  obtain ⟨nb, hnbe⟩ : ∃ nb, nb = n.bridges.length := ⟨_, rfl⟩
  rw [← hnbe] at hmp hnb
  repeat' (first
    | (apply Stp.go; case a => constructor)
    | refine blk_hit rfl ?_ | refine blk_miss rfl ?_ | refine dnilD (by kernel_rfl) ?_ | refine DW_cond_t rfl ?_ | refine DW_cond_f rfl ?_
    | refine DW_tD rfl (by omega) ?_ | refine DW_fD rfl (by omega) ?_
    | refine dpOff rfl rfl ?_
    | (apply dt rfl; case h => first | exact S_mkM (f := boolV1) (l := nb) (c := nb) false _ rfl rfl (by rw [hmp]) (by rw [hmp]) (Nat.le_refl _) (by omega) rfl rfl)
    | ((first | apply dX rfl | apply dXon rfl rfl | apply dpMay rfl rfl (by intro h; first | trivial | exact ⟨h, trivial⟩ | exact ⟨h, h, trivial⟩ | exact ⟨h, h, h, trivial⟩)); (case h => ((try intro hg); first | exact S_call law6_alive rfl | exact S_call hp rfl | exact S_call hli rfl | exact S_mkM (f := boolV1) (l := nb) (c := nb) false _ rfl rfl (by rw [hmp]) (by rw [hmp]) (Nat.le_refl _) (by omega) rfl rfl | exact S_al rfl | exact S_bx rfl rfl | exact S_store rfl rfl rfl rfl rfl rfl | (apply Pu.ok; repeat' (first | rfl | exact .inK (by simp only [InK]; omega) | exact .inK (by simp only [InK]; simp at hg; omega) | exact .wr | constructor | decide | omega)))); (try case hp => constructor))
    | refine dpickAnd rfl rfl rfl rfl rfl ?_ | refine dpickOr rfl rfl rfl rfl rfl ?_
    | fail)
  refine DW_loop (fun q : Nat × List Bool => ⟨[(5, .dat true (.slice ((planF n tree).map Place.cells))), (7, .own 26 0 0 nb), (28, .dat true (.slice ((liveL n).map linkV))), (29, .dat true (.int .i64 ((liveL n).map linkV).length)), (30, .dat true (.int .i64 q.1))],
      [(26, .row 0 false true 1 (q.2.map boolV1))], 138⟩)
    (fun q => q.1 ≤ (liveL n).length ∧ q.2.length = nb ∧ ∀ x ∈ (liveL n).take q.1, ∀ i, justBy n tree x i → q.2[i]? = some true) (fun q => (liveL n).length - q.1) (0, List.replicate nb false) ⟨Nat.zero_le _, by simp, by simp⟩ (Wk_g some rfl rfl (by (repeat' (first | exact trivial | rfl | exact listLe_map _ | exact ⟨_, rfl, .inl rfl⟩ | exact ⟨_, rfl, .inr (.inl rfl)⟩ | exact ⟨_, rfl, .inr (.inr rfl)⟩ | refine ⟨_, _, rfl, rfl, ?_⟩ | exact ⟨_, rfl, rfl⟩ | exact ⟨_, _, _, _, rfl, rfl, rfl⟩ | exact ⟨_, rfl⟩ | exact ⟨_, _, rfl⟩ | apply And.intro)))) (fun q hq => ?_)
  obtain ⟨k, J⟩ := q
  obtain ⟨hk, hJl, hJ⟩ := hq
  simp only at hk hJl hJ
  dsimp only
  by_cases hlt : k < (liveL n).length
  · have hx : (liveL n)[(k : Int).toNat]? = some (liveL n)[k] := by simp [hlt]
    have hm : (liveL n)[k] ∈ liveL n := List.getElem_mem hlt
    have htk : (liveL n).take (k + 1) = (liveL n).take k ++ [(liveL n)[k]] := by rw [List.take_add_one, List.getElem?_eq_getElem hlt]; rfl
    generalize (liveL n)[k] = x at hx hm htk
    have hk' := h.lk x (live_sub hm)
    have a0 := hk'.a0
    have b0 := hk'.b0
    have a1 := hk'.a1
    have b1 := hk'.b1
    have hne := hk'.ne
    have hcc := hk'.c
    have hai : x.a.toNat < n.bridges.length := by omega
    have hbi : x.b.toNat < n.bridges.length := by omega
    obtain ⟨pa, ga, va, ra, _⟩ := plan_at (tree := tree) hai
    obtain ⟨pb, gb, vb, rb, _⟩ := plan_at (tree := tree) hbi
    have ca := fin_cost h tree hai
    have cb := fin_cost h tree hbi
    have l1 := fin_le h tree hai (adj_of_live h hm).1
    have l2 := fin_le h tree hbi (adj_of_live h hm).2
    have hr := fin_root h tree hai (adj_of_live h hm).1
    simp only at l1 l2 hr
    have f1 : ¬ pb.vec.cost + x.cost < pa.vec.cost := by rw [va, vb]; unfold leL at l1; omega
    have f2 : ¬ pa.vec.cost + x.cost < pb.vec.cost := by rw [va, vb]; unfold leL at l2; omega
    rw [← va] at ca
    rw [← vb] at cb
    have hja : J[x.a.toNat]? = some (J[x.a.toNat]'(by omega)) := List.getElem?_eq_getElem _
    have hjb : J[x.b.toNat]? = some (J[x.b.toNat]'(by omega)) := List.getElem?_eq_getElem _
    generalize J[x.a.toNat]'(by omega) = ja at hja
    generalize J[x.b.toNat]'(by omega) = jb at hjb
    have hja' : (J.map boolV1)[x.a.toNat]? = some (boolV1 ja) := by rw [List.getElem?_map, hja]; rfl
    have hJ2 : ∀ v : Bool, (J.set x.a.toNat v)[x.b.toNat]? = some jb := fun v => by rw [List.getElem?_set_ne (by omega)]; exact hjb
    have hjb' : ∀ v : Bool, ((J.set x.a.toNat v).map boolV1)[x.b.toNat]? = some (boolV1 jb) := fun v => by rw [List.getElem?_map, hJ2]; rfl
    repeat' (first
    | (apply Stp.go; case a => constructor)
    | refine blk_hit rfl ?_ | refine blk_miss rfl ?_ | refine dnilD (by kernel_rfl) ?_ | refine DW_cond_t rfl ?_ | refine DW_cond_f rfl ?_
    | refine DW_tD rfl (by omega) ?_ | refine DW_fD rfl (by omega) ?_
    | refine dpOff rfl rfl ?_
    | ((first | apply dX rfl | apply dXon rfl rfl | apply dpMay rfl rfl (by intro h; first | trivial | exact ⟨h, trivial⟩ | exact ⟨h, h, trivial⟩ | exact ⟨h, h, h, trivial⟩)); (case h => ((try intro hg); first | exact S_ixM rfl rfl (by omega) hx | exact S_ixM (f := Place.cells) rfl rfl a0 ga | exact S_ixM (f := Place.cells) rfl rfl b0 gb | exact S_ixO rfl rfl rfl a0 (by omega) | exact S_ixO rfl rfl rfl b0 (by omega) | exact S_load_rptr rfl rfl hja' rfl | exact S_load_rptr rfl rfl (hjb' _) rfl | exact S_storeM (f := boolV1) (a := ja || (decide (x.pa = pa.rootPort) && decide (pa.vec.cost = pb.vec.cost + x.cost))) rfl rfl hja rfl rfl (.inr ⟨rfl, inferInstance⟩) rfl rfl | exact S_storeM (f := boolV1) (a := jb || (decide (x.pb = pb.rootPort) && decide (pb.vec.cost = pa.vec.cost + x.cost))) rfl rfl (hJ2 _) rfl rfl (.inr ⟨rfl, inferInstance⟩) rfl rfl | exact S_cT rfl rfl (by constructor) (by omega) | exact S_cF rfl rfl (by constructor) (by omega) | exact S_al rfl | exact S_bx rfl rfl | exact S_store rfl rfl rfl rfl rfl rfl | (apply Pu.ok; repeat' (first | rfl | exact .inK (by simp only [InK]; omega) | exact .inK (by simp only [InK]; simp at hg; omega) | exact .wr | constructor | decide | omega)))); (try case hp => constructor))
    | refine dpickAnd rfl rfl rfl rfl rfl ?_ | refine dpickOr rfl rfl rfl rfl rfl ?_
    | fail)
    refine loop_again (k + 1, (J.set x.a.toNat (ja || (decide (x.pa = pa.rootPort) && decide (pa.vec.cost = pb.vec.cost + x.cost)))).set x.b.toNat (jb || (decide (x.pb = pb.rootPort) && decide (pb.vec.cost = pa.vec.cost + x.cost)))) ⟨hlt, by simp [hJl], fun y hy i hji => just_set (by omega) hja hjb ?_⟩ (by simp only; omega) (Wk_g some rfl rfl (by (repeat' (first | exact trivial | rfl | exact listLe_map _ | exact ⟨_, rfl, .inl rfl⟩ | exact ⟨_, rfl, .inr (.inl rfl)⟩ | exact ⟨_, rfl, .inr (.inr rfl)⟩ | refine ⟨_, _, rfl, rfl, ?_⟩ | exact ⟨_, rfl, rfl⟩ | exact ⟨_, _, _, _, rfl, rfl, rfl⟩ | exact ⟨_, rfl⟩ | exact ⟨_, _, rfl⟩ | apply And.intro))))
    simp only at hy
    rw [htk] at hy
    rcases List.mem_append.1 hy with hy | hy
    · exact .inl (hJ y hy i hji)
    · simp only [List.mem_singleton] at hy
      subst hy
      rcases just_a hji with ⟨h1, h2, h3⟩ | ⟨h1, h2, h3⟩
      · have hi : i = y.a.toNat := by omega
        subst hi
        exact .inr (.inl ⟨rfl, by rw [decide_eq_true (by rw [ra]; exact h2), decide_eq_true (by rw [va, vb]; exact h3)]; rfl⟩)
      · have hi : i = y.b.toNat := by omega
        subst hi
        exact .inr (.inr ⟨rfl, by rw [decide_eq_true (by rw [rb]; exact h2), decide_eq_true (by rw [va, vb]; exact h3)]; rfl⟩)
  · have hJ2 : ∀ i, i < nb → 0 ≤ pF n tree i → J[i]? = some true := fun i hi hp => by
      obtain ⟨x, hx, hj⟩ := just_there h tree (by omega) hp
      exact hJ x (by rw [List.take_of_length_le (by omega)]; exact hx) i hj
    repeat' (first
    | (apply Stp.go; case a => constructor)
    | refine blk_hit rfl ?_ | refine blk_miss rfl ?_ | refine dnilD (by kernel_rfl) ?_ | refine DW_cond_t rfl ?_ | refine DW_cond_f rfl ?_
    | refine DW_tD rfl (by omega) ?_ | refine DW_fD rfl (by omega) ?_
    | refine dpOff rfl rfl ?_
    | ((first | apply dX rfl | apply dXon rfl rfl | apply dpMay rfl rfl (by intro h; first | trivial | exact ⟨h, trivial⟩ | exact ⟨h, h, trivial⟩ | exact ⟨h, h, h, trivial⟩)); (case h => ((try intro hg); first | exact S_al rfl | exact S_bx rfl rfl | exact S_store rfl rfl rfl rfl rfl rfl | (apply Pu.ok; repeat' (first | rfl | exact .inK (by simp only [InK]; omega) | exact .inK (by simp only [InK]; simp at hg; omega) | exact .wr | constructor | decide | omega)))); (try case hp => constructor))
    | refine dpickAnd rfl rfl rfl rfl rfl ?_ | refine dpickOr rfl rfl rfl rfl rfl ?_
    | fail)
    refine DW_loop (fun i : Nat => ⟨[(5, .dat true (.slice ((planF n tree).map Place.cells))), (7, .own 26 0 0 nb), (120, .dat true (.int .i64 ((planF n tree).map Place.cells).length)), (121, .dat true (.int .i64 i))],
        [(26, .row 0 false true 1 (J.map boolV1))], 138⟩)
      (fun i => i ≤ nb) (fun i => nb - i) 0 (Nat.zero_le _) (Wk_g some rfl rfl (by (repeat' (first | exact trivial | rfl | exact listLe_map _ | exact ⟨_, rfl, .inl rfl⟩ | exact ⟨_, rfl, .inr (.inl rfl)⟩ | exact ⟨_, rfl, .inr (.inr rfl)⟩ | refine ⟨_, _, rfl, rfl, ?_⟩ | exact ⟨_, rfl, rfl⟩ | exact ⟨_, _, _, _, rfl, rfl, rfl⟩ | exact ⟨_, rfl⟩ | exact ⟨_, _, rfl⟩ | apply And.intro)))) (fun i hi => ?_)
    by_cases hlt2 : i < nb
    · obtain ⟨p, g, v, rp, _⟩ := plan_at (n := n) (tree := tree) (i := i) (by omega)
      have g' : (planF n tree)[(i : Int).toNat]? = some p := g
      by_cases hrp : 0 ≤ p.rootPort
      · have hj := hJ2 i hlt2 (by rw [← rp]; exact hrp)
        have hj' : (J.map boolV1)[(i : Int).toNat]? = some (boolV1 true) := by rw [List.getElem?_map, Int.toNat_natCast, hj]; rfl
        repeat' (first
    | (apply Stp.go; case a => constructor)
    | refine blk_hit rfl ?_ | refine blk_miss rfl ?_ | refine dnilD (by kernel_rfl) ?_ | refine DW_cond_t rfl ?_ | refine DW_cond_f rfl ?_
    | refine DW_tD rfl (by omega) ?_ | refine DW_fD rfl (by omega) ?_
    | refine dpOff rfl rfl ?_
    | ((first | apply dX rfl | apply dXon rfl rfl | apply dpMay rfl rfl (by intro h; first | trivial | exact ⟨h, trivial⟩ | exact ⟨h, h, trivial⟩ | exact ⟨h, h, h, trivial⟩)); (case h => ((try intro hg); first | exact S_ixM (f := Place.cells) rfl rfl (by omega) g' | exact S_ixO rfl rfl rfl (by omega) (by omega) | exact S_load_rptr rfl rfl hj' rfl | exact S_cT rfl rfl (by constructor) (by omega) | exact S_cF rfl rfl (by constructor) (by omega) | exact S_al rfl | exact S_bx rfl rfl | exact S_store rfl rfl rfl rfl rfl rfl | (apply Pu.ok; repeat' (first | rfl | exact .inK (by simp only [InK]; omega) | exact .inK (by simp only [InK]; simp at hg; omega) | exact .wr | constructor | decide | omega)))); (try case hp => constructor))
    | refine dpickAnd rfl rfl rfl rfl rfl ?_ | refine dpickOr rfl rfl rfl rfl rfl ?_
    | fail)
        exact loop_again (i + 1) hlt2 (by omega) (Wk_g some rfl rfl (by (repeat' (first | exact trivial | rfl | exact listLe_map _ | exact ⟨_, rfl, .inl rfl⟩ | exact ⟨_, rfl, .inr (.inl rfl)⟩ | exact ⟨_, rfl, .inr (.inr rfl)⟩ | refine ⟨_, _, rfl, rfl, ?_⟩ | exact ⟨_, rfl, rfl⟩ | exact ⟨_, _, _, _, rfl, rfl, rfl⟩ | exact ⟨_, rfl⟩ | exact ⟨_, _, rfl⟩ | apply And.intro))))
      · repeat' (first
    | (apply Stp.go; case a => constructor)
    | refine blk_hit rfl ?_ | refine blk_miss rfl ?_ | refine dnilD (by kernel_rfl) ?_ | refine DW_cond_t rfl ?_ | refine DW_cond_f rfl ?_
    | refine DW_tD rfl (by omega) ?_ | refine DW_fD rfl (by omega) ?_
    | refine dpOff rfl rfl ?_
    | ((first | apply dX rfl | apply dXon rfl rfl | apply dpMay rfl rfl (by intro h; first | trivial | exact ⟨h, trivial⟩ | exact ⟨h, h, trivial⟩ | exact ⟨h, h, h, trivial⟩)); (case h => ((try intro hg); first | exact S_ixM (f := Place.cells) rfl rfl (by omega) g' | exact S_cT rfl rfl (by constructor) (by omega) | exact S_cF rfl rfl (by constructor) (by omega) | exact S_al rfl | exact S_bx rfl rfl | exact S_store rfl rfl rfl rfl rfl rfl | (apply Pu.ok; repeat' (first | rfl | exact .inK (by simp only [InK]; omega) | exact .inK (by simp only [InK]; simp at hg; omega) | exact .wr | constructor | decide | omega)))); (try case hp => constructor))
    | refine dpickAnd rfl rfl rfl rfl rfl ?_ | refine dpickOr rfl rfl rfl rfl rfl ?_
    | fail)
        exact loop_again (i + 1) hlt2 (by omega) (Wk_g some rfl rfl (by (repeat' (first | exact trivial | rfl | exact listLe_map _ | exact ⟨_, rfl, .inl rfl⟩ | exact ⟨_, rfl, .inr (.inl rfl)⟩ | exact ⟨_, rfl, .inr (.inr rfl)⟩ | refine ⟨_, _, rfl, rfl, ?_⟩ | exact ⟨_, rfl, rfl⟩ | exact ⟨_, _, _, _, rfl, rfl, rfl⟩ | exact ⟨_, rfl⟩ | exact ⟨_, _, rfl⟩ | apply And.intro))))
    · repeat' (first
    | (apply Stp.go; case a => constructor)
    | refine blk_hit rfl ?_ | refine blk_miss rfl ?_ | refine dnilD (by kernel_rfl) ?_ | refine DW_cond_t rfl ?_ | refine DW_cond_f rfl ?_
    | refine DW_tD rfl (by omega) ?_ | refine DW_fD rfl (by omega) ?_
    | refine dpOff rfl rfl ?_
    | ((first | apply dX rfl | apply dXon rfl rfl | apply dpMay rfl rfl (by intro h; first | trivial | exact ⟨h, trivial⟩ | exact ⟨h, h, trivial⟩ | exact ⟨h, h, h, trivial⟩)); (case h => ((try intro hg); first | exact S_al rfl | exact S_bx rfl rfl | exact S_store rfl rfl rfl rfl rfl rfl | (apply Pu.ok; repeat' (first | rfl | exact .inK (by simp only [InK]; omega) | exact .inK (by simp only [InK]; simp at hg; omega) | exact .wr | constructor | decide | omega)))); (try case hp => constructor))
    | refine dpickAnd rfl rfl rfl rfl rfl ?_ | refine dpickOr rfl rfl rfl rfl rfl ?_
    | fail)
      refine ret1 rfl (by first | exact .inl rfl | exact .inr (flat_of rfl)) ?_
      rfl
end Go.Proofs.Ytkppkgahdoglpaa
