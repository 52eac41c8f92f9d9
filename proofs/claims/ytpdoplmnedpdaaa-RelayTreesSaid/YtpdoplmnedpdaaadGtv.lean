/- Contract: what is wrong with gates, as the document says. -/
import Derived.Test.YtpdoplmnedpdaaadGtw
namespace Go.Proofs.Ytpdoplmnedpdaaa
open Go.RowKit
attribute [local irreducible] SStep DW DWin DOps thenQ inBlk loopQ retQ retQG FnF FnG Wk IntKind.wrap IntKind.andI IntKind.orI IntKind.xorI IntKind.andNotI IntKind.shlI IntKind.shrI
theorem gates_bad (e k : Int) : FnF Try.prog 50 [.int .i64 e, .rp [.int .i64 k]] (.agg [.int .i64 e, .int .i64 k]) := by
  refine fnF_of Try.func50 rfl rfl rfl ?_
  simp only [envOf]
  repeat' (first
    | refine DW_seq ?_
    | refine DW_region ?_
    | refine DW_draw ?_
    | refine dnilP ?_
    | refine dnilD (by kernel_rfl) ?_
    | refine then_normal ?_
    | refine then_exit ?_
    | refine then_ret ?_
    | refine DW_block ?_
    | refine blk_normal ?_
    | refine blk_ret ?_
    | refine blk_hit rfl ?_
    | refine blk_miss rfl ?_
    | refine loop_exit ?_
    | refine loop_ret ?_
    | refine DW_ret ?_
    | refine DW_exit ?_
    | refine DW_skip ?_
    | refine DW_cond_t rfl ?_
    | refine DW_cond_f rfl ?_
    | (apply dpC rfl; case h => first | (apply Pu.ok; repeat' (first | rfl | exact .inK (by simp only [InK]; omega) | exact .inK (by simp only [InK]; simp at hg; omega) | exact .wr | constructor | decide | omega)))
    | refine dpOff rfl rfl ?_
    | ((first | apply dp rfl | apply dpOn rfl rfl | apply dpMay rfl rfl (by first | exact fun _ => trivial | exact fun h => ⟨h, trivial⟩ | exact fun h => ⟨h, h, trivial⟩ | exact fun h => ⟨h, h, h, trivial⟩)); case h => ((try intro hg); first | (apply Pu.ok; repeat' (first | rfl | exact .inK (by simp only [InK]; omega) | exact .inK (by simp only [InK]; simp at hg; omega) | exact .wr | constructor | decide | omega))))
    | refine dpickAnd rfl rfl rfl rfl rfl ?_ | refine dpickOr rfl rfl rfl rfl rfl ?_
    | (apply dt rfl; case h => first | exact S_alloc _ rfl | exact S_box _ rfl rfl)
    | (apply ds; case h => first | exact S_store rfl rfl rfl rfl rfl rfl)
    | (apply dm rfl; case h => first | exact M_d rfl | exact S_alloc 2001 rfl | exact S_alloc 2002 rfl | exact S_alloc 2003 rfl | exact S_alloc 2004 rfl | exact S_alloc 2005 rfl)
    | fail)
  refine retN (.cellA inferInstance rfl rfl rfl rfl (by first | exact .inl rfl | exact .inr (flat_of rfl)) .nil) ?_
  rfl
set_option maxHeartbeats 4000000 in
theorem ref8_WrongGates (l : List Gate) : FnF Try.prog 28 [.slice (l.map gateV)] (faultV (wrongG l)) := by
  refine fnF_of Try.func28 rfl rfl rfl ?_
  simp only [envOf]
  refine DW_len 0 rfl (fun hlen => ?_)
  have hml : (l.map gateV).length = l.length := by simp
  unfold wrongG
  repeat' (first
    | refine DW_seq ?_
    | refine DW_region ?_
    | refine DW_draw ?_
    | refine dnilP ?_
    | refine dnilD (by kernel_rfl) ?_
    | refine then_normal ?_
    | refine then_exit ?_
    | refine then_ret ?_
    | refine DW_block ?_
    | refine blk_normal ?_
    | refine blk_ret ?_
    | refine blk_hit rfl ?_
    | refine blk_miss rfl ?_
    | refine loop_exit ?_
    | refine loop_ret ?_
    | refine DW_ret ?_
    | refine DW_exit ?_
    | refine DW_skip ?_
    | refine DW_cond_t rfl ?_
    | refine DW_cond_f rfl ?_
    | (apply dpC rfl; case h => first | (apply Pu.ok; repeat' (first | rfl | exact .inK (by simp only [InK]; omega) | exact .inK (by simp only [InK]; simp at hg; omega) | exact .wr | constructor | decide | omega)))
    | refine dpOff rfl rfl ?_
    | ((first | apply dp rfl | apply dpOn rfl rfl | apply dpMay rfl rfl (by first | exact fun _ => trivial | exact fun h => ⟨h, trivial⟩ | exact fun h => ⟨h, h, trivial⟩ | exact fun h => ⟨h, h, h, trivial⟩)); case h => ((try intro hg); first | (apply Pu.ok; repeat' (first | rfl | exact .inK (by simp only [InK]; omega) | exact .inK (by simp only [InK]; simp at hg; omega) | exact .wr | constructor | decide | omega))))
    | refine dpickAnd rfl rfl rfl rfl rfl ?_ | refine dpickOr rfl rfl rfl rfl rfl ?_
    | (apply dt rfl; case h => first | exact S_alloc _ rfl | exact S_box _ rfl rfl)
    | (apply ds; case h => first | exact S_store rfl rfl rfl rfl rfl rfl)
    | (apply dm rfl; case h => first | exact M_d rfl | exact S_alloc 2001 rfl | exact S_alloc 2002 rfl | exact S_alloc 2003 rfl | exact S_alloc 2004 rfl | exact S_alloc 2005 rfl)
    | fail)
  refine DW_loop (fun k : Nat => ⟨[(0, .dat false (.slice (l.map gateV))), (2, .ptr 2 0), (9, .dat false (.slice (l.map gateV))), (10, .dat true (.int .i64 (l.map gateV).length)), (11, .dat true (.int .i64 k))], [(2, .cells false true [.dat true (.int .i64 0), .dat true (.int .i64 0)])], 82⟩)
    (fun k => k ≤ l.length ∧ gatesW none 0 l = gatesW (lastG l k) k (l.drop k)) (fun k => l.length - k) 0 ⟨Nat.zero_le _, rfl⟩
    (Wk_gen some rfl rfl (by (repeat' (first | exact trivial | rfl | exact listLe_map _ | exact ⟨_, rfl, .inl rfl⟩ | exact ⟨_, rfl, .inr (.inl rfl)⟩ | exact ⟨_, rfl, .inr (.inr rfl)⟩ | refine ⟨_, _, rfl, rfl, ?_⟩ | exact ⟨_, rfl, rfl⟩ | exact ⟨_, _, _, _, rfl, rfl, rfl⟩ | exact ⟨_, rfl⟩ | exact ⟨_, _, rfl⟩ | apply And.intro))) (by (repeat' (first | exact trivial | rfl | exact listLe_map _ | exact ⟨_, rfl, .inl rfl⟩ | exact ⟨_, rfl, .inr (.inl rfl)⟩ | exact ⟨_, rfl, .inr (.inr rfl)⟩ | refine ⟨_, _, rfl, rfl, ?_⟩ | exact ⟨_, rfl, rfl⟩ | exact ⟨_, _, _, _, rfl, rfl, rfl⟩ | exact ⟨_, rfl⟩ | exact ⟨_, _, rfl⟩ | apply And.intro)))) (fun k hR => ?_)
  obtain ⟨hk, hw⟩ := hR
  by_cases hlt : k < l.length
  case neg =>
    repeat' (first
    | refine DW_seq ?_
    | refine DW_region ?_
    | refine DW_draw ?_
    | refine dnilP ?_
    | refine dnilD (by kernel_rfl) ?_
    | refine then_normal ?_
    | refine then_exit ?_
    | refine then_ret ?_
    | refine DW_block ?_
    | refine blk_normal ?_
    | refine blk_ret ?_
    | refine blk_hit rfl ?_
    | refine blk_miss rfl ?_
    | refine loop_exit ?_
    | refine loop_ret ?_
    | refine DW_ret ?_
    | refine DW_exit ?_
    | refine DW_skip ?_
    | refine DW_cond_t rfl ?_
    | refine DW_cond_f rfl ?_
    | (apply dpC rfl; case h => first | (apply Pu.ok; repeat' (first | rfl | exact .inK (by simp only [InK]; omega) | exact .inK (by simp only [InK]; simp at hg; omega) | exact .wr | constructor | decide | omega)))
    | refine dpOff rfl rfl ?_
    | ((first | apply dp rfl | apply dpOn rfl rfl | apply dpMay rfl rfl (by first | exact fun _ => trivial | exact fun h => ⟨h, trivial⟩ | exact fun h => ⟨h, h, trivial⟩ | exact fun h => ⟨h, h, h, trivial⟩)); case h => ((try intro hg); first | exact as_bool (S_lss rfl rfl) (decide_eq_false (by omega : ¬ (k : Int) < ((l.map gateV).length : Int))) | (apply Pu.ok; repeat' (first | rfl | exact .inK (by simp only [InK]; omega) | exact .inK (by simp only [InK]; simp at hg; omega) | exact .wr | constructor | decide | omega))))
    | refine dpickAnd rfl rfl rfl rfl rfl ?_ | refine dpickOr rfl rfl rfl rfl rfl ?_
    | (apply dt rfl; case h => first | exact S_alloc _ rfl | exact S_box _ rfl rfl)
    | (apply ds; case h => first | exact S_store rfl rfl rfl rfl rfl rfl)
    | (apply dm rfl; case h => first | exact M_d rfl | exact S_alloc 2001 rfl | exact S_alloc 2002 rfl | exact S_alloc 2003 rfl | exact S_alloc 2004 rfl | exact S_alloc 2005 rfl)
    | fail)
    rw [hw, List.drop_eq_nil_of_le (by omega)]
    refine retN (.cellA inferInstance rfl rfl rfl rfl (by first | exact .inl rfl | exact .inr (flat_of rfl)) .nil) ?_
    rfl
  have hx : l[(k : Int).toNat]? = some l[k] := by simp [hlt]
  have hn : l.drop k = l[k] :: l.drop (k + 1) := List.drop_eq_getElem_cons hlt
  have hlast : lastG l (k + 1) = some l[k].port := by simp [lastG, hlt]
  generalize l[k] = g at hx hn hlast
  rw [hn, gatesW] at hw
  have hmo : (g.opens.map boolV1).length = g.opens.length := by simp
  have hmw : (g.ways.map intV1).length = g.ways.length := by simp
  repeat' (first
    | (apply dm rfl; case h => exact S_frz 3 rfl rfl (S_makeFunc rfl))
    | refine DW_seq ?_
    | refine DW_region ?_
    | refine DW_draw ?_
    | refine dnilP ?_
    | refine dnilD (by kernel_rfl) ?_
    | refine then_normal ?_
    | refine then_exit ?_
    | refine then_ret ?_
    | refine DW_block ?_
    | refine blk_normal ?_
    | refine blk_ret ?_
    | refine blk_hit rfl ?_
    | refine blk_miss rfl ?_
    | refine loop_exit ?_
    | refine loop_ret ?_
    | refine DW_ret ?_
    | refine DW_exit ?_
    | refine DW_skip ?_
    | refine DW_cond_t rfl ?_
    | refine DW_cond_f rfl ?_
    | refine DW_cond rfl (fun hb => ?_) (fun hb => ?_)
    | (apply dpC rfl; case h => first | exact S_callv rfl rfl (gates_bad _ k) | (apply Pu.ok; repeat' (first | rfl | exact .inK (by simp only [InK]; omega) | exact .inK (by simp only [InK]; simp at hg; omega) | exact .wr | constructor | decide | omega)))
    | refine dpOff rfl rfl ?_
    | ((first | apply dp rfl | apply dpOn rfl rfl | apply dpMay rfl rfl (by first | exact fun _ => trivial | exact fun h => ⟨h, trivial⟩ | exact fun h => ⟨h, h, trivial⟩ | exact fun h => ⟨h, h, h, trivial⟩)); case h => ((try intro hg); first | exact as_bool (S_lss rfl rfl) (decide_eq_true (by omega : (k : Int) < ((l.map gateV).length : Int))) | exact S_ixM rfl rfl (by omega) hx | exact S_callv rfl rfl (gates_bad _ k) | (apply Pu.ok; repeat' (first | rfl | exact .inK (by simp only [InK]; omega) | exact .inK (by simp only [InK]; simp at hg; omega) | exact .wr | constructor | decide | omega))))
    | refine dpickAnd rfl rfl rfl rfl rfl ?_ | refine dpickOr rfl rfl rfl rfl rfl ?_
    | (apply dt rfl; case h => first | exact S_alloc _ rfl | exact S_box _ rfl rfl)
    | (apply ds; case h => first | exact S_store rfl rfl rfl rfl rfl rfl)
    | (apply dm rfl; case h => first | exact M_d rfl | exact S_alloc 2001 rfl | exact S_alloc 2002 rfl | exact S_alloc 2003 rfl | exact S_alloc 2004 rfl | exact S_alloc 2005 rfl)
    | fail)
  · simp only [Bool.or_eq_true, Bool.or_eq_false_iff, Bool.and_eq_true, Bool.true_and, Bool.false_and, decide_eq_true_eq, decide_eq_false_iff_not] at hb
    have hg : g.bad := by unfold Gate.bad; omega
    rw [hw, wrong1_bad hg]
    refine retN (.cellA inferInstance rfl rfl rfl rfl (by first | exact .inl rfl | exact .inr (flat_of rfl)) .nil) ?_
    rfl
  · rename_i hb1
    simp only [Bool.or_eq_true, Bool.or_eq_false_iff, Bool.and_eq_true, Bool.true_and, Bool.false_and, decide_eq_true_eq, decide_eq_false_iff_not] at hb hb1
    have hg : ¬ g.bad := by unfold Gate.bad; omega
    rw [hw, wrong1_many hg (by omega)]
    refine retN (.cellA inferInstance rfl rfl rfl rfl (by first | exact .inl rfl | exact .inr (flat_of rfl)) .nil) ?_
    rfl
  rename_i hb1
  simp only [Bool.or_eq_true, Bool.or_eq_false_iff, Bool.and_eq_true, Bool.true_and, Bool.false_and, decide_eq_true_eq, decide_eq_false_iff_not] at hb hb1
  have hg : ¬ g.bad := by unfold Gate.bad; omega
  rw [wrong1_ways hg (by omega)] at hw
  refine DW_len 44 rfl (fun hlen2 => ?_)
  refine DW_loop (fun j : Nat => ⟨[(0, .dat false (.slice (l.map gateV))), (2, .ptr 2 0), (3, .ptr 3 0), (4, .ptr 4 0), (5, .dat true (.fn 50 [.rp [.int .i64 k]])), (6, .dat false (.int .i64 (lastI g.ways j))), (9, .dat false (.slice (l.map gateV))), (10, .dat true (.int .i64 (l.map gateV).length)), (11, .dat true (.int .i64 k)), (44, .dat false (.slice (g.ways.map intV1))), (45, .dat true (.int .i64 (g.ways.map intV1).length)), (46, .dat true (.int .i64 j))],
      [(2, .cells false true [.dat true (.int .i64 0), .dat true (.int .i64 0)]), (3, .cells true true [.dat true (.int .i64 k)]), (4, .cells false true [.dat false (.int .i64 g.port), .dat false (.slice (g.ways.map intV1)), .dat false (.int .i64 g.plain), .dat false (.slice (g.opens.map boolV1))])], 82⟩)
    (fun j => j ≤ g.ways.length ∧ waysG 0 g.ways = waysG (lastI g.ways j) (g.ways.drop j)) (fun j => g.ways.length - j) 0 ⟨Nat.zero_le _, rfl⟩
    (Wk_gen some rfl rfl (by (repeat' (first | exact trivial | rfl | exact listLe_map _ | exact ⟨_, rfl, .inl rfl⟩ | exact ⟨_, rfl, .inr (.inl rfl)⟩ | exact ⟨_, rfl, .inr (.inr rfl)⟩ | refine ⟨_, _, rfl, rfl, ?_⟩ | exact ⟨_, rfl, rfl⟩ | exact ⟨_, _, _, _, rfl, rfl, rfl⟩ | exact ⟨_, rfl⟩ | exact ⟨_, _, rfl⟩ | apply And.intro))) (by (repeat' (first | exact trivial | rfl | exact listLe_map _ | exact ⟨_, rfl, .inl rfl⟩ | exact ⟨_, rfl, .inr (.inl rfl)⟩ | exact ⟨_, rfl, .inr (.inr rfl)⟩ | refine ⟨_, _, rfl, rfl, ?_⟩ | exact ⟨_, rfl, rfl⟩ | exact ⟨_, _, _, _, rfl, rfl, rfl⟩ | exact ⟨_, rfl⟩ | exact ⟨_, _, rfl⟩ | apply And.intro)))) (fun j hR => ?_)
  obtain ⟨hj, hv⟩ := hR
  by_cases hlj : j < g.ways.length
  · have hy : g.ways[(j : Int).toNat]? = some g.ways[j] := by simp [hlj]
    have hm : g.ways.drop j = g.ways[j] :: g.ways.drop (j + 1) := List.drop_eq_getElem_cons hlj
    have hla : lastI g.ways (j + 1) = g.ways[j] := by simp [lastI, hlj]
    generalize g.ways[j] = v at hy hm hla
    rw [hm, waysG] at hv
    generalize lastI g.ways j = q at hv
    repeat' (first
    | refine DW_seq ?_
    | refine DW_region ?_
    | refine DW_draw ?_
    | refine dnilP ?_
    | refine dnilD (by kernel_rfl) ?_
    | refine then_normal ?_
    | refine then_exit ?_
    | refine then_ret ?_
    | refine DW_block ?_
    | refine blk_normal ?_
    | refine blk_ret ?_
    | refine blk_hit rfl ?_
    | refine blk_miss rfl ?_
    | refine loop_exit ?_
    | refine loop_ret ?_
    | refine DW_ret ?_
    | refine DW_exit ?_
    | refine DW_skip ?_
    | refine DW_cond_t rfl ?_
    | refine DW_cond_f rfl ?_
    | refine DW_cond rfl (fun hc => ?_) (fun hc => ?_)
    | (apply dpC rfl; case h => first | exact S_callv rfl rfl (gates_bad _ k) | (apply Pu.ok; repeat' (first | rfl | exact .inK (by simp only [InK]; omega) | exact .inK (by simp only [InK]; simp at hg; omega) | exact .wr | constructor | decide | omega)))
    | refine dpOff rfl rfl ?_
    | ((first | apply dp rfl | apply dpOn rfl rfl | apply dpMay rfl rfl (by first | exact fun _ => trivial | exact fun h => ⟨h, trivial⟩ | exact fun h => ⟨h, h, trivial⟩ | exact fun h => ⟨h, h, h, trivial⟩)); case h => ((try intro hg); first | exact as_bool (S_lss rfl rfl) (decide_eq_true (by omega : (j : Int) < ((g.ways.map intV1).length : Int))) | exact S_ixM rfl rfl (by omega) hy | exact S_callv rfl rfl (gates_bad _ k) | (apply Pu.ok; repeat' (first | rfl | exact .inK (by simp only [InK]; omega) | exact .inK (by simp only [InK]; simp at hg; omega) | exact .wr | constructor | decide | omega))))
    | refine dpickAnd rfl rfl rfl rfl rfl ?_ | refine dpickOr rfl rfl rfl rfl rfl ?_
    | (apply dt rfl; case h => first | exact S_alloc _ rfl | exact S_box _ rfl rfl)
    | (apply ds; case h => first | exact S_store rfl rfl rfl rfl rfl rfl)
    | (apply dm rfl; case h => first | exact M_d rfl | exact S_alloc 2001 rfl | exact S_alloc 2002 rfl | exact S_alloc 2003 rfl | exact S_alloc 2004 rfl | exact S_alloc 2005 rfl)
    | fail)
    · simp only [Bool.or_eq_true, Bool.or_eq_false_iff, Bool.and_eq_true, Bool.true_and, Bool.false_and, decide_eq_true_eq, decide_eq_false_iff_not] at hc
      rw [if_pos hc] at hv
      rw [hw, hv]
      refine retN (.cellA inferInstance rfl rfl rfl rfl (by first | exact .inl rfl | exact .inr (flat_of rfl)) .nil) ?_
      rfl
    · rename_i hc1
      simp only [Bool.or_eq_true, Bool.or_eq_false_iff, Bool.and_eq_true, Bool.true_and, Bool.false_and, decide_eq_true_eq, decide_eq_false_iff_not] at hc hc1
      rw [if_neg (by omega), if_pos hc] at hv
      rw [hw, hv]
      refine retN (.cellA inferInstance rfl rfl rfl rfl (by first | exact .inl rfl | exact .inr (flat_of rfl)) .nil) ?_
      rfl
    · rename_i hc1
      simp only [Bool.or_eq_true, Bool.or_eq_false_iff, Bool.and_eq_true, Bool.true_and, Bool.false_and, decide_eq_true_eq, decide_eq_false_iff_not] at hc hc1
      rw [if_neg (by omega), if_neg hc] at hv
      rw [← hla] at hv
      refine loop_again (j + 1) ⟨hlj, hv⟩ (by omega) ?_
      rw [hla]
      exact Wk_gen some rfl rfl (by (repeat' (first | exact trivial | rfl | exact listLe_map _ | exact ⟨_, rfl, .inl rfl⟩ | exact ⟨_, rfl, .inr (.inl rfl)⟩ | exact ⟨_, rfl, .inr (.inr rfl)⟩ | refine ⟨_, _, rfl, rfl, ?_⟩ | exact ⟨_, rfl, rfl⟩ | exact ⟨_, _, _, _, rfl, rfl, rfl⟩ | exact ⟨_, rfl⟩ | exact ⟨_, _, rfl⟩ | apply And.intro))) (by (repeat' (first | exact trivial | rfl | exact listLe_map _ | exact ⟨_, rfl, .inl rfl⟩ | exact ⟨_, rfl, .inr (.inl rfl)⟩ | exact ⟨_, rfl, .inr (.inr rfl)⟩ | refine ⟨_, _, rfl, rfl, ?_⟩ | exact ⟨_, rfl, rfl⟩ | exact ⟨_, _, _, _, rfl, rfl, rfl⟩ | exact ⟨_, rfl⟩ | exact ⟨_, _, rfl⟩ | apply And.intro)))
  rw [List.drop_eq_nil_of_le (by omega)] at hv
  have hv0 : waysG 0 g.ways = 0 := hv
  rw [hv0, if_neg (by simp)] at hw
  rcases k with - | i
  · have h00 : lastG l 0 = none := rfl
    rw [h00, if_neg (by simp)] at hw
    repeat' (first
    | refine DW_seq ?_
    | refine DW_region ?_
    | refine DW_draw ?_
    | refine dnilP ?_
    | refine dnilD (by kernel_rfl) ?_
    | refine then_normal ?_
    | refine then_exit ?_
    | refine then_ret ?_
    | refine DW_block ?_
    | refine blk_normal ?_
    | refine blk_ret ?_
    | refine blk_hit rfl ?_
    | refine blk_miss rfl ?_
    | refine loop_exit ?_
    | refine loop_ret ?_
    | refine DW_ret ?_
    | refine DW_exit ?_
    | refine DW_skip ?_
    | refine DW_cond_t rfl ?_
    | refine DW_cond_f rfl ?_
    | (apply dpC rfl; case h => first | (apply Pu.ok; repeat' (first | rfl | exact .inK (by simp only [InK]; omega) | exact .inK (by simp only [InK]; simp at hg; omega) | exact .wr | constructor | decide | omega)))
    | refine dpOff rfl rfl ?_
    | ((first | apply dp rfl | apply dpOn rfl rfl | apply dpMay rfl rfl (by first | exact fun _ => trivial | exact fun h => ⟨h, trivial⟩ | exact fun h => ⟨h, h, trivial⟩ | exact fun h => ⟨h, h, h, trivial⟩)); case h => ((try intro hg); first | exact as_bool (S_lss rfl rfl) (decide_eq_false (by omega : ¬ (j : Int) < ((g.ways.map intV1).length : Int))) | exact as_bool (b := false) (S_gtr rfl rfl) rfl | (apply Pu.ok; repeat' (first | rfl | exact .inK (by simp only [InK]; omega) | exact .inK (by simp only [InK]; simp at hg; omega) | exact .wr | constructor | decide | omega))))
    | refine dpickAnd rfl rfl rfl rfl rfl ?_ | refine dpickOr rfl rfl rfl rfl rfl ?_
    | (apply dt rfl; case h => first | exact S_alloc _ rfl | exact S_box _ rfl rfl)
    | (apply ds; case h => first | exact S_store rfl rfl rfl rfl rfl rfl)
    | (apply dm rfl; case h => first | exact M_d rfl | exact S_alloc 2001 rfl | exact S_alloc 2002 rfl | exact S_alloc 2003 rfl | exact S_alloc 2004 rfl | exact S_alloc 2005 rfl)
    | fail)
    exact loop_again (0 + 1) ⟨hlt, by rw [hw, hlast]⟩ (by omega) (Wk_gen some rfl rfl (by (repeat' (first | exact trivial | rfl | exact listLe_map _ | exact ⟨_, rfl, .inl rfl⟩ | exact ⟨_, rfl, .inr (.inl rfl)⟩ | exact ⟨_, rfl, .inr (.inr rfl)⟩ | refine ⟨_, _, rfl, rfl, ?_⟩ | exact ⟨_, rfl, rfl⟩ | exact ⟨_, _, _, _, rfl, rfl, rfl⟩ | exact ⟨_, rfl⟩ | exact ⟨_, _, rfl⟩ | apply And.intro))) (by (repeat' (first | exact trivial | rfl | exact listLe_map _ | exact ⟨_, rfl, .inl rfl⟩ | exact ⟨_, rfl, .inr (.inl rfl)⟩ | exact ⟨_, rfl, .inr (.inr rfl)⟩ | refine ⟨_, _, rfl, rfl, ?_⟩ | exact ⟨_, rfl, rfl⟩ | exact ⟨_, _, _, _, rfl, rfl, rfl⟩ | exact ⟨_, rfl⟩ | exact ⟨_, _, rfl⟩ | apply And.intro))))
  · have hi : i < l.length := by omega
    have hx2 : l[(((i + 1 : Nat) : Int) - 1).toNat]? = some l[i] := by
      rw [show (((i + 1 : Nat) : Int) - 1).toNat = i by omega]; exact List.getElem?_eq_getElem hi
    have h00 : lastG l (i + 1) = some l[i].port := by simp [lastG, hi]
    generalize l[i] = q at hx2 h00
    rw [h00] at hw
    repeat' (first
    | refine DW_seq ?_
    | refine DW_region ?_
    | refine DW_draw ?_
    | refine dnilP ?_
    | refine dnilD (by kernel_rfl) ?_
    | refine then_normal ?_
    | refine then_exit ?_
    | refine then_ret ?_
    | refine DW_block ?_
    | refine blk_normal ?_
    | refine blk_ret ?_
    | refine blk_hit rfl ?_
    | refine blk_miss rfl ?_
    | refine loop_exit ?_
    | refine loop_ret ?_
    | refine DW_ret ?_
    | refine DW_exit ?_
    | refine DW_skip ?_
    | refine DW_cond_t rfl ?_
    | refine DW_cond_f rfl ?_
    | refine DW_cond rfl (fun hc => ?_) (fun hc => ?_)
    | (apply dpC rfl; case h => first | exact S_callv rfl rfl (gates_bad _ _) | (apply Pu.ok; repeat' (first | rfl | exact .inK (by simp only [InK]; omega) | exact .inK (by simp only [InK]; simp at hg; omega) | exact .wr | constructor | decide | omega)))
    | refine dpOff rfl rfl ?_
    | ((first | apply dp rfl | apply dpOn rfl rfl | apply dpMay rfl rfl (by first | exact fun _ => trivial | exact fun h => ⟨h, trivial⟩ | exact fun h => ⟨h, h, trivial⟩ | exact fun h => ⟨h, h, h, trivial⟩)); case h => ((try intro hg); first | exact as_bool (S_lss rfl rfl) (decide_eq_false (by omega : ¬ (j : Int) < ((g.ways.map intV1).length : Int))) | exact S_ixM rfl rfl (by omega) hx2 | exact as_bool (S_gtr rfl rfl) (decide_eq_true (by omega : (0 : Int) < ((i + 1 : Nat) : Int))) | exact S_callv rfl rfl (gates_bad _ _) | (apply Pu.ok; repeat' (first | rfl | exact .inK (by simp only [InK]; omega) | exact .inK (by simp only [InK]; simp at hg; omega) | exact .wr | constructor | decide | omega))))
    | refine dpickAnd rfl rfl rfl rfl rfl ?_ | refine dpickOr rfl rfl rfl rfl rfl ?_
    | (apply dt rfl; case h => first | exact S_alloc _ rfl | exact S_box _ rfl rfl)
    | (apply ds; case h => first | exact S_store rfl rfl rfl rfl rfl rfl)
    | (apply dm rfl; case h => first | exact M_d rfl | exact S_alloc 2001 rfl | exact S_alloc 2002 rfl | exact S_alloc 2003 rfl | exact S_alloc 2004 rfl | exact S_alloc 2005 rfl)
    | fail)
    · simp only [Bool.or_eq_true, Bool.or_eq_false_iff, Bool.and_eq_true, Bool.true_and, Bool.false_and, decide_eq_true_eq, decide_eq_false_iff_not] at hc
      rw [hw, if_pos (by simpa using hc)]
      refine retN (.cellA inferInstance rfl rfl rfl rfl (by first | exact .inl rfl | exact .inr (flat_of rfl)) .nil) ?_
      rfl
    · simp only [Bool.or_eq_true, Bool.or_eq_false_iff, Bool.and_eq_true, Bool.true_and, Bool.false_and, decide_eq_true_eq, decide_eq_false_iff_not] at hc
      rw [if_neg (by simpa using hc)] at hw
      exact loop_again (i + 1 + 1) ⟨by omega, by rw [hw, hlast]⟩ (by omega) (Wk_gen some rfl rfl (by (repeat' (first | exact trivial | rfl | exact listLe_map _ | exact ⟨_, rfl, .inl rfl⟩ | exact ⟨_, rfl, .inr (.inl rfl)⟩ | exact ⟨_, rfl, .inr (.inr rfl)⟩ | refine ⟨_, _, rfl, rfl, ?_⟩ | exact ⟨_, rfl, rfl⟩ | exact ⟨_, _, _, _, rfl, rfl, rfl⟩ | exact ⟨_, rfl⟩ | exact ⟨_, _, rfl⟩ | apply And.intro))) (by (repeat' (first | exact trivial | rfl | exact listLe_map _ | exact ⟨_, rfl, .inl rfl⟩ | exact ⟨_, rfl, .inr (.inl rfl)⟩ | exact ⟨_, rfl, .inr (.inr rfl)⟩ | refine ⟨_, _, rfl, rfl, ?_⟩ | exact ⟨_, rfl, rfl⟩ | exact ⟨_, _, _, _, rfl, rfl, rfl⟩ | exact ⟨_, rfl⟩ | exact ⟨_, _, rfl⟩ | apply And.intro))))
end Go.Proofs.Ytpdoplmnedpdaaa
