/- Law: PlanRoot. -/
import Derived.Test.YtkppkgahdoglpaazdPlL
namespace Go.Proofs.Ytkppkgahdoglpaa
open Go.RowKit
theorem planA_cases {n : Net} (ht : n.typed) (tree : Int) : (∃ e i, e ≠ 0 ∧ planA n tree = ([], (e, i))) ∨ (n.good ∧ n.wrong = (0, 0) ∧ 0 ≤ tree ∧ tree ≤ 15 ∧ planA n tree = (planF n tree, (0, 0))) := by
  unfold planA
  by_cases h0 : n.wrong.1 ≠ 0
  · rw [if_pos h0]; exact .inl ⟨n.wrong.1, n.wrong.2, h0, rfl⟩
  · rw [if_neg h0]
    by_cases h1 : tree < 0 ∨ 15 < tree
    · rw [if_pos h1]; exact .inl ⟨3, 0, by decide, rfl⟩
    · rw [if_neg h1]
      have h0' : n.wrong.1 = 0 := Decidable.not_not.1 h0
      exact .inr ⟨((Net.wrong_iff ht).1 h0').1, Net.wrong_zero h0', by omega, by omega, rfl⟩
theorem plan_at {n : Net} {tree : Int} {i : Nat} (hi : i < n.bridges.length) : ∃ p : Place, (planF n tree)[i]? = some p ∧ p.vec = sF n tree i ∧ p.rootPort = pF n tree i ∧ p.ports = portsOf n.links i ∧ p.roles = (portsOf n.links i).map (roleF n tree i) :=
  ⟨_, plan_get hi, rfl, rfl, rfl, rfl⟩
attribute [local irreducible] SStep DW DWin DOps thenQ inBlk loopQ retQ retQG FnF FnG FnI Wk IntKind.wrap IntKind.andI IntKind.orI IntKind.xorI IntKind.andNotI IntKind.shlI IntKind.shrI Net.wrong Bridge.id Bridge.prio identR idsR liveB planA planF liveL sF pF portsOf roleF idN
set_option maxHeartbeats 8000000 in
theorem law_PlanRoot (n : Net) (ht : n.typed) (tree : Int) : FnF Try.prog 4 [n.v, .int .i64 tree] (.bool true) := by
  refine fnF_of Try.func4 rfl rfl rfl ?_
  simp only [envOf]
  have hp := plan_Plan n ht tree
  rcases planA_cases ht tree with ⟨e, i, he, hpa⟩ | ⟨h, hw, t0, t1, hpa⟩
  · rw [hpa] at hp
    have he' : decide (e ≠ 0) = true := decide_eq_true he
    repeat' (first
    | refine DW_seq ?_
    | refine DW_region ?_
    | refine DW_draw ?_
    | refine dnilP ?_
    | refine dnilD (by kernel_rfl) ?_
    | refine then_normal ?_
    | refine then_exit ?_
    | refine then_ret ?_
    | refine DW_block ?_
    | refine blk_normal ?_
    | refine blk_ret ?_
    | refine blk_hit rfl ?_
    | refine blk_miss rfl ?_
    | refine loop_exit ?_
    | refine loop_ret ?_
    | refine DW_ret ?_
    | refine DW_exit ?_
    | refine DW_skip ?_
    | refine DW_cond_t rfl ?_
    | refine DW_cond_f rfl ?_
    | (apply dpC rfl; case h => first | exact S_call law6_alive rfl | exact S_call hp rfl | (apply Pu.ok; repeat' (first | rfl | exact .inK (by simp only [InK]; omega) | exact .inK (by simp only [InK]; simp at hg; omega) | exact .wr | constructor | decide | omega)))
    | refine dpOff rfl rfl ?_
    | ((first | apply dp rfl | apply dpOn rfl rfl | apply dpMay rfl rfl (by first | exact fun _ => trivial | exact fun h => ⟨h, trivial⟩ | exact fun h => ⟨h, h, trivial⟩ | exact fun h => ⟨h, h, h, trivial⟩)); case h => ((try intro hg); first | exact as_bool (S_neq rfl rfl) he' | exact S_call law6_alive rfl | exact S_call hp rfl | (apply Pu.ok; repeat' (first | rfl | exact .inK (by simp only [InK]; omega) | exact .inK (by simp only [InK]; simp at hg; omega) | exact .wr | constructor | decide | omega))))
    | refine dpickAnd rfl rfl rfl rfl rfl ?_ | refine dpickOr rfl rfl rfl rfl rfl ?_
    | (apply dt rfl; case h => first | exact S_alloc _ rfl | exact S_box _ rfl rfl)
    | (apply ds; case h => first | exact S_store rfl rfl rfl rfl rfl rfl)
    | (apply dm rfl; case h => first | exact M_d rfl | exact S_alloc 2001 rfl | exact S_alloc 2002 rfl | exact S_alloc 2003 rfl | exact S_alloc 2004 rfl | exact S_alloc 2005 rfl)
    | fail)
    refine ret1 rfl (by first | exact .inl rfl | exact .inr (flat_of rfl)) ?_
    rfl
  rw [hpa] at hp
  obtain ⟨t, rfl⟩ : ∃ t : Nat, tree = (t : Int) := ⟨tree.toNat, by omega⟩
  have hli := ref6_Live n h
  have hmb : (n.bridges.map bridgeV).length = n.bridges.length := by simp
  have hmp : ((planF n t).map Place.cells).length = n.bridges.length := by rw [List.length_map, plan_len]
  have hml : ((liveL n).map linkV).length = (liveL n).length := by simp
  have hnb := h.nb
  have hll : (liveL n).length ≤ 40 := by with_unfolding_all exact Nat.le_trans (List.length_filter_le _ _) h.nl
  repeat' (first
    | refine DW_seq ?_
    | refine DW_region ?_
    | refine DW_draw ?_
    | refine dnilP ?_
    | refine dnilD (by kernel_rfl) ?_
    | refine then_normal ?_
    | refine then_exit ?_
    | refine then_ret ?_
    | refine DW_block ?_
    | refine blk_normal ?_
    | refine blk_ret ?_
    | refine blk_hit rfl ?_
    | refine blk_miss rfl ?_
    | refine loop_exit ?_
    | refine loop_ret ?_
    | refine DW_ret ?_
    | refine DW_exit ?_
    | refine DW_skip ?_
    | refine DW_cond_t rfl ?_
    | refine DW_cond_f rfl ?_
    | (apply DW_true rfl; case hb => (apply decide_eq_true; omega))
    | (apply DW_false rfl; case hb => (apply decide_eq_false; omega))
    | (apply dpC rfl; case h => first | exact S_call law6_alive rfl | exact S_call hp rfl | exact S_call hli rfl | (apply Pu.ok; repeat' (first | rfl | exact .inK (by simp only [InK]; omega) | exact .inK (by simp only [InK]; simp at hg; omega) | exact .wr | constructor | decide | omega)))
    | refine dpOff rfl rfl ?_
    | ((first | apply dp rfl | apply dpOn rfl rfl | apply dpMay rfl rfl (by first | exact fun _ => trivial | exact fun h => ⟨h, trivial⟩ | exact fun h => ⟨h, h, trivial⟩ | exact fun h => ⟨h, h, h, trivial⟩)); case h => ((try intro hg); first | exact S_call law6_alive rfl | exact S_call hp rfl | exact S_call hli rfl | (apply Pu.ok; repeat' (first | rfl | exact .inK (by simp only [InK]; omega) | exact .inK (by simp only [InK]; simp at hg; omega) | exact .wr | constructor | decide | omega))))
    | refine dpickAnd rfl rfl rfl rfl rfl ?_ | refine dpickOr rfl rfl rfl rfl rfl ?_
    | (apply dt rfl; case h => first | exact S_alloc _ rfl | exact S_box _ rfl rfl)
    | (apply ds; case h => first | exact S_store rfl rfl rfl rfl rfl rfl)
    | (apply dm rfl; case h => first | exact M_d rfl | exact S_alloc 2001 rfl | exact S_alloc 2002 rfl | exact S_alloc 2003 rfl | exact S_alloc 2004 rfl | exact S_alloc 2005 rfl)
    | fail)
  refine DW_loop (fun k : Nat => ⟨[(1, .dat false (.int .i64 t)), (2, .ptr 2 0), (5, .dat true (.slice ((planF n t).map Place.cells))), (28, .dat true (.slice ((liveL n).map linkV))), (29, .dat true (.int .i64 ((liveL n).map linkV).length)), (30, .dat true (.int .i64 k))],
      [(2, .cells false true (n.cells.map (.dat false)))], 156⟩)
    (fun k => k ≤ (liveL n).length) (fun k => (liveL n).length - k) 0 (Nat.zero_le _) (Wk_gen some rfl rfl (by (repeat' (first | exact trivial | rfl | exact listLe_map _ | exact ⟨_, rfl, .inl rfl⟩ | exact ⟨_, rfl, .inr (.inl rfl)⟩ | exact ⟨_, rfl, .inr (.inr rfl)⟩ | refine ⟨_, _, rfl, rfl, ?_⟩ | exact ⟨_, rfl, rfl⟩ | exact ⟨_, _, _, _, rfl, rfl, rfl⟩ | exact ⟨_, rfl⟩ | exact ⟨_, _, rfl⟩ | apply And.intro))) (by (repeat' (first | exact trivial | rfl | exact listLe_map _ | exact ⟨_, rfl, .inl rfl⟩ | exact ⟨_, rfl, .inr (.inl rfl)⟩ | exact ⟨_, rfl, .inr (.inr rfl)⟩ | refine ⟨_, _, rfl, rfl, ?_⟩ | exact ⟨_, rfl, rfl⟩ | exact ⟨_, _, _, _, rfl, rfl, rfl⟩ | exact ⟨_, rfl⟩ | exact ⟨_, _, rfl⟩ | apply And.intro)))) (fun k hk => ?_)
  by_cases hlt : k < (liveL n).length
  · have hx : (liveL n)[(k : Int).toNat]? = some (liveL n)[k] := by simp [hlt]
    have hm : (liveL n)[k] ∈ liveL n := List.getElem_mem hlt
    generalize (liveL n)[k] = x at hx hm
    have hk' := h.lk x (live_sub hm)
    have a0 := hk'.a0
    have b0 := hk'.b0
    have hai : x.a.toNat < n.bridges.length := by have := hk'.a1; omega
    have hbi : x.b.toNat < n.bridges.length := by have := hk'.b1; omega
    obtain ⟨pa, ga, va, _⟩ := plan_at (tree := t) hai
    obtain ⟨pb, gb, vb, _⟩ := plan_at (tree := t) hbi
    have hr : pa.vec.root = pb.vec.root := by rw [va, vb]; exact fin_root h t hai (adj_of_live h hm).1
    repeat' (first
    | refine DW_seq ?_
    | refine DW_region ?_
    | refine DW_draw ?_
    | refine dnilP ?_
    | refine dnilD (by kernel_rfl) ?_
    | refine then_normal ?_
    | refine then_exit ?_
    | refine then_ret ?_
    | refine DW_block ?_
    | refine blk_normal ?_
    | refine blk_ret ?_
    | refine blk_hit rfl ?_
    | refine blk_miss rfl ?_
    | refine loop_exit ?_
    | refine loop_ret ?_
    | refine DW_ret ?_
    | refine DW_exit ?_
    | refine DW_skip ?_
    | refine DW_cond_t rfl ?_
    | refine DW_cond_f rfl ?_
    | (apply DW_true rfl; case hb => (apply decide_eq_true; omega))
    | (apply DW_false rfl; case hb => (apply decide_eq_false; omega))
    | (apply dpC rfl; case h => first | (apply Pu.ok; repeat' (first | rfl | exact .inK (by simp only [InK]; omega) | exact .inK (by simp only [InK]; simp at hg; omega) | exact .wr | constructor | decide | omega)))
    | refine dpOff rfl rfl ?_
    | ((first | apply dp rfl | apply dpOn rfl rfl | apply dpMay rfl rfl (by first | exact fun _ => trivial | exact fun h => ⟨h, trivial⟩ | exact fun h => ⟨h, h, trivial⟩ | exact fun h => ⟨h, h, h, trivial⟩)); case h => ((try intro hg); first | exact S_ixM rfl rfl (by omega) hx | exact S_ixM (f := Place.cells) rfl rfl a0 ga | exact S_ixM (f := Place.cells) rfl rfl b0 gb | exact as_bool (S_eql rfl rfl) (decide_eq_true (by omega)) | exact as_bool (S_eql rfl rfl) (decide_eq_false (by omega)) | exact as_bool (S_neq rfl rfl) (decide_eq_true (by omega)) | exact as_bool (S_neq rfl rfl) (decide_eq_false (by omega)) | exact as_bool (S_lss rfl rfl) (decide_eq_true (by omega)) | exact as_bool (S_lss rfl rfl) (decide_eq_false (by omega)) | exact as_bool (S_leq rfl rfl) (decide_eq_true (by omega)) | exact as_bool (S_leq rfl rfl) (decide_eq_false (by omega)) | exact as_bool (S_gtr rfl rfl) (decide_eq_true (by omega)) | exact as_bool (S_gtr rfl rfl) (decide_eq_false (by omega)) | exact as_bool (S_geq rfl rfl) (decide_eq_true (by omega)) | exact as_bool (S_geq rfl rfl) (decide_eq_false (by omega)) | (apply Pu.ok; repeat' (first | rfl | exact .inK (by simp only [InK]; omega) | exact .inK (by simp only [InK]; simp at hg; omega) | exact .wr | constructor | decide | omega))))
    | refine dpickAnd rfl rfl rfl rfl rfl ?_ | refine dpickOr rfl rfl rfl rfl rfl ?_
    | (apply dt rfl; case h => first | exact S_alloc _ rfl | exact S_box _ rfl rfl)
    | (apply ds; case h => first | exact S_store rfl rfl rfl rfl rfl rfl)
    | (apply dm rfl; case h => first | exact M_d rfl | exact S_alloc 2001 rfl | exact S_alloc 2002 rfl | exact S_alloc 2003 rfl | exact S_alloc 2004 rfl | exact S_alloc 2005 rfl)
    | fail)
    exact loop_again (k + 1) hlt (by omega) (Wk_gen some rfl rfl (by (repeat' (first | exact trivial | rfl | exact listLe_map _ | exact ⟨_, rfl, .inl rfl⟩ | exact ⟨_, rfl, .inr (.inl rfl)⟩ | exact ⟨_, rfl, .inr (.inr rfl)⟩ | refine ⟨_, _, rfl, rfl, ?_⟩ | exact ⟨_, rfl, rfl⟩ | exact ⟨_, _, _, _, rfl, rfl, rfl⟩ | exact ⟨_, rfl⟩ | exact ⟨_, _, rfl⟩ | apply And.intro))) (by (repeat' (first | exact trivial | rfl | exact listLe_map _ | exact ⟨_, rfl, .inl rfl⟩ | exact ⟨_, rfl, .inr (.inl rfl)⟩ | exact ⟨_, rfl, .inr (.inr rfl)⟩ | refine ⟨_, _, rfl, rfl, ?_⟩ | exact ⟨_, rfl, rfl⟩ | exact ⟨_, _, _, _, rfl, rfl, rfl⟩ | exact ⟨_, rfl⟩ | exact ⟨_, _, rfl⟩ | apply And.intro))))
  · repeat' (first
    | refine DW_seq ?_
    | refine DW_region ?_
    | refine DW_draw ?_
    | refine dnilP ?_
    | refine dnilD (by kernel_rfl) ?_
    | refine then_normal ?_
    | refine then_exit ?_
    | refine then_ret ?_
    | refine DW_block ?_
    | refine blk_normal ?_
    | refine blk_ret ?_
    | refine blk_hit rfl ?_
    | refine blk_miss rfl ?_
    | refine loop_exit ?_
    | refine loop_ret ?_
    | refine DW_ret ?_
    | refine DW_exit ?_
    | refine DW_skip ?_
    | refine DW_cond_t rfl ?_
    | refine DW_cond_f rfl ?_
    | (apply DW_true rfl; case hb => (apply decide_eq_true; omega))
    | (apply DW_false rfl; case hb => (apply decide_eq_false; omega))
    | (apply dpC rfl; case h => first | (apply Pu.ok; repeat' (first | rfl | exact .inK (by simp only [InK]; omega) | exact .inK (by simp only [InK]; simp at hg; omega) | exact .wr | constructor | decide | omega)))
    | refine dpOff rfl rfl ?_
    | ((first | apply dp rfl | apply dpOn rfl rfl | apply dpMay rfl rfl (by first | exact fun _ => trivial | exact fun h => ⟨h, trivial⟩ | exact fun h => ⟨h, h, trivial⟩ | exact fun h => ⟨h, h, h, trivial⟩)); case h => ((try intro hg); first | (apply Pu.ok; repeat' (first | rfl | exact .inK (by simp only [InK]; omega) | exact .inK (by simp only [InK]; simp at hg; omega) | exact .wr | constructor | decide | omega))))
    | refine dpickAnd rfl rfl rfl rfl rfl ?_ | refine dpickOr rfl rfl rfl rfl rfl ?_
    | (apply dt rfl; case h => first | exact S_alloc _ rfl | exact S_box _ rfl rfl)
    | (apply ds; case h => first | exact S_store rfl rfl rfl rfl rfl rfl)
    | (apply dm rfl; case h => first | exact M_d rfl | exact S_alloc 2001 rfl | exact S_alloc 2002 rfl | exact S_alloc 2003 rfl | exact S_alloc 2004 rfl | exact S_alloc 2005 rfl)
    | fail)
    refine DW_loop (fun k : Nat => ⟨[(1, .dat false (.int .i64 t)), (2, .ptr 2 0), (5, .dat true (.slice ((planF n t).map Place.cells))), (51, .dat true (.int .i64 ((planF n t).map Place.cells).length)), (52, .dat true (.int .i64 k))],
        [(2, .cells false true (n.cells.map (.dat false)))], 156⟩)
      (fun k => k ≤ n.bridges.length) (fun k => n.bridges.length - k) 0 (Nat.zero_le _) (Wk_gen some rfl rfl (by (repeat' (first | exact trivial | rfl | exact listLe_map _ | exact ⟨_, rfl, .inl rfl⟩ | exact ⟨_, rfl, .inr (.inl rfl)⟩ | exact ⟨_, rfl, .inr (.inr rfl)⟩ | refine ⟨_, _, rfl, rfl, ?_⟩ | exact ⟨_, rfl, rfl⟩ | exact ⟨_, _, _, _, rfl, rfl, rfl⟩ | exact ⟨_, rfl⟩ | exact ⟨_, _, rfl⟩ | apply And.intro))) (by (repeat' (first | exact trivial | rfl | exact listLe_map _ | exact ⟨_, rfl, .inl rfl⟩ | exact ⟨_, rfl, .inr (.inl rfl)⟩ | exact ⟨_, rfl, .inr (.inr rfl)⟩ | refine ⟨_, _, rfl, rfl, ?_⟩ | exact ⟨_, rfl, rfl⟩ | exact ⟨_, _, _, _, rfl, rfl, rfl⟩ | exact ⟨_, rfl⟩ | exact ⟨_, _, rfl⟩ | apply And.intro)))) (fun i hi => ?_)
    by_cases hli : i < n.bridges.length
    · have hx : n.bridges[(i : Int).toNat]? = some n.bridges[i] := by simp [hli]
      have hx' : n.bridges[i]? = some n.bridges[i] := by simp [hli]
      have hbo := h.br n.bridges[i] (List.getElem_mem hli)
      generalize n.bridges[i] = b at hx hx' hbo
      have hid := ref6_Ident b hbo t
      have hie := idN_of (tree := t) hx'
      obtain ⟨p, g, v, rp, _⟩ := plan_at (tree := t) hli
      have g' : (planF n t)[(i : Int).toNat]? = some p := g
      have e1 : p.vec.bridge = b.id t := by rw [v, (sF_ids hli).1, hie]
      have e2 : ¬ b.id t < p.vec.root := by
        have := fin_own h t hli
        rw [v, ← hie]; unfold leL at this; omega
      have e3 := fin_port h t hli
      rw [← v, ← rp, hie] at e3
      have e4 : decide (decide (p.rootPort < 0) ≠ decide (p.vec.root = b.id t)) = false := by
        rw [decide_eq_false_iff_not, Decidable.not_not, decide_eq_decide]; exact e3.1
      have e4' : (decide (p.rootPort < 0) != decide (p.vec.root = b.id t)) = false := by
        rw [bne_eq_false_iff_eq, decide_eq_decide]; exact e3.1
      obtain ⟨r, r1, r2, r3⟩ := fin_there h t 2600000 hli (fin_cost h t hli).2
      have f1 : decide (p.vec.bridge ≠ b.id t) = false := decide_eq_false (by simp [e1])
      have f2 : decide (b.id t < p.vec.root) = false := decide_eq_false e2
      have f5 : (decide (p.vec.root = b.id t) && decide (p.vec.cost ≠ 0)) = false := by
        by_cases hx : p.vec.root = b.id t
        · rw [decide_eq_true hx, decide_eq_false (by simp [e3.2 hx])]; rfl
        · rw [decide_eq_false hx]; rfl
      repeat' (first
    | refine DW_seq ?_
    | refine DW_region ?_
    | refine DW_draw ?_
    | refine dnilP ?_
    | refine dnilD (by kernel_rfl) ?_
    | refine then_normal ?_
    | refine then_exit ?_
    | refine then_ret ?_
    | refine DW_block ?_
    | refine blk_normal ?_
    | refine blk_ret ?_
    | refine blk_hit rfl ?_
    | refine blk_miss rfl ?_
    | refine loop_exit ?_
    | refine loop_ret ?_
    | refine DW_ret ?_
    | refine DW_exit ?_
    | refine DW_skip ?_
    | refine DW_cond_t rfl ?_
    | refine DW_cond_f rfl ?_
    | (apply DW_true rfl; case hb => (apply decide_eq_true; omega))
    | (apply DW_false rfl; case hb => (apply decide_eq_false; omega))
    | (apply dpC rfl; case h => first | exact S_call hid rfl | (apply Pu.ok; repeat' (first | rfl | exact .inK (by simp only [InK]; omega) | exact .inK (by simp only [InK]; simp at hg; omega) | exact .wr | constructor | decide | omega)))
    | refine dpOff rfl rfl ?_
    | ((first | apply dp rfl | apply dpOn rfl rfl | apply dpMay rfl rfl (by first | exact fun _ => trivial | exact fun h => ⟨h, trivial⟩ | exact fun h => ⟨h, h, trivial⟩ | exact fun h => ⟨h, h, h, trivial⟩)); case h => ((try intro hg); first | exact S_ixM rfl rfl (by omega) hx | exact S_ixM (f := Place.cells) rfl rfl (by omega) g' | exact as_bool (S_neq rfl rfl) f1 | exact as_bool (S_gtr rfl rfl) f2 | exact S_call hid rfl | (apply Pu.ok; repeat' (first | rfl | exact .inK (by simp only [InK]; omega) | exact .inK (by simp only [InK]; simp at hg; omega) | exact .wr | constructor | decide | omega))))
    | refine dpickAnd rfl rfl rfl rfl rfl ?_ | refine dpickOr rfl rfl rfl rfl rfl ?_
    | (apply dt rfl; case h => first | exact S_alloc _ rfl | exact S_box _ rfl rfl)
    | (apply ds; case h => first | exact S_store rfl rfl rfl rfl rfl rfl)
    | (apply dm rfl; case h => first | exact M_d rfl | exact S_alloc 2001 rfl | exact S_alloc 2002 rfl | exact S_alloc 2003 rfl | exact S_alloc 2004 rfl | exact S_alloc 2005 rfl)
    | fail)
      refine DW_false rfl (by rw [e4', f5]; rfl) ?_
      repeat' (first
    | refine DW_seq ?_
    | refine DW_region ?_
    | refine DW_draw ?_
    | refine dnilP ?_
    | refine dnilD (by kernel_rfl) ?_
    | refine then_normal ?_
    | refine then_exit ?_
    | refine then_ret ?_
    | refine DW_block ?_
    | refine blk_normal ?_
    | refine blk_ret ?_
    | refine blk_hit rfl ?_
    | refine blk_miss rfl ?_
    | refine loop_exit ?_
    | refine loop_ret ?_
    | refine DW_ret ?_
    | refine DW_exit ?_
    | refine DW_skip ?_
    | refine DW_cond_t rfl ?_
    | refine DW_cond_f rfl ?_
    | (apply dpC rfl; case h => first | (apply Pu.ok; repeat' (first | rfl | exact .inK (by simp only [InK]; omega) | exact .inK (by simp only [InK]; simp at hg; omega) | exact .wr | constructor | decide | omega)))
    | refine dpOff rfl rfl ?_
    | ((first | apply dp rfl | apply dpOn rfl rfl | apply dpMay rfl rfl (by first | exact fun _ => trivial | exact fun h => ⟨h, trivial⟩ | exact fun h => ⟨h, h, trivial⟩ | exact fun h => ⟨h, h, h, trivial⟩)); case h => ((try intro hg); first | (apply Pu.ok; repeat' (first | rfl | exact .inK (by simp only [InK]; omega) | exact .inK (by simp only [InK]; simp at hg; omega) | exact .wr | constructor | decide | omega))))
    | refine dpickAnd rfl rfl rfl rfl rfl ?_ | refine dpickOr rfl rfl rfl rfl rfl ?_
    | (apply dt rfl; case h => first | exact S_alloc _ rfl | exact S_box _ rfl rfl)
    | (apply ds; case h => first | exact S_store rfl rfl rfl rfl rfl rfl)
    | (apply dm rfl; case h => first | exact M_d rfl | exact S_alloc 2001 rfl | exact S_alloc 2002 rfl | exact S_alloc 2003 rfl | exact S_alloc 2004 rfl | exact S_alloc 2005 rfl)
    | fail)
      refine DW_loop (fun q : Nat × Bool => ⟨[(1, .dat false (.int .i64 t)), (2, .ptr 2 0), (5, .dat true (.slice ((planF n t).map Place.cells))), (9, .dat true (.int .i64 i)), (11, .dat true (.bool q.2)), (51, .dat true (.int .i64 ((planF n t).map Place.cells).length)), (52, .dat true (.int .i64 i)), (117, .dat true (.int .i64 ((planF n t).map Place.cells).length)), (118, .dat true (.int .i64 q.1))],
          [(2, .cells false true (n.cells.map (.dat false)))], 156⟩)
        (fun q => q.1 ≤ n.bridges.length ∧ (q.2 = true ∨ q.1 ≤ r)) (fun q => n.bridges.length - q.1) (0, false) ⟨Nat.zero_le _, .inr (Nat.zero_le _)⟩ (Wk_gen some rfl rfl (by (repeat' (first | exact trivial | rfl | exact listLe_map _ | exact ⟨_, rfl, .inl rfl⟩ | exact ⟨_, rfl, .inr (.inl rfl)⟩ | exact ⟨_, rfl, .inr (.inr rfl)⟩ | refine ⟨_, _, rfl, rfl, ?_⟩ | exact ⟨_, rfl, rfl⟩ | exact ⟨_, _, _, _, rfl, rfl, rfl⟩ | exact ⟨_, rfl⟩ | exact ⟨_, _, rfl⟩ | apply And.intro))) (by (repeat' (first | exact trivial | rfl | exact listLe_map _ | exact ⟨_, rfl, .inl rfl⟩ | exact ⟨_, rfl, .inr (.inl rfl)⟩ | exact ⟨_, rfl, .inr (.inr rfl)⟩ | refine ⟨_, _, rfl, rfl, ?_⟩ | exact ⟨_, rfl, rfl⟩ | exact ⟨_, _, _, _, rfl, rfl, rfl⟩ | exact ⟨_, rfl⟩ | exact ⟨_, _, rfl⟩ | apply And.intro)))) (fun q hq => ?_)
      obtain ⟨k, th⟩ := q
      obtain ⟨hk, hth⟩ := hq
      simp only at hk hth
      dsimp only
      by_cases hlk : k < n.bridges.length
      · obtain ⟨p2, g2, v2, _⟩ := plan_at (tree := t) hlk
        have g2' : (planF n t)[(k : Int).toNat]? = some p2 := g2
        repeat' (first
    | refine DW_seq ?_
    | refine DW_region ?_
    | refine DW_draw ?_
    | refine dnilP ?_
    | refine dnilD (by kernel_rfl) ?_
    | refine then_normal ?_
    | refine then_exit ?_
    | refine then_ret ?_
    | refine DW_block ?_
    | refine blk_normal ?_
    | refine blk_ret ?_
    | refine blk_hit rfl ?_
    | refine blk_miss rfl ?_
    | refine loop_exit ?_
    | refine loop_ret ?_
    | refine DW_ret ?_
    | refine DW_exit ?_
    | refine DW_skip ?_
    | refine DW_cond_t rfl ?_
    | refine DW_cond_f rfl ?_
    | (apply DW_true rfl; case hb => (apply decide_eq_true; omega))
    | (apply DW_false rfl; case hb => (apply decide_eq_false; omega))
    | (apply dpC rfl; case h => first | (apply Pu.ok; repeat' (first | rfl | exact .inK (by simp only [InK]; omega) | exact .inK (by simp only [InK]; simp at hg; omega) | exact .wr | constructor | decide | omega)))
    | refine dpOff rfl rfl ?_
    | ((first | apply dp rfl | apply dpOn rfl rfl | apply dpMay rfl rfl (by first | exact fun _ => trivial | exact fun h => ⟨h, trivial⟩ | exact fun h => ⟨h, h, trivial⟩ | exact fun h => ⟨h, h, h, trivial⟩)); case h => ((try intro hg); first | exact S_ixM (f := Place.cells) rfl rfl (by omega) g' | exact S_ixM (f := Place.cells) rfl rfl (by omega) g2' | (apply Pu.ok; repeat' (first | rfl | exact .inK (by simp only [InK]; omega) | exact .inK (by simp only [InK]; simp at hg; omega) | exact .wr | constructor | decide | omega))))
    | refine dpickAnd rfl rfl rfl rfl rfl ?_ | refine dpickOr rfl rfl rfl rfl rfl ?_
    | (apply dt rfl; case h => first | exact S_alloc _ rfl | exact S_box _ rfl rfl)
    | (apply ds; case h => first | exact S_store rfl rfl rfl rfl rfl rfl)
    | (apply dm rfl; case h => first | exact M_d rfl | exact S_alloc 2001 rfl | exact S_alloc 2002 rfl | exact S_alloc 2003 rfl | exact S_alloc 2004 rfl | exact S_alloc 2005 rfl)
    | fail)
        refine loop_again (k + 1, th || (decide (p2.vec.root = p.vec.root) && decide (p2.vec.bridge = p2.vec.root))) ⟨hlk, ?_⟩ (by simp only; omega) (Wk_gen some rfl rfl (by (repeat' (first | exact trivial | rfl | exact listLe_map _ | exact ⟨_, rfl, .inl rfl⟩ | exact ⟨_, rfl, .inr (.inl rfl)⟩ | exact ⟨_, rfl, .inr (.inr rfl)⟩ | refine ⟨_, _, rfl, rfl, ?_⟩ | exact ⟨_, rfl, rfl⟩ | exact ⟨_, _, _, _, rfl, rfl, rfl⟩ | exact ⟨_, rfl⟩ | exact ⟨_, _, rfl⟩ | apply And.intro))) (by (repeat' (first | exact trivial | rfl | exact listLe_map _ | exact ⟨_, rfl, .inl rfl⟩ | exact ⟨_, rfl, .inr (.inl rfl)⟩ | exact ⟨_, rfl, .inr (.inr rfl)⟩ | refine ⟨_, _, rfl, rfl, ?_⟩ | exact ⟨_, rfl, rfl⟩ | exact ⟨_, _, _, _, rfl, rfl, rfl⟩ | exact ⟨_, rfl⟩ | exact ⟨_, _, rfl⟩ | apply And.intro))))
        rcases hth with rfl | hth
        · exact .inl rfl
        · by_cases hkr : k = r
          · subst hkr
            have q1 : p2.vec.root = p.vec.root := by rw [v2, v]; exact r2
            have q2 : p2.vec.bridge = p2.vec.root := by rw [v2, (sF_ids hlk).1]; exact r3
            rw [decide_eq_true q1, decide_eq_true q2]
            exact .inl (by simp)
          · exact .inr (by simp only; omega)
      · have hth' : th = true := by
          rcases hth with h1 | h1
          · exact h1
          · omega
        subst hth'
        repeat' (first
    | refine DW_seq ?_
    | refine DW_region ?_
    | refine DW_draw ?_
    | refine dnilP ?_
    | refine dnilD (by kernel_rfl) ?_
    | refine then_normal ?_
    | refine then_exit ?_
    | refine then_ret ?_
    | refine DW_block ?_
    | refine blk_normal ?_
    | refine blk_ret ?_
    | refine blk_hit rfl ?_
    | refine blk_miss rfl ?_
    | refine loop_exit ?_
    | refine loop_ret ?_
    | refine DW_ret ?_
    | refine DW_exit ?_
    | refine DW_skip ?_
    | refine DW_cond_t rfl ?_
    | refine DW_cond_f rfl ?_
    | (apply DW_true rfl; case hb => (apply decide_eq_true; omega))
    | (apply DW_false rfl; case hb => (apply decide_eq_false; omega))
    | (apply dpC rfl; case h => first | (apply Pu.ok; repeat' (first | rfl | exact .inK (by simp only [InK]; omega) | exact .inK (by simp only [InK]; simp at hg; omega) | exact .wr | constructor | decide | omega)))
    | refine dpOff rfl rfl ?_
    | ((first | apply dp rfl | apply dpOn rfl rfl | apply dpMay rfl rfl (by first | exact fun _ => trivial | exact fun h => ⟨h, trivial⟩ | exact fun h => ⟨h, h, trivial⟩ | exact fun h => ⟨h, h, h, trivial⟩)); case h => ((try intro hg); first | (apply Pu.ok; repeat' (first | rfl | exact .inK (by simp only [InK]; omega) | exact .inK (by simp only [InK]; simp at hg; omega) | exact .wr | constructor | decide | omega))))
    | refine dpickAnd rfl rfl rfl rfl rfl ?_ | refine dpickOr rfl rfl rfl rfl rfl ?_
    | (apply dt rfl; case h => first | exact S_alloc _ rfl | exact S_box _ rfl rfl)
    | (apply ds; case h => first | exact S_store rfl rfl rfl rfl rfl rfl)
    | (apply dm rfl; case h => first | exact M_d rfl | exact S_alloc 2001 rfl | exact S_alloc 2002 rfl | exact S_alloc 2003 rfl | exact S_alloc 2004 rfl | exact S_alloc 2005 rfl)
    | fail)
        exact loop_again (i + 1) hli (by omega) (Wk_gen some rfl rfl (by (repeat' (first | exact trivial | rfl | exact listLe_map _ | exact ⟨_, rfl, .inl rfl⟩ | exact ⟨_, rfl, .inr (.inl rfl)⟩ | exact ⟨_, rfl, .inr (.inr rfl)⟩ | refine ⟨_, _, rfl, rfl, ?_⟩ | exact ⟨_, rfl, rfl⟩ | exact ⟨_, _, _, _, rfl, rfl, rfl⟩ | exact ⟨_, rfl⟩ | exact ⟨_, _, rfl⟩ | apply And.intro))) (by (repeat' (first | exact trivial | rfl | exact listLe_map _ | exact ⟨_, rfl, .inl rfl⟩ | exact ⟨_, rfl, .inr (.inl rfl)⟩ | exact ⟨_, rfl, .inr (.inr rfl)⟩ | refine ⟨_, _, rfl, rfl, ?_⟩ | exact ⟨_, rfl, rfl⟩ | exact ⟨_, _, _, _, rfl, rfl, rfl⟩ | exact ⟨_, rfl⟩ | exact ⟨_, _, rfl⟩ | apply And.intro))))
    · repeat' (first
    | refine DW_seq ?_
    | refine DW_region ?_
    | refine DW_draw ?_
    | refine dnilP ?_
    | refine dnilD (by kernel_rfl) ?_
    | refine then_normal ?_
    | refine then_exit ?_
    | refine then_ret ?_
    | refine DW_block ?_
    | refine blk_normal ?_
    | refine blk_ret ?_
    | refine blk_hit rfl ?_
    | refine blk_miss rfl ?_
    | refine loop_exit ?_
    | refine loop_ret ?_
    | refine DW_ret ?_
    | refine DW_exit ?_
    | refine DW_skip ?_
    | refine DW_cond_t rfl ?_
    | refine DW_cond_f rfl ?_
    | (apply DW_true rfl; case hb => (apply decide_eq_true; omega))
    | (apply DW_false rfl; case hb => (apply decide_eq_false; omega))
    | (apply dpC rfl; case h => first | (apply Pu.ok; repeat' (first | rfl | exact .inK (by simp only [InK]; omega) | exact .inK (by simp only [InK]; simp at hg; omega) | exact .wr | constructor | decide | omega)))
    | refine dpOff rfl rfl ?_
    | ((first | apply dp rfl | apply dpOn rfl rfl | apply dpMay rfl rfl (by first | exact fun _ => trivial | exact fun h => ⟨h, trivial⟩ | exact fun h => ⟨h, h, trivial⟩ | exact fun h => ⟨h, h, h, trivial⟩)); case h => ((try intro hg); first | (apply Pu.ok; repeat' (first | rfl | exact .inK (by simp only [InK]; omega) | exact .inK (by simp only [InK]; simp at hg; omega) | exact .wr | constructor | decide | omega))))
    | refine dpickAnd rfl rfl rfl rfl rfl ?_ | refine dpickOr rfl rfl rfl rfl rfl ?_
    | (apply dt rfl; case h => first | exact S_alloc _ rfl | exact S_box _ rfl rfl)
    | (apply ds; case h => first | exact S_store rfl rfl rfl rfl rfl rfl)
    | (apply dm rfl; case h => first | exact M_d rfl | exact S_alloc 2001 rfl | exact S_alloc 2002 rfl | exact S_alloc 2003 rfl | exact S_alloc 2004 rfl | exact S_alloc 2005 rfl)
    | fail)
      refine ret1 rfl (by first | exact .inl rfl | exact .inr (flat_of rfl)) ?_
      rfl
end Go.Proofs.Ytkppkgahdoglpaa
