/- Contract: plan.Wrong. -/
import Derived.Test.YtkppkgahdoglpaazcPlW
namespace Go.Proofs.Ytkppkgahdoglpaa
open Go.RowKit
attribute [local irreducible] SStep DW DWin DOps thenQ inBlk loopQ retQ retQG FnF FnG Wk IntKind.wrap IntKind.andI IntKind.orI IntKind.xorI IntKind.andNotI IntKind.shlI IntKind.shrI Region.wrong Bridge.wrong Link.wrong
set_option maxHeartbeats 4000000 in
theorem plan_Wrong (n : Net) (hw : ∀ b ∈ n.bridges, b.region.ways.length ≤ 9223372036854775807) : FnF Try.prog 12 [n.v] (faultV n.wrong) := by
  refine fnF_of Try.func12 rfl rfl rfl ?_
  simp only [envOf]
  have hmb : (n.bridges.map bridgeV).length = n.bridges.length := by simp
  have hml : (n.links.map linkV).length = n.links.length := by simp
  repeat' (first
    | (apply Stp.go; case a => constructor)
    | refine blk_hit rfl ?_ | refine blk_miss rfl ?_ | refine dnilD (by kernel_rfl) ?_ | refine DW_cond_t rfl ?_ | refine DW_cond_f rfl ?_
    | refine DW_cond rfl (fun hb => ?_) (fun hb => ?_)
    | refine dpOff rfl rfl ?_
    | ((first | apply dX rfl | apply dXon rfl rfl | apply dpMay rfl rfl (by intro h; first | trivial | exact ⟨h, trivial⟩ | exact ⟨h, h, trivial⟩ | exact ⟨h, h, h, trivial⟩)); (case h => ((try intro hg); first | exact S_al rfl | exact S_bx rfl rfl | exact S_store rfl rfl rfl rfl rfl rfl | (apply Pu.ok; repeat' (first | rfl | exact .inK (by simp only [InK]; omega) | exact .inK (by simp only [InK]; simp at hg; omega) | exact .wr | constructor | decide | omega)))); (try case hp => constructor))
    | refine dpickAnd rfl rfl rfl rfl rfl ?_ | refine dpickOr rfl rfl rfl rfl rfl ?_
    | fail)
  · refine retN (.cellA inferInstance rfl rfl rfl rfl (by first | exact .inl rfl | exact .inr (flat_of rfl)) .nil) ?_
    simp only [Bool.or_eq_true, Bool.or_eq_false_iff, decide_eq_true_eq, decide_eq_false_iff_not] at hb
    unfold Net.wrong
    rw [if_pos (by omega)]
    rfl
  simp only [Bool.or_eq_true, Bool.or_eq_false_iff, decide_eq_true_eq, decide_eq_false_iff_not] at hb
  have h0 : ¬ (12 < n.bridges.length ∨ 40 < n.links.length) := by omega
  refine DW_freeze 1 (fun _ _ _ h => by cases h) ?_
  refine DW_loop (fun k : Nat => ⟨[(1, .ptr 1 0), (2, .ptr 2 0), (24, .dat true (.int .i64 (n.bridges.map bridgeV).length)), (25, .dat true (.int .i64 k))], [(1, .cells true true (n.cells.map (.dat false))), (2, .cells false true [.dat true (.int .i64 0), .dat true (.int .i64 0)])], 101⟩)
    (fun k => k ≤ n.bridges.length ∧ wrongBr [] 0 n.bridges = wrongBr (n.bridges.take k) k (n.bridges.drop k)) (fun k => n.bridges.length - k) 0 ⟨Nat.zero_le _, rfl⟩
    (Wk_g some rfl rfl (by (repeat' (first | exact trivial | rfl | exact listLe_map _ | exact ⟨_, rfl, .inl rfl⟩ | exact ⟨_, rfl, .inr (.inl rfl)⟩ | exact ⟨_, rfl, .inr (.inr rfl)⟩ | refine ⟨_, _, rfl, rfl, ?_⟩ | exact ⟨_, rfl, rfl⟩ | exact ⟨_, _, _, _, rfl, rfl, rfl⟩ | exact ⟨_, rfl⟩ | exact ⟨_, _, rfl⟩ | apply And.intro)))) (fun k hR => ?_)
  obtain ⟨hk, hbr⟩ := hR
  by_cases hlt : k < n.bridges.length
  · have hx : n.bridges[(k : Int).toNat]? = some n.bridges[k] := by simp [hlt]
    have hx' : n.bridges[k]? = some n.bridges[k] := by simp [hlt]
    have hn : n.bridges.drop k = n.bridges[k] :: n.bridges.drop (k + 1) := List.drop_eq_getElem_cons hlt
    have hwb := hw n.bridges[k] (List.getElem_mem hlt)
    generalize n.bridges[k] = b at hx hx' hn hwb
    have ht : n.bridges.take (k + 1) = n.bridges.take k ++ [b] := by rw [List.take_add_one, hx']; rfl
    rw [hn, wrongBr] at hbr
    by_cases h1 : b.wrong = 0
    · rw [if_neg (by simpa using h1)] at hbr
      cases ha : (n.bridges.take k).any (fun o => decide (o.addr = b.addr)) with
      | true =>
        rw [if_pos ha] at hbr
        have hc := br_ContainsFunc (n.bridges.take k) 31 [.rp n.cells, .rp [.int .i64 k]] (fun o => decide (o.addr = b.addr)) (fun o => wrong_fn n k b o hx')
        rw [ha] at hc
        repeat' (first
    | (apply Stp.go; case a => constructor)
    | refine blk_hit rfl ?_ | refine blk_miss rfl ?_ | refine dnilD (by kernel_rfl) ?_ | refine DW_cond_t rfl ?_ | refine DW_cond_f rfl ?_
    | refine dpOff rfl rfl ?_
    | ((first | apply dX rfl | apply dXon rfl rfl | apply dpMay rfl rfl (by intro h; first | trivial | exact ⟨h, trivial⟩ | exact ⟨h, h, trivial⟩ | exact ⟨h, h, h, trivial⟩)); (case h => ((try intro hg); first | exact as_bool (S_lss rfl rfl) (decide_eq_true (by omega : (k : Int) < ((n.bridges.map bridgeV).length : Int))) | exact S_ixM rfl rfl (by omega) hx | exact S_call (plan_bridge b hwb) rfl | exact as_bool (S_eql rfl rfl) (decide_eq_true h1) | exact S_slM (n.bridges.take k) rfl (.none _) (.some _ _ _ _ k rfl) (by omega) (by omega) (by simp) | exact S_frz 3 rfl rfl (S_makeFunc rfl) | exact S_call hc rfl | exact S_al rfl | exact S_bx rfl rfl | exact S_store rfl rfl rfl rfl rfl rfl | (apply Pu.ok; repeat' (first | rfl | exact .inK (by simp only [InK]; omega) | exact .inK (by simp only [InK]; simp at hg; omega) | exact .wr | constructor | decide | omega)))); (try case hp => constructor))
    | refine dpickAnd rfl rfl rfl rfl rfl ?_ | refine dpickOr rfl rfl rfl rfl rfl ?_
    | fail)
        refine retN (.cellA inferInstance rfl rfl rfl rfl (by first | exact .inl rfl | exact .inr (flat_of rfl)) .nil) ?_
        unfold Net.wrong
        rw [if_neg h0, hbr]
        rfl
      | false =>
        rw [if_neg (by rw [ha]; simp)] at hbr
        have hc := br_ContainsFunc (n.bridges.take k) 31 [.rp n.cells, .rp [.int .i64 k]] (fun o => decide (o.addr = b.addr)) (fun o => wrong_fn n k b o hx')
        rw [ha] at hc
        repeat' (first
    | (apply Stp.go; case a => constructor)
    | refine blk_hit rfl ?_ | refine blk_miss rfl ?_ | refine dnilD (by kernel_rfl) ?_ | refine DW_cond_t rfl ?_ | refine DW_cond_f rfl ?_
    | refine dpOff rfl rfl ?_
    | ((first | apply dX rfl | apply dXon rfl rfl | apply dpMay rfl rfl (by intro h; first | trivial | exact ⟨h, trivial⟩ | exact ⟨h, h, trivial⟩ | exact ⟨h, h, h, trivial⟩)); (case h => ((try intro hg); first | exact as_bool (S_lss rfl rfl) (decide_eq_true (by omega : (k : Int) < ((n.bridges.map bridgeV).length : Int))) | exact S_ixM rfl rfl (by omega) hx | exact S_call (plan_bridge b hwb) rfl | exact as_bool (S_eql rfl rfl) (decide_eq_true h1) | exact as_bool (b := false) (S_neq rfl rfl) (by simp [h1]) | exact S_slM (n.bridges.take k) rfl (.none _) (.some _ _ _ _ k rfl) (by omega) (by omega) (by simp) | exact S_frz 3 rfl rfl (S_makeFunc rfl) | exact S_call hc rfl | exact S_al rfl | exact S_bx rfl rfl | exact S_store rfl rfl rfl rfl rfl rfl | (apply Pu.ok; repeat' (first | rfl | exact .inK (by simp only [InK]; omega) | exact .inK (by simp only [InK]; simp at hg; omega) | exact .wr | constructor | decide | omega)))); (try case hp => constructor))
    | refine dpickAnd rfl rfl rfl rfl rfl ?_ | refine dpickOr rfl rfl rfl rfl rfl ?_
    | fail)
        exact loop_again (k + 1) ⟨hlt, by rw [hbr, ht]⟩ (by omega) (Wk_g some rfl rfl (by (repeat' (first | exact trivial | rfl | exact listLe_map _ | exact ⟨_, rfl, .inl rfl⟩ | exact ⟨_, rfl, .inr (.inl rfl)⟩ | exact ⟨_, rfl, .inr (.inr rfl)⟩ | refine ⟨_, _, rfl, rfl, ?_⟩ | exact ⟨_, rfl, rfl⟩ | exact ⟨_, _, _, _, rfl, rfl, rfl⟩ | exact ⟨_, rfl⟩ | exact ⟨_, _, rfl⟩ | apply And.intro))))
    · rw [if_pos h1] at hbr
      repeat' (first
    | (apply Stp.go; case a => constructor)
    | refine blk_hit rfl ?_ | refine blk_miss rfl ?_ | refine dnilD (by kernel_rfl) ?_ | refine DW_cond_t rfl ?_ | refine DW_cond_f rfl ?_
    | refine dpOff rfl rfl ?_
    | ((first | apply dX rfl | apply dXon rfl rfl | apply dpMay rfl rfl (by intro h; first | trivial | exact ⟨h, trivial⟩ | exact ⟨h, h, trivial⟩ | exact ⟨h, h, h, trivial⟩)); (case h => ((try intro hg); first | exact as_bool (S_lss rfl rfl) (decide_eq_true (by omega : (k : Int) < ((n.bridges.map bridgeV).length : Int))) | exact S_ixM rfl rfl (by omega) hx | exact S_call (plan_bridge b hwb) rfl | exact as_bool (S_eql rfl rfl) (decide_eq_false h1) | exact as_bool (b := true) (S_neq rfl rfl) (by simp [h1]) | exact S_al rfl | exact S_bx rfl rfl | exact S_store rfl rfl rfl rfl rfl rfl | (apply Pu.ok; repeat' (first | rfl | exact .inK (by simp only [InK]; omega) | exact .inK (by simp only [InK]; simp at hg; omega) | exact .wr | constructor | decide | omega)))); (try case hp => constructor))
    | refine dpickAnd rfl rfl rfl rfl rfl ?_ | refine dpickOr rfl rfl rfl rfl rfl ?_
    | fail)
      refine retN (.cellA inferInstance rfl rfl rfl rfl (by first | exact .inl rfl | exact .inr (flat_of rfl)) .nil) ?_
      unfold Net.wrong
      rw [if_neg h0, hbr]
      rfl
  · rw [List.drop_eq_nil_of_le (by omega), wrongBr] at hbr
    have hnw : n.wrong = (wrongLk n.bridges.length [] 0 n.links).getD (0, 0) := by unfold Net.wrong; rw [if_neg h0, hbr]
    repeat' (first
    | (apply Stp.go; case a => constructor)
    | refine blk_hit rfl ?_ | refine blk_miss rfl ?_ | refine dnilD (by kernel_rfl) ?_ | refine DW_cond_t rfl ?_ | refine DW_cond_f rfl ?_
    | refine dpOff rfl rfl ?_
    | (apply dt rfl; case h => first | exact S_mkMapK (kt := 0) (et := 0) portV V.bool _ rfl)
    | ((first | apply dX rfl | apply dXon rfl rfl | apply dpMay rfl rfl (by intro h; first | trivial | exact ⟨h, trivial⟩ | exact ⟨h, h, trivial⟩ | exact ⟨h, h, h, trivial⟩)); (case h => ((try intro hg); first | exact as_bool (S_lss rfl rfl) (decide_eq_false (by omega : ¬ (k : Int) < ((n.bridges.map bridgeV).length : Int))) | exact S_mkMapK (kt := 0) (et := 0) portV V.bool _ rfl | exact S_al rfl | exact S_bx rfl rfl | exact S_store rfl rfl rfl rfl rfl rfl | (apply Pu.ok; repeat' (first | rfl | exact .inK (by simp only [InK]; omega) | exact .inK (by simp only [InK]; simp at hg; omega) | exact .wr | constructor | decide | omega)))); (try case hp => constructor))
    | refine dpickAnd rfl rfl rfl rfl rfl ?_ | refine dpickOr rfl rfl rfl rfl rfl ?_
    | fail)
    refine DW_loop (fun p : Nat × List (Int × Int) => ⟨[(1, .ptr 1 0), (2, .ptr 2 0), (5, .mp 49), (52, .dat true (.int .i64 (n.links.map linkV).length)), (53, .dat true (.int .i64 p.1))], [(1, .cells true true (n.cells.map (.dat false))), (2, .cells false true [.dat true (.int .i64 0), .dat true (.int .i64 0)]), (49, .mapb 0 0 (mapK portV V.bool (hadE p.2)))], 101⟩)
      (fun p => p.1 ≤ n.links.length ∧ wrongLk n.bridges.length [] 0 n.links = wrongLk n.bridges.length p.2 p.1 (n.links.drop p.1)) (fun p => n.links.length - p.1) (0, []) ⟨Nat.zero_le _, rfl⟩
      (Wk_g some rfl rfl (by (repeat' (first | exact trivial | rfl | exact listLe_map _ | exact ⟨_, rfl, .inl rfl⟩ | exact ⟨_, rfl, .inr (.inl rfl)⟩ | exact ⟨_, rfl, .inr (.inr rfl)⟩ | refine ⟨_, _, rfl, rfl, ?_⟩ | exact ⟨_, rfl, rfl⟩ | exact ⟨_, _, _, _, rfl, rfl, rfl⟩ | exact ⟨_, rfl⟩ | exact ⟨_, _, rfl⟩ | apply And.intro)))) (fun p hR => ?_)
    obtain ⟨i, had⟩ := p
    obtain ⟨hi, hlk⟩ := hR
    simp only at hi hlk
    dsimp only
    by_cases hli : i < n.links.length
    · have hy : n.links[(i : Int).toNat]? = some n.links[i] := by simp [hli]
      have hm : n.links.drop i = n.links[i] :: n.links.drop (i + 1) := List.drop_eq_getElem_cons hli
      generalize n.links[i] = l at hy hm
      rw [hm, wrongLk] at hlk
      by_cases h1 : l.wrong n.bridges.length = 0
      · rw [if_neg (by simpa using h1)] at hlk
        by_cases h2 : (l.a, l.pa) ∈ had
        · rw [if_pos h2] at hlk
          repeat' (first
    | refine DW_loopU ?_
    | refine DWin_step ?_
    | (apply Stp.go; case a => constructor)
    | refine blk_hit rfl ?_ | refine blk_miss rfl ?_ | refine dnilD (by kernel_rfl) ?_ | refine DW_cond_t rfl ?_ | refine DW_cond_f rfl ?_
    | refine dpOff rfl rfl ?_
    | ((first | apply dX rfl | apply dXon rfl rfl | apply dpMay rfl rfl (by intro h; first | trivial | exact ⟨h, trivial⟩ | exact ⟨h, h, trivial⟩ | exact ⟨h, h, h, trivial⟩)); (case h => ((try intro hg); first | exact as_bool (S_lss rfl rfl) (decide_eq_true (by omega : (i : Int) < ((n.links.map linkV).length : Int))) | exact S_ixM rfl rfl (by omega) hy | exact S_call (plan_link n l) rfl | exact as_bool (b := false) (S_neq rfl rfl) (by simp [h1]) | exact S_lookHad (p := (l.a, l.pa)) Try.underlying52 (decide_eq_true h2) rfl rfl rfl | exact S_al rfl | exact S_bx rfl rfl | exact S_store rfl rfl rfl rfl rfl rfl | exact S_alloc 2001 rfl | exact S_alloc 2002 rfl | exact S_alloc 2003 rfl | exact S_alloc 2004 rfl | exact S_alloc 2005 rfl | (apply Pu.ok; repeat' (first | rfl | exact .inK (by simp only [InK]; omega) | exact .inK (by simp only [InK]; simp at hg; omega) | exact .wr | constructor | decide | omega)))); (try case hp => constructor))
    | refine dpickAnd rfl rfl rfl rfl rfl ?_ | refine dpickOr rfl rfl rfl rfl rfl ?_
    | fail)
          refine retN (.cellA inferInstance rfl rfl rfl rfl (by first | exact .inl rfl | exact .inr (flat_of rfl)) .nil) ?_
          rw [hnw, hlk]
          rfl
        · rw [if_neg h2] at hlk
          by_cases h3 : (l.b, l.pb) ∈ had ++ [(l.a, l.pa)]
          · rw [if_pos h3] at hlk
            repeat' (first
    | refine DW_loopU ?_
    | refine DWin_step ?_
    | (apply Stp.go; case a => constructor)
    | refine blk_hit rfl ?_ | refine blk_miss rfl ?_ | refine dnilD (by kernel_rfl) ?_ | refine DW_cond_t rfl ?_ | refine DW_cond_f rfl ?_
    | refine dpOff rfl rfl ?_
    | ((first | apply dX rfl | apply dXon rfl rfl | apply dpMay rfl rfl (by intro h; first | trivial | exact ⟨h, trivial⟩ | exact ⟨h, h, trivial⟩ | exact ⟨h, h, h, trivial⟩)); (case h => ((try intro hg); first | exact as_bool (S_lss rfl rfl) (decide_eq_true (by omega : (i : Int) < ((n.links.map linkV).length : Int))) | exact S_ixM rfl rfl (by omega) hy | exact S_call (plan_link n l) rfl | exact as_bool (b := false) (S_neq rfl rfl) (by simp [h1]) | exact S_lookHad (p := (l.a, l.pa)) Try.underlying52 (decide_eq_false h2) rfl rfl rfl | exact S_setHad (p := (l.a, l.pa)) Try.underlying52 h2 rfl rfl rfl rfl | exact S_lookHad (p := (l.b, l.pb)) Try.underlying52 (decide_eq_true h3) rfl rfl rfl | exact S_al rfl | exact S_bx rfl rfl | exact S_store rfl rfl rfl rfl rfl rfl | exact S_alloc 2001 rfl | exact S_alloc 2002 rfl | exact S_alloc 2003 rfl | exact S_alloc 2004 rfl | exact S_alloc 2005 rfl | (apply Pu.ok; repeat' (first | rfl | exact .inK (by simp only [InK]; omega) | exact .inK (by simp only [InK]; simp at hg; omega) | exact .wr | constructor | decide | omega)))); (try case hp => constructor))
    | refine dpickAnd rfl rfl rfl rfl rfl ?_ | refine dpickOr rfl rfl rfl rfl rfl ?_
    | fail)
            refine retN (.cellA inferInstance rfl rfl rfl rfl (by first | exact .inl rfl | exact .inr (flat_of rfl)) .nil) ?_
            rw [hnw, hlk]
            rfl
          · rw [if_neg h3] at hlk
            repeat' (first
    | refine DW_loopU ?_
    | refine DWin_step ?_
    | (apply Stp.go; case a => constructor)
    | refine blk_hit rfl ?_ | refine blk_miss rfl ?_ | refine dnilD (by kernel_rfl) ?_ | refine DW_cond_t rfl ?_ | refine DW_cond_f rfl ?_
    | refine dpOff rfl rfl ?_
    | ((first | apply dX rfl | apply dXon rfl rfl | apply dpMay rfl rfl (by intro h; first | trivial | exact ⟨h, trivial⟩ | exact ⟨h, h, trivial⟩ | exact ⟨h, h, h, trivial⟩)); (case h => ((try intro hg); first | exact as_bool (S_lss rfl rfl) (decide_eq_true (by omega : (i : Int) < ((n.links.map linkV).length : Int))) | exact S_ixM rfl rfl (by omega) hy | exact S_call (plan_link n l) rfl | exact as_bool (b := false) (S_neq rfl rfl) (by simp [h1]) | exact S_lookHad (p := (l.a, l.pa)) Try.underlying52 (decide_eq_false h2) rfl rfl rfl | exact S_setHad (p := (l.a, l.pa)) Try.underlying52 h2 rfl rfl rfl rfl | exact S_lookHad (p := (l.b, l.pb)) Try.underlying52 (decide_eq_false h3) rfl rfl rfl | exact S_setHad (p := (l.b, l.pb)) Try.underlying52 h3 rfl rfl rfl rfl | exact S_al rfl | exact S_bx rfl rfl | exact S_store rfl rfl rfl rfl rfl rfl | exact S_alloc 2001 rfl | exact S_alloc 2002 rfl | exact S_alloc 2003 rfl | exact S_alloc 2004 rfl | exact S_alloc 2005 rfl | (apply Pu.ok; repeat' (first | rfl | exact .inK (by simp only [InK]; omega) | exact .inK (by simp only [InK]; simp at hg; omega) | exact .wr | constructor | decide | omega)))); (try case hp => constructor))
    | refine dpickAnd rfl rfl rfl rfl rfl ?_ | refine dpickOr rfl rfl rfl rfl rfl ?_
    | fail)
            exact loop_again (i + 1, had ++ [(l.a, l.pa)] ++ [(l.b, l.pb)]) ⟨hli, hlk⟩ (by simp only; omega) (Wk_g some rfl rfl (by (repeat' (first | exact trivial | rfl | exact listLe_map _ | exact ⟨_, rfl, .inl rfl⟩ | exact ⟨_, rfl, .inr (.inl rfl)⟩ | exact ⟨_, rfl, .inr (.inr rfl)⟩ | refine ⟨_, _, rfl, rfl, ?_⟩ | exact ⟨_, rfl, rfl⟩ | exact ⟨_, _, _, _, rfl, rfl, rfl⟩ | exact ⟨_, rfl⟩ | exact ⟨_, _, rfl⟩ | apply And.intro))))
      · rw [if_pos h1] at hlk
        repeat' (first
    | (apply Stp.go; case a => constructor)
    | refine blk_hit rfl ?_ | refine blk_miss rfl ?_ | refine dnilD (by kernel_rfl) ?_ | refine DW_cond_t rfl ?_ | refine DW_cond_f rfl ?_
    | refine dpOff rfl rfl ?_
    | ((first | apply dX rfl | apply dXon rfl rfl | apply dpMay rfl rfl (by intro h; first | trivial | exact ⟨h, trivial⟩ | exact ⟨h, h, trivial⟩ | exact ⟨h, h, h, trivial⟩)); (case h => ((try intro hg); first | exact as_bool (S_lss rfl rfl) (decide_eq_true (by omega : (i : Int) < ((n.links.map linkV).length : Int))) | exact S_ixM rfl rfl (by omega) hy | exact S_call (plan_link n l) rfl | exact as_bool (b := true) (S_neq rfl rfl) (by simp [h1]) | exact S_al rfl | exact S_bx rfl rfl | exact S_store rfl rfl rfl rfl rfl rfl | (apply Pu.ok; repeat' (first | rfl | exact .inK (by simp only [InK]; omega) | exact .inK (by simp only [InK]; simp at hg; omega) | exact .wr | constructor | decide | omega)))); (try case hp => constructor))
    | refine dpickAnd rfl rfl rfl rfl rfl ?_ | refine dpickOr rfl rfl rfl rfl rfl ?_
    | fail)
        refine retN (.cellA inferInstance rfl rfl rfl rfl (by first | exact .inl rfl | exact .inr (flat_of rfl)) .nil) ?_
        rw [hnw, hlk]
        rfl
    · rw [List.drop_eq_nil_of_le (by omega), wrongLk] at hlk
      repeat' (first
    | (apply Stp.go; case a => constructor)
    | refine blk_hit rfl ?_ | refine blk_miss rfl ?_ | refine dnilD (by kernel_rfl) ?_ | refine DW_cond_t rfl ?_ | refine DW_cond_f rfl ?_
    | refine dpOff rfl rfl ?_
    | ((first | apply dX rfl | apply dXon rfl rfl | apply dpMay rfl rfl (by intro h; first | trivial | exact ⟨h, trivial⟩ | exact ⟨h, h, trivial⟩ | exact ⟨h, h, h, trivial⟩)); (case h => ((try intro hg); first | exact as_bool (S_lss rfl rfl) (decide_eq_false (by omega : ¬ (i : Int) < ((n.links.map linkV).length : Int))) | exact S_al rfl | exact S_bx rfl rfl | exact S_store rfl rfl rfl rfl rfl rfl | (apply Pu.ok; repeat' (first | rfl | exact .inK (by simp only [InK]; omega) | exact .inK (by simp only [InK]; simp at hg; omega) | exact .wr | constructor | decide | omega)))); (try case hp => constructor))
    | refine dpickAnd rfl rfl rfl rfl rfl ?_ | refine dpickOr rfl rfl rfl rfl rfl ?_
    | fail)
      refine retN (.cellA inferInstance rfl rfl rfl rfl (by first | exact .inl rfl | exact .inr (flat_of rfl)) .nil) ?_
      rw [hnw, hlk]
      rfl
end Go.Proofs.Ytkppkgahdoglpaa
