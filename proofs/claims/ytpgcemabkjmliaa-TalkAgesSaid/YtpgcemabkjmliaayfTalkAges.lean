/- Law: TalkAges. -/
import Derived.Test.YtpgcemabkjmliaayfTlO
namespace Go.Proofs.Ytpgcemabkjmliaa
open Go.RowKit
attribute [local irreducible] SStep DW DWin DOps thenQ inBlk loopQ retQ retQG FnF FnG FnI FnM Wk IntKind.wrap IntKind.andI IntKind.orI IntKind.xorI IntKind.andNotI IntKind.shlI IntKind.shrI playA onA
set_option maxHeartbeats 4000000 in
theorem law_TalkAges (n : Net) (ht : n.typed) (trees : Int) (l : List Doing) : FnF Try.prog 5 [n.v, .int .i64 trees, .slice (l.map Doing.cells)] (.bool true) := by
  refine fnF_of Try.func5 rfl rfl rfl ?_
  simp only [envOf]
  have hp := talk_Play n ht trees l
  rcases playA_cases ht trees l with ⟨f, hf, hne⟩ | ⟨hg, h0, h1, h2, hl, ⟨m, t⟩, hon, hpl⟩
  · rw [hf] at hp
    obtain ⟨e, i⟩ := f
    simp only at hne
    repeat' (first | (apply Wa; constructor) | refine Wb rfl ?_ | refine Wc rfl ?_ | refine Wd (by kernel_rfl) ?_ | refine We rfl ?_ | refine Wf rfl ?_ | refine Wg rfl (by omega) ?_ | refine Wh rfl (by omega) ?_ | refine Wi rfl rfl ?_ | ((first | apply dX rfl | apply Da rfl rfl | apply Db rfl rfl (by intro h; first | trivial | exact ⟨h, trivial⟩ | exact ⟨h, h, trivial⟩)); (focus ((try intro hg); first | exact S_call law7_alive rfl | exact S_call hp rfl | exact Ca rfl rfl (by constructor) (by omega) | exact Cb rfl rfl (by constructor) (by omega) | exact S_al rfl | exact S_bx rfl rfl | exact S_store rfl rfl rfl rfl rfl rfl | (apply Pu.ok; repeat' (first | rfl | exact .inK (by simp only [InK]; omega) | exact .wr | constructor | decide | omega)))); constructor) | refine Pa rfl rfl rfl rfl rfl ?_ | refine Po rfl rfl rfl rfl rfl ?_ | fail)
    refine ret1 rfl (by first | exact .inl rfl | exact .inr (flat_of rfl)) ?_
    rfl
  · rw [hpl] at hp
    obtain ⟨mg, mt, m0, mk, mgt, mtl⟩ := play_two ht hpl hg h0 h1 h2 hon
    have hag := onLoop_aged l 0 n (start0 n trees.toNat) (start0_aged n _) (m, t) (by rw [hon])
    simp only at hag
    have hmt : (t.map mindsRow).length = t.length := by simp
    have htl := mgt.l
    repeat' (first | (apply Wa; constructor) | refine Wb rfl ?_ | refine Wc rfl ?_ | refine Wd (by kernel_rfl) ?_ | refine We rfl ?_ | refine Wf rfl ?_ | refine Wg rfl (by omega) ?_ | refine Wh rfl (by omega) ?_ | refine Wi rfl rfl ?_ | ((first | apply dX rfl | apply Da rfl rfl | apply Db rfl rfl (by intro h; first | trivial | exact ⟨h, trivial⟩ | exact ⟨h, h, trivial⟩)); (focus ((try intro hg); first | exact S_call law7_alive rfl | exact S_call hp rfl | exact Ca rfl rfl (by constructor) (by omega) | exact Cb rfl rfl (by constructor) (by omega) | exact S_al rfl | exact S_bx rfl rfl | exact S_store rfl rfl rfl rfl rfl rfl | (apply Pu.ok; repeat' (first | rfl | exact .inK (by simp only [InK]; omega) | exact .wr | constructor | decide | omega)))); constructor) | refine Pa rfl rfl rfl rfl rfl ?_ | refine Po rfl rfl rfl rfl rfl ?_ | fail)
    refine DW_loop (fun k : Nat => ⟨[(32, .dat true (.slice (t.map mindsRow))), (33, .dat true (.int .i64 (t.map mindsRow).length)), (34, .dat true (.int .i64 k))], [], 76⟩)
      (fun k => k ≤ t.length) (fun k => t.length - k) 0 (Nat.zero_le _) (Wk_g some rfl rfl (by (repeat' (first | exact trivial | rfl | exact listLe_map _ | exact ⟨_, rfl, .inl rfl⟩ | exact ⟨_, rfl, .inr (.inl rfl)⟩ | exact ⟨_, rfl, .inr (.inr rfl)⟩ | refine ⟨_, _, rfl, rfl, ?_⟩ | exact ⟨_, rfl, rfl⟩ | exact ⟨_, _, _, _, rfl, rfl, rfl⟩ | exact ⟨_, rfl⟩ | exact ⟨_, _, rfl⟩ | apply And.intro)))) (fun k hk => ?_)
    by_cases hlt : k < t.length
    · have hx : t[(k : Int).toNat]? = some t[k] := by simp [hlt]
      have hla := hag t[k] (List.getElem_mem hlt)
      have hll := (mgt.m t[k] (List.getElem_mem hlt)).1
      generalize t[k] = u at hx hla hll
      have hml : (u.map Mind.cells).length = u.length := by simp
      have hnb := mg.nb
      repeat' (first | (apply Wa; constructor) | refine Wb rfl ?_ | refine Wc rfl ?_ | refine Wd (by kernel_rfl) ?_ | refine We rfl ?_ | refine Wf rfl ?_ | refine Wg rfl (by omega) ?_ | refine Wh rfl (by omega) ?_ | refine Wi rfl rfl ?_ | ((first | apply dX rfl | apply Da rfl rfl | apply Db rfl rfl (by intro h; first | trivial | exact ⟨h, trivial⟩ | exact ⟨h, h, trivial⟩)); (focus ((try intro hg); first | exact S_ixM rfl rfl (by omega) hx | exact Ca rfl rfl (by constructor) (by omega) | exact Cb rfl rfl (by constructor) (by omega) | exact S_al rfl | exact S_bx rfl rfl | exact S_store rfl rfl rfl rfl rfl rfl | (apply Pu.ok; repeat' (first | rfl | exact .inK (by simp only [InK]; omega) | exact .wr | constructor | decide | omega)))); constructor) | refine Pa rfl rfl rfl rfl rfl ?_ | refine Po rfl rfl rfl rfl rfl ?_ | fail)
      refine DW_loop (fun j : Nat => ⟨[(32, .dat true (.slice (t.map mindsRow))), (33, .dat true (.int .i64 (t.map mindsRow).length)), (34, .dat true (.int .i64 k)), (38, .dat true (.slice (u.map Mind.cells))), (39, .dat true (.int .i64 (u.map Mind.cells).length)), (40, .dat true (.int .i64 j))], [], 76⟩)
        (fun j => j ≤ u.length) (fun j => u.length - j) 0 (Nat.zero_le _) (Wk_g some rfl rfl (by (repeat' (first | exact trivial | rfl | exact listLe_map _ | exact ⟨_, rfl, .inl rfl⟩ | exact ⟨_, rfl, .inr (.inl rfl)⟩ | exact ⟨_, rfl, .inr (.inr rfl)⟩ | refine ⟨_, _, rfl, rfl, ?_⟩ | exact ⟨_, rfl, rfl⟩ | exact ⟨_, _, _, _, rfl, rfl, rfl⟩ | exact ⟨_, rfl⟩ | exact ⟨_, _, rfl⟩ | apply And.intro)))) (fun j hj => ?_)
      by_cases hlj : j < u.length
      · have hy : u[(j : Int).toNat]? = some u[j] := by simp [hlj]
        obtain ⟨a1, a2, a3, a4⟩ := hla u[j] (List.getElem_mem hlj)
        generalize u[j] = x at hy a1 a2 a3 a4
        by_cases hc : x.rootPort < 0
        · have b1 := a3.2 hc
          have b2 := a4.2 hc
          repeat' (first | (apply Wa; constructor) | refine Wb rfl ?_ | refine Wc rfl ?_ | refine Wd (by kernel_rfl) ?_ | refine We rfl ?_ | refine Wf rfl ?_ | refine Wg rfl (by omega) ?_ | refine Wh rfl (by omega) ?_ | refine Wi rfl rfl ?_ | ((first | apply dX rfl | apply Da rfl rfl | apply Db rfl rfl (by intro h; first | trivial | exact ⟨h, trivial⟩ | exact ⟨h, h, trivial⟩)); (focus ((try intro hg); first | exact S_ixM rfl rfl (by omega) hy | exact Ca rfl rfl (by constructor) (by omega) | exact Cb rfl rfl (by constructor) (by omega) | exact S_al rfl | exact S_bx rfl rfl | exact S_store rfl rfl rfl rfl rfl rfl | (apply Pu.ok; repeat' (first | rfl | exact .inK (by simp only [InK]; omega) | exact .wr | constructor | decide | omega)))); constructor) | refine Pa rfl rfl rfl rfl rfl ?_ | refine Po rfl rfl rfl rfl rfl ?_ | fail)
          exact loop_again (j + 1) hlj (by omega) (Wk_g some rfl rfl (by (repeat' (first | exact trivial | rfl | exact listLe_map _ | exact ⟨_, rfl, .inl rfl⟩ | exact ⟨_, rfl, .inr (.inl rfl)⟩ | exact ⟨_, rfl, .inr (.inr rfl)⟩ | refine ⟨_, _, rfl, rfl, ?_⟩ | exact ⟨_, rfl, rfl⟩ | exact ⟨_, _, _, _, rfl, rfl, rfl⟩ | exact ⟨_, rfl⟩ | exact ⟨_, _, rfl⟩ | apply And.intro))))
        · have b1 : ¬ x.age = 0 := fun e => hc (a3.1 e)
          have b2 : ¬ x.vec.root = x.vec.bridge := fun e => hc (a4.1 e)
          repeat' (first | (apply Wa; constructor) | refine Wb rfl ?_ | refine Wc rfl ?_ | refine Wd (by kernel_rfl) ?_ | refine We rfl ?_ | refine Wf rfl ?_ | refine Wg rfl (by omega) ?_ | refine Wh rfl (by omega) ?_ | refine Wi rfl rfl ?_ | ((first | apply dX rfl | apply Da rfl rfl | apply Db rfl rfl (by intro h; first | trivial | exact ⟨h, trivial⟩ | exact ⟨h, h, trivial⟩)); (focus ((try intro hg); first | exact S_ixM rfl rfl (by omega) hy | exact Ca rfl rfl (by constructor) (by omega) | exact Cb rfl rfl (by constructor) (by omega) | exact S_al rfl | exact S_bx rfl rfl | exact S_store rfl rfl rfl rfl rfl rfl | (apply Pu.ok; repeat' (first | rfl | exact .inK (by simp only [InK]; omega) | exact .wr | constructor | decide | omega)))); constructor) | refine Pa rfl rfl rfl rfl rfl ?_ | refine Po rfl rfl rfl rfl rfl ?_ | fail)
          exact loop_again (j + 1) hlj (by omega) (Wk_g some rfl rfl (by (repeat' (first | exact trivial | rfl | exact listLe_map _ | exact ⟨_, rfl, .inl rfl⟩ | exact ⟨_, rfl, .inr (.inl rfl)⟩ | exact ⟨_, rfl, .inr (.inr rfl)⟩ | refine ⟨_, _, rfl, rfl, ?_⟩ | exact ⟨_, rfl, rfl⟩ | exact ⟨_, _, _, _, rfl, rfl, rfl⟩ | exact ⟨_, rfl⟩ | exact ⟨_, _, rfl⟩ | apply And.intro))))
      · repeat' (first | (apply Wa; constructor) | refine Wb rfl ?_ | refine Wc rfl ?_ | refine Wd (by kernel_rfl) ?_ | refine We rfl ?_ | refine Wf rfl ?_ | refine Wg rfl (by omega) ?_ | refine Wh rfl (by omega) ?_ | refine Wi rfl rfl ?_ | ((first | apply dX rfl | apply Da rfl rfl | apply Db rfl rfl (by intro h; first | trivial | exact ⟨h, trivial⟩ | exact ⟨h, h, trivial⟩)); (focus ((try intro hg); first | exact Ca rfl rfl (by constructor) (by omega) | exact Cb rfl rfl (by constructor) (by omega) | exact S_al rfl | exact S_bx rfl rfl | exact S_store rfl rfl rfl rfl rfl rfl | (apply Pu.ok; repeat' (first | rfl | exact .inK (by simp only [InK]; omega) | exact .wr | constructor | decide | omega)))); constructor) | refine Pa rfl rfl rfl rfl rfl ?_ | refine Po rfl rfl rfl rfl rfl ?_ | fail)
        exact loop_again (k + 1) hlt (by omega) (Wk_g some rfl rfl (by (repeat' (first | exact trivial | rfl | exact listLe_map _ | exact ⟨_, rfl, .inl rfl⟩ | exact ⟨_, rfl, .inr (.inl rfl)⟩ | exact ⟨_, rfl, .inr (.inr rfl)⟩ | refine ⟨_, _, rfl, rfl, ?_⟩ | exact ⟨_, rfl, rfl⟩ | exact ⟨_, _, _, _, rfl, rfl, rfl⟩ | exact ⟨_, rfl⟩ | exact ⟨_, _, rfl⟩ | apply And.intro))))
    · repeat' (first | (apply Wa; constructor) | refine Wb rfl ?_ | refine Wc rfl ?_ | refine Wd (by kernel_rfl) ?_ | refine We rfl ?_ | refine Wf rfl ?_ | refine Wg rfl (by omega) ?_ | refine Wh rfl (by omega) ?_ | refine Wi rfl rfl ?_ | ((first | apply dX rfl | apply Da rfl rfl | apply Db rfl rfl (by intro h; first | trivial | exact ⟨h, trivial⟩ | exact ⟨h, h, trivial⟩)); (focus ((try intro hg); first | exact Ca rfl rfl (by constructor) (by omega) | exact Cb rfl rfl (by constructor) (by omega) | exact S_al rfl | exact S_bx rfl rfl | exact S_store rfl rfl rfl rfl rfl rfl | (apply Pu.ok; repeat' (first | rfl | exact .inK (by simp only [InK]; omega) | exact .wr | constructor | decide | omega)))); constructor) | refine Pa rfl rfl rfl rfl rfl ?_ | refine Po rfl rfl rfl rfl rfl ?_ | fail)
      refine ret1 rfl (by first | exact .inl rfl | exact .inr (flat_of rfl)) ?_
      rfl
end Go.Proofs.Ytpgcemabkjmliaa
