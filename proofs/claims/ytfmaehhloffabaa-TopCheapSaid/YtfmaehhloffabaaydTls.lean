/- Contract: talk.Start. -/
import Derived.Test.YtfmaehhloffabaaycMd5
import Derived.Test.YtfmaehhloffabaaycTlo
import Derived.Test.YtfmaehhloffabaaydTlk
namespace Go.Proofs.Ytfmaehhloffabaa
open Go.RowKit
attribute [local irreducible] SStep DW DWin DOps thenQ inBlk loopQ retQ retQG FnF FnG FnI Wk IntKind.wrap IntKind.andI IntKind.orI IntKind.xorI IntKind.andNotI IntKind.shlI IntKind.shrI Net.wrong portsOf idN
set_option maxHeartbeats 4000000 in
theorem talk_Start (n : Net) (ht : n.typed) (trees : Int) : FnF Try.prog 14 [n.v, .int .i64 trees] (.tuple [talkV (startA n trees).1, faultV (startA n trees).2]) := by
  refine fnF_of Try.func14 rfl rfl rfl ?_
  simp only [envOf]
  have hwr := plan_Wrong n ht.wy
  unfold startA
  by_cases h0n : n.wrong.1 ≠ 0
  · have h0m : ¬ n.wrong.1 = 0 := h0n
    rw [if_pos h0n]
    clear h0n
    generalize n.wrong = f at hwr h0m ⊢
    obtain ⟨e, i⟩ := f
    have h0' : e ≠ 0 := h0m
    repeat' (first | (apply Wa; constructor) | refine Wb rfl ?_ | refine Wc rfl ?_ | refine Wd (by kernel_rfl) ?_ | refine We rfl ?_ | refine Wf rfl ?_ | refine Wg rfl (by omega) ?_ | refine Wh rfl (by omega) ?_ | refine Wi rfl rfl ?_ | ((first | apply dX rfl | apply Da rfl rfl | apply Db rfl rfl (by intro h; first | trivial | exact ⟨h, trivial⟩ | exact ⟨h, h, trivial⟩)); (focus ((try intro hg); first | exact S_call hwr rfl | exact Ca rfl rfl (by constructor) (by omega) | exact Cb rfl rfl (by constructor) (by omega) | exact S_al rfl | exact S_bx rfl rfl | exact S_store rfl rfl rfl rfl rfl rfl | (apply Pu.ok; repeat' (first | rfl | exact .inK (by simp only [InK]; omega) | exact .wr | constructor | decide | omega)))); constructor) | refine Pa rfl rfl rfl rfl rfl ?_ | refine Po rfl rfl rfl rfl rfl ?_ | fail)
    refine retN (.cellA inferInstance rfl rfl rfl rfl (by first | exact .inl rfl | exact .inr (flat_of rfl)) (.cellA inferInstance rfl rfl rfl rfl (by first | exact .inl rfl | exact .inr (flat_of rfl)) .nil)) ?_
    rfl
  have h0 : n.wrong.1 = 0 := Decidable.not_not.1 h0n
  have h := ((Net.wrong_iff ht).1 h0).1
  rw [if_neg h0n]
  have hwz := Net.wrong_zero h0
  rw [hwz] at hwr
  by_cases h1 : trees < 1 ∨ 4 < trees
  · rw [if_pos h1]
    by_cases h2 : trees < 1
    · repeat' (first | (apply Wa; constructor) | refine Wb rfl ?_ | refine Wc rfl ?_ | refine Wd (by kernel_rfl) ?_ | refine We rfl ?_ | refine Wf rfl ?_ | refine Wg rfl (by omega) ?_ | refine Wh rfl (by omega) ?_ | refine Wi rfl rfl ?_ | ((first | apply dX rfl | apply Da rfl rfl | apply Db rfl rfl (by intro h; first | trivial | exact ⟨h, trivial⟩ | exact ⟨h, h, trivial⟩)); (focus ((try intro hg); first | exact S_call hwr rfl | exact Ca rfl rfl (by constructor) (by omega) | exact Cb rfl rfl (by constructor) (by omega) | exact S_al rfl | exact S_bx rfl rfl | exact S_store rfl rfl rfl rfl rfl rfl | (apply Pu.ok; repeat' (first | rfl | exact .inK (by simp only [InK]; omega) | exact .wr | constructor | decide | omega)))); constructor) | refine Pa rfl rfl rfl rfl rfl ?_ | refine Po rfl rfl rfl rfl rfl ?_ | fail)
      refine retN (.cellA inferInstance rfl rfl rfl rfl (by first | exact .inl rfl | exact .inr (flat_of rfl)) (.cellA inferInstance rfl rfl rfl rfl (by first | exact .inl rfl | exact .inr (flat_of rfl)) .nil)) ?_
      rfl
    · repeat' (first | (apply Wa; constructor) | refine Wb rfl ?_ | refine Wc rfl ?_ | refine Wd (by kernel_rfl) ?_ | refine We rfl ?_ | refine Wf rfl ?_ | refine Wg rfl (by omega) ?_ | refine Wh rfl (by omega) ?_ | refine Wi rfl rfl ?_ | ((first | apply dX rfl | apply Da rfl rfl | apply Db rfl rfl (by intro h; first | trivial | exact ⟨h, trivial⟩ | exact ⟨h, h, trivial⟩)); (focus ((try intro hg); first | exact S_call hwr rfl | exact Ca rfl rfl (by constructor) (by omega) | exact Cb rfl rfl (by constructor) (by omega) | exact S_al rfl | exact S_bx rfl rfl | exact S_store rfl rfl rfl rfl rfl rfl | (apply Pu.ok; repeat' (first | rfl | exact .inK (by simp only [InK]; omega) | exact .wr | constructor | decide | omega)))); constructor) | refine Pa rfl rfl rfl rfl rfl ?_ | refine Po rfl rfl rfl rfl rfl ?_ | fail)
      refine retN (.cellA inferInstance rfl rfl rfl rfl (by first | exact .inl rfl | exact .inr (flat_of rfl)) (.cellA inferInstance rfl rfl rfl rfl (by first | exact .inl rfl | exact .inr (flat_of rfl)) .nil)) ?_
      rfl
  rw [if_neg h1]
  obtain ⟨T, rfl⟩ : ∃ T : Nat, trees = (T : Int) := ⟨trees.toNat, by omega⟩
  rw [Int.toNat_natCast]
  have hmb : (n.bridges.map bridgeV).length = n.bridges.length := by simp
  have hnb := h.nb
  have hnl := h.nl
  repeat' (first | (apply Wa; constructor) | refine Wb rfl ?_ | refine Wc rfl ?_ | refine Wd (by kernel_rfl) ?_ | refine We rfl ?_ | refine Wf rfl ?_ | refine Wg rfl (by omega) ?_ | refine Wh rfl (by omega) ?_ | refine Wi rfl rfl ?_ | ((first | apply dX rfl | apply Da rfl rfl | apply Db rfl rfl (by intro h; first | trivial | exact ⟨h, trivial⟩ | exact ⟨h, h, trivial⟩)); (focus ((try intro hg); first | exact S_call hwr rfl | exact Ca rfl rfl (by constructor) (by omega) | exact Cb rfl rfl (by constructor) (by omega) | exact S_al rfl | exact S_bx rfl rfl | exact S_store rfl rfl rfl rfl rfl rfl | (apply Pu.ok; repeat' (first | rfl | exact .inK (by simp only [InK]; omega) | exact .wr | constructor | decide | omega)))); constructor) | refine Pa rfl rfl rfl rfl rfl ?_ | refine Po rfl rfl rfl rfl rfl ?_ | fail)
  refine DW_loop (fun q : Nat × List (List Mind) => ⟨[(1, .dat false (.int .i64 T)), (2, .ptr 2 0), (4, .ptr 4 0), (5, .ptr 5 0), (7, .ptr 7 0), (29, .dat false (.int .i64 T)), (30, .dat true (.int .i64 q.1))], [(2, .cells false true (n.cells.map (.dat false))), (4, .cells false true [.nil]), (5, .cells false true [.dat true (.int .i64 0), .dat true (.int .i64 0)]), (7, .cells false true [.own 900 q.2.length 0 q.2.length]), (900, .row q.2.length false true 1 (q.2.map mindsRow))], 70⟩)
    (fun q => q.1 ≤ T ∧ q.2 = (start0 n T).take q.1) (fun q => T - q.1) (0, []) ⟨Nat.zero_le _, rfl⟩
    (Wk_g (fun g => if g = 900 then none else some g) rfl rfl (by (repeat' (first | exact trivial | rfl | exact listLe_map _ | exact ⟨_, rfl, .inl rfl⟩ | exact ⟨_, rfl, .inr (.inl rfl)⟩ | exact ⟨_, rfl, .inr (.inr rfl)⟩ | refine ⟨_, _, rfl, rfl, ?_⟩ | exact ⟨_, rfl, rfl⟩ | exact ⟨_, _, _, _, rfl, rfl, rfl⟩ | exact ⟨_, rfl⟩ | exact ⟨_, _, rfl⟩ | apply And.intro)))) (fun q hR => ?_)
  obtain ⟨k, us⟩ := q
  obtain ⟨hk, hus⟩ := hR
  simp only at hk hus
  dsimp only
  have hsl : (start0 n T).length = T := by simp [start0]
  have hul : us.length = k := by rw [hus, List.length_take]; omega
  by_cases hlt : k < T
  · have hst : (start0 n T).take (k + 1) = us ++ [(List.range n.bridges.length).map (mind0 n k)] := by
      have : (start0 n T)[k]? = some ((List.range n.bridges.length).map (mind0 n k)) := by simp [start0, hlt]
      rw [List.take_add_one, this, hus]; rfl
    repeat' (first | (apply Wa; constructor) | refine Wb rfl ?_ | refine Wc rfl ?_ | refine Wd (by kernel_rfl) ?_ | refine We rfl ?_ | refine Wf rfl ?_ | refine Wg rfl (by omega) ?_ | refine Wh rfl (by omega) ?_ | refine Wi rfl rfl ?_ | ((first | apply dX rfl | apply Da rfl rfl | apply Db rfl rfl (by intro h; first | trivial | exact ⟨h, trivial⟩ | exact ⟨h, h, trivial⟩)); (focus ((try intro hg); first | exact Ca rfl rfl (by constructor) (by omega) | exact Cb rfl rfl (by constructor) (by omega) | exact S_al rfl | exact S_bx rfl rfl | exact S_store rfl rfl rfl rfl rfl rfl | (apply Pu.ok; repeat' (first | rfl | exact .inK (by simp only [InK]; omega) | exact .wr | constructor | decide | omega)))); constructor) | refine Pa rfl rfl rfl rfl rfl ?_ | refine Po rfl rfl rfl rfl rfl ?_ | fail)
    refine DW_loop (fun q : Nat × List Mind => ⟨[(1, .dat false (.int .i64 T)), (2, .ptr 2 0), (4, .ptr 4 0), (5, .ptr 5 0), (7, .ptr 7 0), (29, .dat false (.int .i64 T)), (30, .dat true (.int .i64 k)), (8, .dat true (.int .i64 k)), (9, .own 901 0 0 q.2.length), (34, .dat false (.slice (n.bridges.map bridgeV))), (35, .dat true (.int .i64 (n.bridges.map bridgeV).length)), (36, .dat true (.int .i64 q.1))],
        [(2, .cells false true (n.cells.map (.dat false))), (4, .cells false true [.nil]), (5, .cells false true [.dat true (.int .i64 0), .dat true (.int .i64 0)]), (7, .cells false true [.own 900 us.length 0 us.length]), (900, .row us.length false true 1 (us.map mindsRow)), (901, .row 0 false true 9 (q.2.map Mind.cells))], 70⟩)
      (fun q => q.1 ≤ n.bridges.length ∧ q.2 = (List.range q.1).map (mind0 n k)) (fun q => n.bridges.length - q.1) (0, []) ⟨Nat.zero_le _, rfl⟩
      (Wk_g (fun g => if g = 901 then none else some g) rfl rfl (by (repeat' (first | exact ownLe2 rfl rfl rfl | exact trivial | rfl | exact listLe_map _ | exact ⟨_, rfl, .inl rfl⟩ | exact ⟨_, rfl, .inr (.inl rfl)⟩ | exact ⟨_, rfl, .inr (.inr rfl)⟩ | refine ⟨_, _, rfl, rfl, ?_⟩ | exact ⟨_, rfl, rfl⟩ | exact ⟨_, _, _, _, rfl, rfl, rfl⟩ | exact ⟨_, rfl⟩ | exact ⟨_, _, rfl⟩ | apply And.intro)))) (fun q hR => ?_)
    obtain ⟨j, vs⟩ := q
    obtain ⟨hj, hvs⟩ := hR
    simp only at hj hvs
    dsimp only
    have hvl : vs.length = j := by rw [hvs]; simp
    by_cases hlj : j < n.bridges.length
    · have hx : n.bridges[(j : Int).toNat]? = some n.bridges[j] := by simp [hlj]
      have hx' : n.bridges[j]? = some n.bridges[j] := by simp [hlj]
      have hbo := h.br n.bridges[j] (List.getElem_mem hlj)
      have hidn := idN_of (tree := (k : Int)) hx'
      have hid := plan_Ident n.bridges[j] hbo k
      rw [← hidn] at hid
      generalize n.bridges[j] = b at hx hid
      have hpo := plan_Ports n hnl j
      have hst2 : (List.range (j + 1)).map (mind0 n k) = vs ++ [mind0 n k j] := by rw [List.range_succ, List.map_append, hvs]; rfl
      have hm0 : mind0 n k j = ⟨⟨idN n k j, 0, idN n k j, 0⟩, 0, -1, portsOf n.links j, List.replicate (portsOf n.links j).length 0, List.replicate (portsOf n.links j).length 0⟩ := by
        unfold mind0
        rw [List.map_const']
      have hpl : (portsOf n.links j).length ≤ 80 := by
        have := rawP_len n.links j
        rw [portsOf_eq]; unfold sortI; rw [List.length_mergeSort]; omega
      rw [hm0] at hst2
      generalize portsOf n.links j = ps at hpo hst2 hpl
      generalize idN n k j = me at hid hst2
      have hmp : (ps.map intV1).length = ps.length := by simp
      repeat' (first | (apply Wa; constructor) | refine Wb rfl ?_ | refine Wc rfl ?_ | refine Wd (by kernel_rfl) ?_ | refine We rfl ?_ | refine Wf rfl ?_ | refine Wg rfl (by omega) ?_ | refine Wh rfl (by omega) ?_ | refine Wi rfl rfl ?_ | ((first | apply dX rfl | apply Da rfl rfl | apply Db rfl rfl (by intro h; first | trivial | exact ⟨h, trivial⟩ | exact ⟨h, h, trivial⟩)); (focus ((try intro hg); first | exact S_ixM rfl rfl (by omega) hx | exact S_call hid rfl | exact S_call hpo rfl | exact S_mkD (f := intV1) (l := ps.length) (c := ps.length) (0 : Int) rfl rfl (by rw [hmp]) (by rw [hmp]) (Nat.le_refl _) (by omega) rfl | exact S_appM (f := Mind.cells) (us := vs) (bs := [⟨⟨me, 0, me, 0⟩, 0, -1, ps, List.replicate ps.length 0, List.replicate ps.length 0⟩]) rfl rfl (.dat _ _) rfl rfl (.inl rfl) rfl (by simp only [List.length_singleton]; omega) | exact Ca rfl rfl (by constructor) (by omega) | exact Cb rfl rfl (by constructor) (by omega) | exact S_al rfl | exact S_bx rfl rfl | exact S_store rfl rfl rfl rfl rfl rfl | (apply Pu.ok; repeat' (first | rfl | exact .inK (by simp only [InK]; omega) | exact .wr | constructor | decide | omega)))); constructor) | refine Pa rfl rfl rfl rfl rfl ?_ | refine Po rfl rfl rfl rfl rfl ?_ | fail)
      exact loop_again (j + 1, vs ++ [⟨⟨me, 0, me, 0⟩, 0, -1, ps, List.replicate ps.length 0, List.replicate ps.length 0⟩]) ⟨hlj, hst2.symm⟩ (by simp only; omega) (Wk_g some rfl rfl (by (repeat' (first | exact ownLe2 rfl rfl rfl | exact trivial | rfl | exact listLe_map _ | exact ⟨_, rfl, .inl rfl⟩ | exact ⟨_, rfl, .inr (.inl rfl)⟩ | exact ⟨_, rfl, .inr (.inr rfl)⟩ | refine ⟨_, _, rfl, rfl, ?_⟩ | exact ⟨_, rfl, rfl⟩ | exact ⟨_, _, _, _, rfl, rfl, rfl⟩ | exact ⟨_, rfl⟩ | exact ⟨_, _, rfl⟩ | apply And.intro))))
    · have he : vs = (List.range n.bridges.length).map (mind0 n k) := by rw [hvs, show j = n.bridges.length by omega]
      refine DW_seal 9 rfl rfl (by simp) ?_
      repeat' (first | (apply Wa; constructor) | refine Wb rfl ?_ | refine Wc rfl ?_ | refine Wd (by kernel_rfl) ?_ | refine We rfl ?_ | refine Wf rfl ?_ | refine Wg rfl (by omega) ?_ | refine Wh rfl (by omega) ?_ | refine Wi rfl rfl ?_ | ((first | apply dX rfl | apply Da rfl rfl | apply Db rfl rfl (by intro h; first | trivial | exact ⟨h, trivial⟩ | exact ⟨h, h, trivial⟩)); (focus ((try intro hg); first | exact S_appM (f := mindsRow) (us := us) (bs := [vs]) rfl rfl (.dat _ _) rfl rfl (.inl rfl) rfl (by simp only [List.length_singleton]; omega) | exact Ca rfl rfl (by constructor) (by omega) | exact Cb rfl rfl (by constructor) (by omega) | exact S_al rfl | exact S_bx rfl rfl | exact S_store rfl rfl rfl rfl rfl rfl | (apply Pu.ok; repeat' (first | rfl | exact .inK (by simp only [InK]; omega) | exact .wr | constructor | decide | omega)))); constructor) | refine Pa rfl rfl rfl rfl rfl ?_ | refine Po rfl rfl rfl rfl rfl ?_ | fail)
      exact loop_again (k + 1, us ++ [vs]) ⟨hlt, by rw [hst, he]⟩ (by simp only; omega) (Wk_g some rfl rfl (by (repeat' (first | exact ownLe2 rfl rfl rfl | exact trivial | rfl | exact listLe_map _ | exact ⟨_, rfl, .inl rfl⟩ | exact ⟨_, rfl, .inr (.inl rfl)⟩ | exact ⟨_, rfl, .inr (.inr rfl)⟩ | refine ⟨_, _, rfl, rfl, ?_⟩ | exact ⟨_, rfl, rfl⟩ | exact ⟨_, _, _, _, rfl, rfl, rfl⟩ | exact ⟨_, rfl⟩ | exact ⟨_, _, rfl⟩ | apply And.intro))))
  · have he : us = start0 n T := by rw [hus, List.take_of_length_le (by omega)]
    refine DW_weak (s' := ⟨[(4, .ptr 4 0), (5, .ptr 5 0), (7, .ptr 7 0), (29, .dat false (.int .i64 T)), (30, .dat true (.int .i64 k))], [(2, .cells false true (n.cells.map (.dat false))), (4, .cells false true [.nil]), (5, .cells false true [.dat true (.int .i64 0), .dat true (.int .i64 0)]), (7, .cells false true [.own 900 0 0 us.length]), (900, .row 0 false true 1 (us.map mindsRow))], 70⟩) (Wk_g some rfl rfl (by (repeat' (first | exact ownLe2 rfl rfl rfl | exact trivial | rfl | exact listLe_map _ | exact ⟨_, rfl, .inl rfl⟩ | exact ⟨_, rfl, .inr (.inl rfl)⟩ | exact ⟨_, rfl, .inr (.inr rfl)⟩ | refine ⟨_, _, rfl, rfl, ?_⟩ | exact ⟨_, rfl, rfl⟩ | exact ⟨_, _, _, _, rfl, rfl, rfl⟩ | exact ⟨_, rfl⟩ | exact ⟨_, _, rfl⟩ | apply And.intro)))) ?_
    refine DW_freeze 900 (fun _ _ _ h => by cases h) ?_
    repeat' (first | (apply Wa; constructor) | refine Wb rfl ?_ | refine Wc rfl ?_ | refine Wd (by kernel_rfl) ?_ | refine We rfl ?_ | refine Wf rfl ?_ | refine Wg rfl (by omega) ?_ | refine Wh rfl (by omega) ?_ | refine Wi rfl rfl ?_ | ((first | apply dX rfl | apply Da rfl rfl | apply Db rfl rfl (by intro h; first | trivial | exact ⟨h, trivial⟩ | exact ⟨h, h, trivial⟩)); (focus ((try intro hg); first | exact Ca rfl rfl (by constructor) (by omega) | exact Cb rfl rfl (by constructor) (by omega) | exact S_al rfl | exact S_bx rfl rfl | exact S_store rfl rfl rfl rfl rfl rfl | (apply Pu.ok; repeat' (first | rfl | exact .inK (by simp only [InK]; omega) | exact .wr | constructor | decide | omega)))); constructor) | refine Pa rfl rfl rfl rfl rfl ?_ | refine Po rfl rfl rfl rfl rfl ?_ | fail)
    refine retN (.cellA inferInstance rfl rfl rfl rfl (by first | exact .inl rfl | exact .inr (flat_of rfl)) (.cellA inferInstance rfl rfl rfl rfl (by first | exact .inl rfl | exact .inr (flat_of rfl)) .nil)) ?_
    rw [he]
    show V.tuple [V.agg [V.slice (List.take _ (List.drop 0 _))], _] = _
    rw [List.drop_zero, List.take_of_length_le (by simp)]
    rfl
end Go.Proofs.Ytfmaehhloffabaa
