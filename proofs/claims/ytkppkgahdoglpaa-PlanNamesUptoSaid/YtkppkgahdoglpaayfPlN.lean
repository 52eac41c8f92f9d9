/- Law: PlanNames. -/
import Derived.Test.YtkppkgahdoglpaaydPlQ
namespace Go.Proofs.Ytkppkgahdoglpaa
open Go.RowKit
theorem rev_typed {n : Net} (h : n.typed) : (revN n).typed := ⟨fun b hb => h.ad b (List.mem_reverse.1 hb), fun b hb => h.wy b (List.mem_reverse.1 hb)⟩
theorem rev_wrong {n : Net} (ht : n.typed) (hI : ∀ l ∈ n.links, I64L l) (hk : n.bridges.length ≤ 4611686018427387904) : (revN n).wrong.1 = 0 ↔ n.wrong.1 = 0 := by
  rw [Net.wrong_iff ht, Net.wrong_iff (rev_typed ht), rev_good hI hk]
  constructor
  · rintro ⟨h1, h2⟩; exact ⟨h1, fun b hb => h2 b (List.mem_reverse.2 hb)⟩
  · rintro ⟨h1, h2⟩; exact ⟨h1, fun b hb => h2 b (List.mem_reverse.1 hb)⟩
theorem rev_take {α : Type} {l : List α} {k : Nat} {a : α} (h : l[l.length - 1 - k]? = some a) (hk : k < l.length) : l.reverse.take (k + 1) = l.reverse.take k ++ [a] := by
  rw [List.take_add_one, List.getElem?_reverse hk, h]; rfl
theorem one_at {α : Type} {l : List α} {k : Nat} {a : α} (h : l[k]? = some a) : (l.drop k).take (k + 1 - k) = [a] := by
  rw [show k + 1 - k = 1 by omega, List.take_one, List.head?_drop, h]; rfl
attribute [local irreducible] SStep DW DWin DOps thenQ inBlk loopQ retQ retQG FnF FnG FnI Wk IntKind.wrap IntKind.andI IntKind.orI IntKind.xorI IntKind.andNotI IntKind.shlI IntKind.shrI Net.wrong Bridge.id Bridge.prio identR idsR liveB planA planF liveL
set_option maxHeartbeats 8000000 in
theorem law_PlanNames (n : Net) (ht : n.typed) (hI : ∀ l ∈ n.links, I64L l) (hlb : n.bridges.length ≤ 1048576) (hll : n.links.length ≤ 1048576) (tree : Int) : FnF Try.prog 8 [n.v, .int .i64 tree] (.bool true) := by
  refine fnF_of Try.func8 rfl rfl rfl ?_
  simp only [envOf]
  have hmb : (n.bridges.map bridgeV).length = n.bridges.length := by simp
  have hml : (n.links.map linkV).length = n.links.length := by simp
  repeat' (first
    | (apply Stp.go; case a => constructor)
    | refine blk_hit rfl ?_ | refine blk_miss rfl ?_ | refine dnilD (by kernel_rfl) ?_ | refine DW_cond_t rfl ?_ | refine DW_cond_f rfl ?_
    | refine dpOff rfl rfl ?_
    | ((first | apply dX rfl | apply dXon rfl rfl | apply dpMay rfl rfl (by intro h; first | trivial | exact ⟨h, trivial⟩ | exact ⟨h, h, trivial⟩ | exact ⟨h, h, h, trivial⟩)); (case h => ((try intro hg); first | exact S_call law6_alive rfl | exact S_al rfl | exact S_bx rfl rfl | exact S_store rfl rfl rfl rfl rfl rfl | (apply Pu.ok; repeat' (first | rfl | exact .inK (by simp only [InK]; omega) | exact .inK (by simp only [InK]; simp at hg; omega) | exact .wr | constructor | decide | omega)))); (try case hp => constructor))
    | refine dpickAnd rfl rfl rfl rfl rfl ?_ | refine dpickOr rfl rfl rfl rfl rfl ?_
    | fail)
  refine DW_loop (fun q : Nat × List Bridge => ⟨[(1, .dat false (.int .i64 tree)), (2, .ptr 2 0), (5, .dat true (.int .i64 (n.bridges.map bridgeV).length)), (6, .ptr 6 0), (7, .dat true (.int .i64 (((n.bridges.map bridgeV).length : Int) - 1 - q.1)))],
      [(2, .cells false true (n.cells.map (.dat false))), (6, .cells false true [.own 26 0 0 q.2.length, .nil]), (26, .row 0 false false 5 (q.2.map bridgeV))], 121⟩)
    (fun q => q.1 ≤ n.bridges.length ∧ q.2 = n.bridges.reverse.take q.1) (fun q => n.bridges.length - q.1) (0, []) ⟨Nat.zero_le _, rfl⟩
    (by
      have : ((n.bridges.map bridgeV).length : Int) - 1 - ((0 : Nat) : Int) = ((n.bridges.map bridgeV).length : Int) - 1 := by omega
      simp only [this]
      exact Wk_g (fun g => if g = 26 then none else some g) rfl rfl (by (repeat' (first | exact trivial | rfl | exact listLe_map _ | exact ⟨_, rfl, .inl rfl⟩ | exact ⟨_, rfl, .inr (.inl rfl)⟩ | exact ⟨_, rfl, .inr (.inr rfl)⟩ | refine ⟨_, _, rfl, rfl, ?_⟩ | exact ⟨_, rfl, rfl⟩ | exact ⟨_, _, _, _, rfl, rfl, rfl⟩ | exact ⟨_, rfl⟩ | exact ⟨_, _, rfl⟩ | apply And.intro)))) (fun q hq => ?_)
  obtain ⟨c, us⟩ := q
  obtain ⟨hc, hus⟩ := hq
  simp only at hc hus
  dsimp only
  by_cases hlt : c < n.bridges.length
  · have hxi : n.bridges.length - 1 - c < n.bridges.length := by omega
    have hx0 : n.bridges[n.bridges.length - 1 - c]? = some n.bridges[n.bridges.length - 1 - c] := by simp [hxi]
    generalize n.bridges[n.bridges.length - 1 - c] = x at hx0
    have hx : n.bridges[(((n.bridges.map bridgeV).length : Int) - 1 - c).toNat]? = some x := by
      rw [← hx0]; congr 1; omega
    have hnext : us ++ [x] = n.bridges.reverse.take (c + 1) := by rw [hus]; exact (rev_take hx0 hlt).symm
    have hlu : us.length = c := by rw [hus, List.length_take, List.length_reverse]; omega
    repeat' (first
    | (apply Stp.go; case a => constructor)
    | refine blk_hit rfl ?_ | refine blk_miss rfl ?_ | refine dnilD (by kernel_rfl) ?_ | refine DW_cond_t rfl ?_ | refine DW_cond_f rfl ?_
    | refine DW_tD rfl (by omega) ?_ | refine DW_fD rfl (by omega) ?_
    | refine dpOff rfl rfl ?_
    | ((first | apply dX rfl | apply dXon rfl rfl | apply dpMay rfl rfl (by intro h; first | trivial | exact ⟨h, trivial⟩ | exact ⟨h, h, trivial⟩ | exact ⟨h, h, h, trivial⟩)); (case h => ((try intro hg); first | exact S_ixM rfl rfl (by omega) hx | exact S_appM (f := bridgeV) (us := us) (bs := [x]) rfl rfl (.dat _ _) rfl rfl (.inl rfl) rfl (by simp; omega) | exact S_al rfl | exact S_bx rfl rfl | exact S_store rfl rfl rfl rfl rfl rfl | (apply Pu.ok; repeat' (first | rfl | exact .inK (by simp only [InK]; omega) | exact .inK (by simp only [InK]; simp at hg; omega) | exact .wr | constructor | decide | omega)))); (try case hp => constructor))
    | refine dpickAnd rfl rfl rfl rfl rfl ?_ | refine dpickOr rfl rfl rfl rfl rfl ?_
    | fail)
    refine loop_again (c + 1, us ++ [x]) ⟨hlt, hnext⟩ (by simp only; omega) ?_
    have e7 : ((n.bridges.map bridgeV).length : Int) - 1 - c - 1 = ((n.bridges.map bridgeV).length : Int) - 1 - ((c + 1 : Nat) : Int) := by omega
    simp only [e7]
    exact (Wk_g some rfl rfl (by (repeat' (first | exact trivial | rfl | exact listLe_map _ | exact ⟨_, rfl, .inl rfl⟩ | exact ⟨_, rfl, .inr (.inl rfl)⟩ | exact ⟨_, rfl, .inr (.inr rfl)⟩ | refine ⟨_, _, rfl, rfl, ?_⟩ | exact ⟨_, rfl, rfl⟩ | exact ⟨_, _, _, _, rfl, rfl, rfl⟩ | exact ⟨_, rfl⟩ | exact ⟨_, _, rfl⟩ | apply And.intro))))
  have hcl : c = n.bridges.length := by omega
  subst hcl
  have hus' : us = n.bridges.reverse := by rw [hus, List.take_of_length_le (by simp)]
  have hlu : us.length = n.bridges.length := by rw [hus', List.length_reverse]
  clear hus hlt hc
  repeat' (first
    | (apply Stp.go; case a => constructor)
    | refine blk_hit rfl ?_ | refine blk_miss rfl ?_ | refine dnilD (by kernel_rfl) ?_ | refine DW_cond_t rfl ?_ | refine DW_cond_f rfl ?_
    | refine DW_tD rfl (by omega) ?_ | refine DW_fD rfl (by omega) ?_
    | refine dpOff rfl rfl ?_
    | ((first | apply dX rfl | apply dXon rfl rfl | apply dpMay rfl rfl (by intro h; first | trivial | exact ⟨h, trivial⟩ | exact ⟨h, h, trivial⟩ | exact ⟨h, h, h, trivial⟩)); (case h => ((try intro hg); first | exact S_al rfl | exact S_bx rfl rfl | exact S_store rfl rfl rfl rfl rfl rfl | (apply Pu.ok; repeat' (first | rfl | exact .inK (by simp only [InK]; omega) | exact .inK (by simp only [InK]; simp at hg; omega) | exact .wr | constructor | decide | omega)))); (try case hp => constructor))
    | refine dpickAnd rfl rfl rfl rfl rfl ?_ | refine dpickOr rfl rfl rfl rfl rfl ?_
    | fail)
  refine DW_loop (fun q : Nat × List Link => ⟨[(1, .dat false (.int .i64 tree)), (2, .ptr 2 0), (5, .dat true (.int .i64 (n.bridges.map bridgeV).length)), (6, .ptr 6 0), (8, .dat true (.int .i64 (((n.links.map linkV).length : Int) - 1 - q.1)))],
      [(2, .cells false true (n.cells.map (.dat false))), (6, .cells false true [.own 26 0 0 us.length, .own 27 0 0 q.2.length]), (26, .row 0 false false 5 (us.map bridgeV)), (27, .row 0 false false 6 (q.2.map linkV))], 121⟩)
    (fun q => q.1 ≤ n.links.length ∧ q.2 = (n.links.map (flipL (n.bridges.map bridgeV).length)).reverse.take q.1) (fun q => n.links.length - q.1) (0, []) ⟨Nat.zero_le _, rfl⟩
    (by
      have : ((n.links.map linkV).length : Int) - 1 - ((0 : Nat) : Int) = ((n.links.map linkV).length : Int) - 1 := by omega
      simp only [this]
      exact Wk_g (fun g => if g = 27 then none else some g) rfl rfl (by (repeat' (first | exact trivial | rfl | exact listLe_map _ | exact ⟨_, rfl, .inl rfl⟩ | exact ⟨_, rfl, .inr (.inl rfl)⟩ | exact ⟨_, rfl, .inr (.inr rfl)⟩ | refine ⟨_, _, rfl, rfl, ?_⟩ | exact ⟨_, rfl, rfl⟩ | exact ⟨_, _, _, _, rfl, rfl, rfl⟩ | exact ⟨_, rfl⟩ | exact ⟨_, _, rfl⟩ | apply And.intro)))) (fun q hq => ?_)
  obtain ⟨c, vs⟩ := q
  obtain ⟨hc, hvs⟩ := hq
  simp only at hc hvs
  dsimp only
  by_cases hlt : c < n.links.length
  · have hxi : n.links.length - 1 - c < n.links.length := by omega
    have hx0 : n.links[n.links.length - 1 - c]? = some n.links[n.links.length - 1 - c] := by simp [hxi]
    generalize n.links[n.links.length - 1 - c] = x at hx0
    have hx : n.links[(((n.links.map linkV).length : Int) - 1 - c).toNat]? = some x := by
      rw [← hx0]; congr 1; omega
    have hxf : (n.links.map (flipL (n.bridges.map bridgeV).length))[(n.links.map (flipL (n.bridges.map bridgeV).length)).length - 1 - c]? = some (flipL (n.bridges.map bridgeV).length x) := by
      simp only [List.length_map, List.getElem?_map, hx0]; rfl
    have hnext : vs ++ [flipL (n.bridges.map bridgeV).length x] = (n.links.map (flipL (n.bridges.map bridgeV).length)).reverse.take (c + 1) := by rw [hvs]; exact (rev_take hxf (by rw [List.length_map]; exact hlt)).symm
    have hlu : vs.length = c := by rw [hvs, List.length_take, List.length_reverse, List.length_map]; omega
    repeat' (first
    | (apply Stp.go; case a => constructor)
    | refine blk_hit rfl ?_ | refine blk_miss rfl ?_ | refine dnilD (by kernel_rfl) ?_ | refine DW_cond_t rfl ?_ | refine DW_cond_f rfl ?_
    | refine DW_tD rfl (by omega) ?_ | refine DW_fD rfl (by omega) ?_
    | refine dpOff rfl rfl ?_
    | ((first | apply dX rfl | apply dXon rfl rfl | apply dpMay rfl rfl (by intro h; first | trivial | exact ⟨h, trivial⟩ | exact ⟨h, h, trivial⟩ | exact ⟨h, h, h, trivial⟩)); (case h => ((try intro hg); first | exact S_ixM rfl rfl (by omega) hx | exact S_appM (f := linkV) (us := vs) (bs := [flipL (n.bridges.map bridgeV).length x]) rfl rfl (.dat _ _) rfl rfl (.inl rfl) rfl (by simp; omega) | exact S_al rfl | exact S_bx rfl rfl | exact S_store rfl rfl rfl rfl rfl rfl | (apply Pu.ok; repeat' (first | rfl | exact .inK (by simp only [InK]; omega) | exact .inK (by simp only [InK]; simp at hg; omega) | exact .wr | constructor | decide | omega)))); (try case hp => constructor))
    | refine dpickAnd rfl rfl rfl rfl rfl ?_ | refine dpickOr rfl rfl rfl rfl rfl ?_
    | fail)
    refine loop_again (c + 1, vs ++ [flipL (n.bridges.map bridgeV).length x]) ⟨hlt, hnext⟩ (by simp only; omega) ?_
    have e8 : ((n.links.map linkV).length : Int) - 1 - c - 1 = ((n.links.map linkV).length : Int) - 1 - ((c + 1 : Nat) : Int) := by omega
    simp only [e8]
    exact (Wk_g some rfl rfl (by (repeat' (first | exact trivial | rfl | exact listLe_map _ | exact ⟨_, rfl, .inl rfl⟩ | exact ⟨_, rfl, .inr (.inl rfl)⟩ | exact ⟨_, rfl, .inr (.inr rfl)⟩ | refine ⟨_, _, rfl, rfl, ?_⟩ | exact ⟨_, rfl, rfl⟩ | exact ⟨_, _, _, _, rfl, rfl, rfl⟩ | exact ⟨_, rfl⟩ | exact ⟨_, _, rfl⟩ | apply And.intro))))
  have hcl : c = n.links.length := by omega
  subst hcl
  have hvs' : vs = (n.links.map (flipL n.bridges.length)).reverse := by rw [hvs, List.take_of_length_le (by simp), hmb]
  clear hvs hlt hc
  have hp1 := plan_Plan n ht tree
  have hp2 := plan_Plan (revN n) (rev_typed ht) tree
  have hv2 : (revN n).v = .agg [.slice ((us.map bridgeV).drop 0 |>.take us.length), .slice ((vs.map linkV).drop 0 |>.take vs.length)] := by
    rw [whole_eq rfl, whole_eq rfl, hus', hvs']; rfl
  rw [hv2] at hp2
  have hnb : (revN n).bridges.length = n.bridges.length := by simp [revN]
  rcases planA_cases ht tree with ⟨e, i, he, hpa⟩ | ⟨h, hw, t0, t1, hpa⟩
  · obtain ⟨e2, i2, he2, hpb⟩ : ∃ e2 i2, e2 ≠ 0 ∧ planA (revN n) tree = ([], (e2, i2)) := by
      rcases planA_cases (rev_typed ht) tree with ⟨e2, i2, he2, hpb⟩ | ⟨h2, hw2, t2, t3, hpb⟩
      · exact ⟨e2, i2, he2, hpb⟩
      · exfalso
        have hw3 := (rev_wrong ht hI (by omega)).1 (by rw [hw2])
        with_unfolding_all
          unfold planA at hpa
          rw [hw3, if_neg (by simp), if_neg (by omega)] at hpa
          simp only [Prod.mk.injEq] at hpa
          exact he hpa.2.1.symm
    rw [hpa] at hp1
    rw [hpb] at hp2
    have he' : decide (e ≠ 0) = true := decide_eq_true he
    repeat' (first
    | (apply Stp.go; case a => constructor)
    | refine blk_hit rfl ?_ | refine blk_miss rfl ?_ | refine dnilD (by kernel_rfl) ?_ | refine DW_cond_t rfl ?_ | refine DW_cond_f rfl ?_
    | refine DW_tD rfl (by omega) ?_ | refine DW_fD rfl (by omega) ?_
    | refine dpOff rfl rfl ?_
    | ((first | apply dX rfl | apply dXon rfl rfl | apply dpMay rfl rfl (by intro h; first | trivial | exact ⟨h, trivial⟩ | exact ⟨h, h, trivial⟩ | exact ⟨h, h, h, trivial⟩)); (case h => ((try intro hg); first | exact S_call hp1 rfl | exact S_call hp2 rfl | exact as_bool (S_neq rfl rfl) he' | exact S_al rfl | exact S_bx rfl rfl | exact S_store rfl rfl rfl rfl rfl rfl | (apply Pu.ok; repeat' (first | rfl | exact .inK (by simp only [InK]; omega) | exact .inK (by simp only [InK]; simp at hg; omega) | exact .wr | constructor | decide | omega)))); (try case hp => constructor))
    | refine dpickAnd rfl rfl rfl rfl rfl ?_ | refine dpickOr rfl rfl rfl rfl rfl ?_
    | fail)
    refine ret1 rfl (by first | exact .inl rfl | exact .inr (flat_of rfl)) ?_
    rw [show decide (([], e, i).snd.fst = 0) = false from decide_eq_false he, show decide (([], e2, i2).snd.fst = 0) = false from decide_eq_false he2]; rfl
  · obtain ⟨h2, hpb⟩ : (revN n).good ∧ planA (revN n) tree = (planF (revN n) tree, (0, 0)) := by
      rcases planA_cases (rev_typed ht) tree with ⟨e2, i2, he2, hpb⟩ | ⟨h2, hw2, t2, t3, hpb⟩
      · exfalso
        have hw3 := (rev_wrong ht hI (by omega)).2 (by rw [hw])
        with_unfolding_all
          unfold planA at hpb
          rw [hw3, if_neg (by simp), if_neg (by omega)] at hpb
          simp only [Prod.mk.injEq] at hpb
          exact he2 hpb.2.1.symm
      · exact ⟨h2, hpb⟩
    rw [hpa] at hp1
    rw [hpb] at hp2
    have l0 : ((planF n tree).map Place.cells).length = n.bridges.length := by rw [List.length_map, plan_len]
    have l1 : ((planF (revN n) tree).map Place.cells).length = n.bridges.length := by rw [List.length_map, plan_len, hnb]
    have m0 : (planF n tree).length = n.bridges.length := by rw [plan_len]
    have m1 : (planF (revN n) tree).length = n.bridges.length := by rw [plan_len, hnb]
    have hnb := h.nb
    repeat' (first
    | (apply Stp.go; case a => constructor)
    | refine blk_hit rfl ?_ | refine blk_miss rfl ?_ | refine dnilD (by kernel_rfl) ?_ | refine DW_cond_t rfl ?_ | refine DW_cond_f rfl ?_
    | refine DW_tD rfl (by omega) ?_ | refine DW_fD rfl (by omega) ?_
    | refine dpOff rfl rfl ?_
    | ((first | apply dX rfl | apply dXon rfl rfl | apply dpMay rfl rfl (by intro h; first | trivial | exact ⟨h, trivial⟩ | exact ⟨h, h, trivial⟩ | exact ⟨h, h, h, trivial⟩)); (case h => ((try intro hg); first | exact S_call hp1 rfl | exact S_call hp2 rfl | exact S_al rfl | exact S_bx rfl rfl | exact S_store rfl rfl rfl rfl rfl rfl | (apply Pu.ok; repeat' (first | rfl | exact .inK (by simp only [InK]; omega) | exact .inK (by simp only [InK]; simp at hg; omega) | exact .wr | constructor | decide | omega)))); (try case hp => constructor))
    | refine dpickAnd rfl rfl rfl rfl rfl ?_ | refine dpickOr rfl rfl rfl rfl rfl ?_
    | fail)
    refine DW_loop (fun k : Nat => ⟨[(5, .dat true (.int .i64 (n.bridges.map bridgeV).length)), (10, .dat true (.slice ((planF n tree).map Place.cells))), (12, .dat true (.slice ((planF (revN n) tree).map Place.cells))), (95, .dat true (.int .i64 ((planF n tree).map Place.cells).length)), (96, .dat true (.int .i64 k))], [], 121⟩)
      (fun k => k ≤ n.bridges.length) (fun k => n.bridges.length - k) 0 (Nat.zero_le _) (Wk_g some rfl rfl (by (repeat' (first | exact trivial | rfl | exact listLe_map _ | exact ⟨_, rfl, .inl rfl⟩ | exact ⟨_, rfl, .inr (.inl rfl)⟩ | exact ⟨_, rfl, .inr (.inr rfl)⟩ | refine ⟨_, _, rfl, rfl, ?_⟩ | exact ⟨_, rfl, rfl⟩ | exact ⟨_, _, _, _, rfl, rfl, rfl⟩ | exact ⟨_, rfl⟩ | exact ⟨_, _, rfl⟩ | apply And.intro)))) (fun k hk => ?_)
    by_cases hlt : k < n.bridges.length
    · obtain ⟨p, g0, _⟩ := plan_at (n := n) (tree := tree) (i := k) hlt
      have g1 := rev_place h h2 tree hlt
      rw [g0] at g1
      have q0 : ((planF n tree).drop k).take (k + 1 - k) = [p] := one_at g0
      have q1 : ((planF (revN n) tree).drop (n.bridges.length - 1 - k)).take (n.bridges.length - k - (n.bridges.length - 1 - k)) = [p] := by
        rw [show n.bridges.length - k - (n.bridges.length - 1 - k) = n.bridges.length - 1 - k + 1 - (n.bridges.length - 1 - k) by omega]; exact one_at g1
      have hs := ref6_Same [p]
      repeat' (first
    | (apply Stp.go; case a => constructor)
    | refine blk_hit rfl ?_ | refine blk_miss rfl ?_ | refine dnilD (by kernel_rfl) ?_ | refine DW_cond_t rfl ?_ | refine DW_cond_f rfl ?_
    | refine DW_tD rfl (by omega) ?_ | refine DW_fD rfl (by omega) ?_
    | refine dpOff rfl rfl ?_
    | ((first | apply dX rfl | apply dXon rfl rfl | apply dpMay rfl rfl (by intro h; first | trivial | exact ⟨h, trivial⟩ | exact ⟨h, h, trivial⟩ | exact ⟨h, h, h, trivial⟩)); (case h => ((try intro hg); first | exact S_slM (f := Place.cells) [p] rfl (.some _ _ _ _ k rfl) (.some _ _ _ _ (k + 1) (by omega)) (by omega) (by omega) q0 | exact S_slM (f := Place.cells) [p] rfl (.some _ _ _ _ (n.bridges.length - 1 - k) (by omega)) (.some _ _ _ _ (n.bridges.length - k) (by omega)) (by omega) (by omega) q1 | exact S_call hs rfl | exact S_al rfl | exact S_bx rfl rfl | exact S_store rfl rfl rfl rfl rfl rfl | (apply Pu.ok; repeat' (first | rfl | exact .inK (by simp only [InK]; omega) | exact .inK (by simp only [InK]; simp at hg; omega) | exact .wr | constructor | decide | omega)))); (try case hp => constructor))
    | refine dpickAnd rfl rfl rfl rfl rfl ?_ | refine dpickOr rfl rfl rfl rfl rfl ?_
    | fail)
      exact loop_again (k + 1) hlt (by omega) (Wk_g some rfl rfl (by (repeat' (first | exact trivial | rfl | exact listLe_map _ | exact ⟨_, rfl, .inl rfl⟩ | exact ⟨_, rfl, .inr (.inl rfl)⟩ | exact ⟨_, rfl, .inr (.inr rfl)⟩ | refine ⟨_, _, rfl, rfl, ?_⟩ | exact ⟨_, rfl, rfl⟩ | exact ⟨_, _, _, _, rfl, rfl, rfl⟩ | exact ⟨_, rfl⟩ | exact ⟨_, _, rfl⟩ | apply And.intro))))
    · repeat' (first
    | (apply Stp.go; case a => constructor)
    | refine blk_hit rfl ?_ | refine blk_miss rfl ?_ | refine dnilD (by kernel_rfl) ?_ | refine DW_cond_t rfl ?_ | refine DW_cond_f rfl ?_
    | refine DW_tD rfl (by omega) ?_ | refine DW_fD rfl (by omega) ?_
    | refine dpOff rfl rfl ?_
    | ((first | apply dX rfl | apply dXon rfl rfl | apply dpMay rfl rfl (by intro h; first | trivial | exact ⟨h, trivial⟩ | exact ⟨h, h, trivial⟩ | exact ⟨h, h, h, trivial⟩)); (case h => ((try intro hg); first | exact S_cT rfl rfl (by constructor) (by omega) | exact S_cF rfl rfl (by constructor) (by omega) | exact S_al rfl | exact S_bx rfl rfl | exact S_store rfl rfl rfl rfl rfl rfl | (apply Pu.ok; repeat' (first | rfl | exact .inK (by simp only [InK]; omega) | exact .inK (by simp only [InK]; simp at hg; omega) | exact .wr | constructor | decide | omega)))); (try case hp => constructor))
    | refine dpickAnd rfl rfl rfl rfl rfl ?_ | refine dpickOr rfl rfl rfl rfl rfl ?_
    | fail)
      refine ret1 rfl (by first | exact .inl rfl | exact .inr (flat_of rfl)) ?_
      rfl
end Go.Proofs.Ytkppkgahdoglpaa
