/- Contract: the document's Learn. -/
import Derived.Test.YtpdoplmnedpdaaadBkr
namespace Go.Proofs.Ytpdoplmnedpdaaa
open Go.RowKit
theorem puts_ref {v a p : Int} (ha : 0 ≤ a ∧ a ≤ 18446744073709551615) : (decide ((IntKind.u64.wrap (a.tdiv 1099511627776)).tmod 2 = 1) || decide (281474976710656 ≤ a) || decide (v < 1) || decide (4094 < v) || decide (p < 0) || decide (30 < p)) = putsB v a p := by
  have h1 : a.tdiv 1099511627776 = a / 1099511627776 := Int.tdiv_eq_ediv_of_nonneg ha.1
  have h2 : IntKind.u64.wrap (a / 1099511627776) = a / 1099511627776 := wrap_in (by simp only [InK]; omega)
  have h3 : (a / 1099511627776).tmod 2 = a / 1099511627776 % 2 := Int.tmod_eq_emod_of_nonneg (by omega)
  unfold putsB isGroup
  rw [group_shr ha.1 ha.2, h1, h2, h3]
  have e : decide ((281474976710656 : Int) ≤ a) = decide ((281474976710655 : Int) < a) := by
    rw [Bool.eq_iff_iff, decide_eq_true_iff, decide_eq_true_iff]; omega
  rw [e]
attribute [local irreducible] SStep DW DWin DOps thenQ inBlk loopQ retQ retQG FnF FnG Wk IntKind.wrap IntKind.andI IntKind.orI IntKind.xorI IntKind.andNotI IntKind.shlI IntKind.shrI Ent.cmp bsG lookS lrStep
set_option maxHeartbeats 4000000 in
theorem ref8_Learn (l : List Ent) (v a p : Int) (ha : 0 ≤ a ∧ a ≤ 18446744073709551615) (hl : l.length ≤ 4194304) : FnG Try.prog 23 [.dat false (.slice (l.map entV)), .dat false (.int .i64 v), .dat false (.int .u64 a), .dat false (.int .i64 p)] [] (.dat false (.slice ((learnR l v a p).map entV))) [] := by
  refine fnG_of Try.func23 rfl rfl rfl ?_
  simp only [envD]
  have hml : (l.map entV).length = l.length := by simp
  repeat' (first
    | refine DW_seq ?_
    | refine DW_region ?_
    | refine DW_draw ?_
    | refine dnilP ?_
    | refine dnilD (by kernel_rfl) ?_
    | refine then_normal ?_
    | refine then_exit ?_
    | refine then_ret ?_
    | refine DW_block ?_
    | refine blk_normal ?_
    | refine blk_ret ?_
    | refine blk_hit rfl ?_
    | refine blk_miss rfl ?_
    | refine loop_exit ?_
    | refine loop_ret ?_
    | refine DW_ret ?_
    | refine DW_exit ?_
    | refine DW_skip ?_
    | refine DW_cond_t rfl ?_
    | refine DW_cond_f rfl ?_
    | refine DW_cond rfl (fun hb => ?_) (fun hb => ?_)
    | (apply dpC rfl; case h => first | (apply Pu.ok; repeat' (first | rfl | exact .inK (by simp only [InK]; omega) | exact .inK (by simp only [InK]; simp at hg; omega) | exact .wr | constructor | decide | omega)))
    | refine dpOff rfl rfl ?_
    | ((first | apply dp rfl | apply dpOn rfl rfl | apply dpMay rfl rfl (by first | exact fun _ => trivial | exact fun h => ⟨h, trivial⟩ | exact fun h => ⟨h, h, trivial⟩ | exact fun h => ⟨h, h, h, trivial⟩)); case h => ((try intro hg); first | (apply Pu.ok; repeat' (first | rfl | exact .inK (by simp only [InK]; omega) | exact .inK (by simp only [InK]; simp at hg; omega) | exact .wr | constructor | decide | omega))))
    | refine dpickAnd rfl rfl rfl rfl rfl ?_ | refine dpickOr rfl rfl rfl rfl rfl ?_
    | (apply dt rfl; case h => first | exact S_alloc _ rfl | exact S_box _ rfl rfl)
    | (apply ds; case h => first | exact S_store rfl rfl rfl rfl rfl rfl)
    | (apply dm rfl; case h => first | exact M_d rfl | exact S_alloc 2001 rfl | exact S_alloc 2002 rfl | exact S_alloc 2003 rfl | exact S_alloc 2004 rfl | exact S_alloc 2005 rfl)
    | fail)
  · rw [puts_ref ha] at hb
    have hL : learnR l v a p = l := by unfold learnR; rw [if_pos hb]
    rw [hL]
    exact gOld (.tmp rfl .nil) Wk_none rfl
  rw [puts_ref ha] at hb
  have hL : learnR l v a p = if (lrStep v a p l false false []).2.2 = false ∧ 30 ≤ l.length then l else lrEnd v a p (lrStep v a p l false false []) := by unfold learnR; rw [if_neg (by rw [hb]; simp)]
  rw [hL]
  refine DW_loop (fun q : Nat × Bool × Bool × List Ent => ⟨[(0, .dat false (.slice (l.map entV))), (1, .dat false (.int .i64 v)), (2, .dat false (.int .u64 a)), (9, .ptr 9 0), (10, .own 70 0 0 q.2.2.2.length), (11, .dat true (.bool q.2.1)), (12, .dat true (.bool q.2.2.1)), (44, .dat false (.slice (l.map entV))), (45, .dat true (.int .i64 (l.map entV).length)), (46, .dat true (.int .i64 q.1))],
      [(9, .cells false true [.dat false (.int .i64 v), .dat false (.int .u64 a), .dat false (.int .i64 p), .dat true (.int .i64 0)]), (70, .row 0 false true 4 (q.2.2.2.map entV))], 91⟩)
    (fun q => q.1 ≤ l.length ∧ q.2.2.2.length ≤ 2 * q.1 ∧ lrStep v a p l false false [] = lrStep v a p (l.drop q.1) q.2.1 q.2.2.1 q.2.2.2) (fun q => l.length - q.1) (0, false, false, []) ⟨Nat.zero_le _, Nat.le_refl _, rfl⟩
    (Wk_gen (fun g => if g = 70 then none else some g) rfl rfl (by (repeat' (first | exact trivial | rfl | exact listLe_map _ | exact ⟨_, rfl, .inl rfl⟩ | exact ⟨_, rfl, .inr (.inl rfl)⟩ | exact ⟨_, rfl, .inr (.inr rfl)⟩ | refine ⟨_, _, rfl, rfl, ?_⟩ | exact ⟨_, rfl, rfl⟩ | exact ⟨_, _, _, _, rfl, rfl, rfl⟩ | exact ⟨_, rfl⟩ | exact ⟨_, _, rfl⟩ | apply And.intro))) (by (repeat' (first | exact trivial | rfl | exact listLe_map _ | exact ⟨_, rfl, .inl rfl⟩ | exact ⟨_, rfl, .inr (.inl rfl)⟩ | exact ⟨_, rfl, .inr (.inr rfl)⟩ | refine ⟨_, _, rfl, rfl, ?_⟩ | exact ⟨_, rfl, rfl⟩ | exact ⟨_, _, _, _, rfl, rfl, rfl⟩ | exact ⟨_, rfl⟩ | exact ⟨_, _, rfl⟩ | apply And.intro)))) (fun q hR => ?_)
  obtain ⟨k, put, had, out⟩ := q
  obtain ⟨hk, hol, hw⟩ := hR
  simp only at hk hol hw
  dsimp only
  by_cases hlt : k < l.length
  · have hx : l[(k : Int).toNat]? = some l[k] := by simp [hlt]
    have hn : l.drop k = l[k] :: l.drop (k + 1) := List.drop_eq_getElem_cons hlt
    generalize l[k] = x at hx hn
    have hst : lrStep v a p (x :: l.drop (k + 1)) put had out = if x.is v a then lrStep v a p (l.drop (k + 1)) put true out else if put = false ∧ (⟨v, a, p, 0⟩ : Ent).lt x.vid x.addr then lrStep v a p (l.drop (k + 1)) true had (out ++ [⟨v, a, p, 0⟩] ++ [x]) else lrStep v a p (l.drop (k + 1)) put had (out ++ [x]) := by with_unfolding_all rfl
    rw [hn, hst] at hw
    have hah := ref8_ahead ⟨v, a, p, 0⟩ x
    repeat' (first
    | refine DW_seq ?_
    | refine DW_region ?_
    | refine DW_draw ?_
    | refine dnilP ?_
    | refine dnilD (by kernel_rfl) ?_
    | refine then_normal ?_
    | refine then_exit ?_
    | refine then_ret ?_
    | refine DW_block ?_
    | refine blk_normal ?_
    | refine blk_ret ?_
    | refine blk_hit rfl ?_
    | refine blk_miss rfl ?_
    | refine loop_exit ?_
    | refine loop_ret ?_
    | refine DW_ret ?_
    | refine DW_exit ?_
    | refine DW_skip ?_
    | refine DW_cond_t rfl ?_
    | refine DW_cond_f rfl ?_
    | refine DW_cond rfl (fun hc => ?_) (fun hc => ?_)
    | (apply dpC rfl; case h => first | exact S_call hah rfl | (apply Pu.ok; repeat' (first | rfl | exact .inK (by simp only [InK]; omega) | exact .inK (by simp only [InK]; simp at hg; omega) | exact .wr | constructor | decide | omega)))
    | (apply dmC rfl; case h => first | exact S_appM (f := entV) (us := out) (bs := [⟨v, a, p, 0⟩]) rfl rfl (.dat _ _) rfl rfl (.inr ⟨rfl, inferInstance⟩) rfl (by simp only [List.length_cons, List.length_nil, List.length_append]; omega) | exact S_appM (f := entV) (us := out ++ [⟨v, a, p, 0⟩]) (bs := [x]) rfl rfl (.dat _ _) rfl rfl (.inr ⟨rfl, inferInstance⟩) rfl (by simp only [List.length_cons, List.length_nil, List.length_append]; omega) | exact S_appM (f := entV) (us := out) (bs := [x]) rfl rfl (.dat _ _) rfl rfl (.inr ⟨rfl, inferInstance⟩) rfl (by simp only [List.length_cons, List.length_nil, List.length_append]; omega))
    | refine dpOff rfl rfl ?_
    | (apply dmOn rfl rfl; case h => first | exact S_appM (f := entV) (us := out) (bs := [⟨v, a, p, 0⟩]) rfl rfl (.dat _ _) rfl rfl (.inr ⟨rfl, inferInstance⟩) rfl (by simp only [List.length_cons, List.length_nil, List.length_append]; omega) | exact S_appM (f := entV) (us := out ++ [⟨v, a, p, 0⟩]) (bs := [x]) rfl rfl (.dat _ _) rfl rfl (.inr ⟨rfl, inferInstance⟩) rfl (by simp only [List.length_cons, List.length_nil, List.length_append]; omega) | exact S_appM (f := entV) (us := out) (bs := [x]) rfl rfl (.dat _ _) rfl rfl (.inr ⟨rfl, inferInstance⟩) rfl (by simp only [List.length_cons, List.length_nil, List.length_append]; omega))
    | ((first | apply dp rfl | apply dpOn rfl rfl | apply dpMay rfl rfl (by first | exact fun _ => trivial | exact fun h => ⟨h, trivial⟩ | exact fun h => ⟨h, h, trivial⟩ | exact fun h => ⟨h, h, h, trivial⟩)); case h => ((try intro hg); first | exact as_bool (S_lss rfl rfl) (decide_eq_true (by omega : (k : Int) < ((l.map entV).length : Int))) | exact S_ixM rfl rfl (by omega) hx | exact S_call hah rfl | exact S_appM (f := entV) (us := out) (bs := [⟨v, a, p, 0⟩]) rfl rfl (.dat _ _) rfl rfl (.inr ⟨rfl, inferInstance⟩) rfl (by simp only [List.length_cons, List.length_nil, List.length_append]; omega) | exact S_appM (f := entV) (us := out ++ [⟨v, a, p, 0⟩]) (bs := [x]) rfl rfl (.dat _ _) rfl rfl (.inr ⟨rfl, inferInstance⟩) rfl (by simp only [List.length_cons, List.length_nil, List.length_append]; omega) | exact S_appM (f := entV) (us := out) (bs := [x]) rfl rfl (.dat _ _) rfl rfl (.inr ⟨rfl, inferInstance⟩) rfl (by simp only [List.length_cons, List.length_nil, List.length_append]; omega) | (apply Pu.ok; repeat' (first | rfl | exact .inK (by simp only [InK]; omega) | exact .inK (by simp only [InK]; simp at hg; omega) | exact .wr | constructor | decide | omega))))
    | refine dpickAnd rfl rfl rfl rfl rfl ?_ | refine dpickOr rfl rfl rfl rfl rfl ?_
    | (apply dt rfl; case h => first | exact S_alloc _ rfl | exact S_box _ rfl rfl)
    | (apply ds; case h => first | exact S_store rfl rfl rfl rfl rfl rfl)
    | (apply dm rfl; case h => first | exact M_d rfl | exact S_alloc 2001 rfl | exact S_alloc 2002 rfl | exact S_alloc 2003 rfl | exact S_alloc 2004 rfl | exact S_alloc 2005 rfl)
    | fail)
    · simp only [Bool.and_eq_true, decide_eq_true_eq] at hc
      rw [if_pos (show x.is v a from hc)] at hw
      exact loop_again (k + 1, put, true, out) ⟨hlt, by simp only; omega, hw⟩ (by simp only; omega) (Wk_gen some rfl rfl (by (repeat' (first | exact trivial | rfl | exact listLe_map _ | exact ⟨_, rfl, .inl rfl⟩ | exact ⟨_, rfl, .inr (.inl rfl)⟩ | exact ⟨_, rfl, .inr (.inr rfl)⟩ | refine ⟨_, _, rfl, rfl, ?_⟩ | exact ⟨_, rfl, rfl⟩ | exact ⟨_, _, _, _, rfl, rfl, rfl⟩ | exact ⟨_, rfl⟩ | exact ⟨_, _, rfl⟩ | apply And.intro))) (by (repeat' (first | exact trivial | rfl | exact listLe_map _ | exact ⟨_, rfl, .inl rfl⟩ | exact ⟨_, rfl, .inr (.inl rfl)⟩ | exact ⟨_, rfl, .inr (.inr rfl)⟩ | refine ⟨_, _, rfl, rfl, ?_⟩ | exact ⟨_, rfl, rfl⟩ | exact ⟨_, _, _, _, rfl, rfl, rfl⟩ | exact ⟨_, rfl⟩ | exact ⟨_, _, rfl⟩ | apply And.intro))))
    · rename_i hc1
      have hni : ¬ x.is v a := fun h => by simp [h.1, h.2] at hc1
      simp only [Bool.and_eq_true, Bool.not_eq_true', decide_eq_true_eq] at hc
      rw [if_neg hni, if_pos hc] at hw
      exact loop_again (k + 1, true, had, out ++ [⟨v, a, p, 0⟩] ++ [x]) ⟨hlt, by simp; omega, hw⟩ (by simp only; omega) (Wk_gen some rfl rfl (by (repeat' (first | exact trivial | rfl | exact listLe_map _ | exact ⟨_, rfl, .inl rfl⟩ | exact ⟨_, rfl, .inr (.inl rfl)⟩ | exact ⟨_, rfl, .inr (.inr rfl)⟩ | refine ⟨_, _, rfl, rfl, ?_⟩ | exact ⟨_, rfl, rfl⟩ | exact ⟨_, _, _, _, rfl, rfl, rfl⟩ | exact ⟨_, rfl⟩ | exact ⟨_, _, rfl⟩ | apply And.intro))) (by (repeat' (first | exact trivial | rfl | exact listLe_map _ | exact ⟨_, rfl, .inl rfl⟩ | exact ⟨_, rfl, .inr (.inl rfl)⟩ | exact ⟨_, rfl, .inr (.inr rfl)⟩ | refine ⟨_, _, rfl, rfl, ?_⟩ | exact ⟨_, rfl, rfl⟩ | exact ⟨_, _, _, _, rfl, rfl, rfl⟩ | exact ⟨_, rfl⟩ | exact ⟨_, _, rfl⟩ | apply And.intro))))
    · rename_i hc1
      have hni : ¬ x.is v a := fun h => by simp [h.1, h.2] at hc1
      rw [if_neg hni, if_neg (fun h => by rw [h.1, decide_eq_true h.2] at hc; cases hc)] at hw
      exact loop_again (k + 1, put, had, out ++ [x]) ⟨hlt, by simp; omega, hw⟩ (by simp only; omega) (Wk_gen some rfl rfl (by (repeat' (first | exact trivial | rfl | exact listLe_map _ | exact ⟨_, rfl, .inl rfl⟩ | exact ⟨_, rfl, .inr (.inl rfl)⟩ | exact ⟨_, rfl, .inr (.inr rfl)⟩ | refine ⟨_, _, rfl, rfl, ?_⟩ | exact ⟨_, rfl, rfl⟩ | exact ⟨_, _, _, _, rfl, rfl, rfl⟩ | exact ⟨_, rfl⟩ | exact ⟨_, _, rfl⟩ | apply And.intro))) (by (repeat' (first | exact trivial | rfl | exact listLe_map _ | exact ⟨_, rfl, .inl rfl⟩ | exact ⟨_, rfl, .inr (.inl rfl)⟩ | exact ⟨_, rfl, .inr (.inr rfl)⟩ | refine ⟨_, _, rfl, rfl, ?_⟩ | exact ⟨_, rfl, rfl⟩ | exact ⟨_, _, _, _, rfl, rfl, rfl⟩ | exact ⟨_, rfl⟩ | exact ⟨_, _, rfl⟩ | apply And.intro))))
  · have hs0 : lrStep v a p [] put had out = (out, put, had) := by with_unfolding_all rfl
    rw [List.drop_eq_nil_of_le (by omega), hs0] at hw
    rw [hw]
    simp only
    have hkl : k = l.length := by omega
    cases put
    · repeat' (first
    | (refine DW_seal 8 rfl rfl (by simp) ?_; refine DW_ret ?_)
    | refine DW_seq ?_
    | refine DW_region ?_
    | refine DW_draw ?_
    | refine dnilP ?_
    | refine dnilD (by kernel_rfl) ?_
    | refine then_normal ?_
    | refine then_exit ?_
    | refine then_ret ?_
    | refine DW_block ?_
    | refine blk_normal ?_
    | refine blk_ret ?_
    | refine blk_hit rfl ?_
    | refine blk_miss rfl ?_
    | refine loop_exit ?_
    | refine loop_ret ?_
    | refine DW_ret ?_
    | refine DW_exit ?_
    | refine DW_skip ?_
    | refine DW_cond_t rfl ?_
    | refine DW_cond_f rfl ?_
    | refine DW_cond rfl (fun hc => ?_) (fun hc => ?_)
    | (apply dpC rfl; case h => first | (apply Pu.ok; repeat' (first | rfl | exact .inK (by simp only [InK]; omega) | exact .inK (by simp only [InK]; simp at hg; omega) | exact .wr | constructor | decide | omega)))
    | (apply dmC rfl; case h => first | exact S_appM (f := entV) (us := out) (bs := [⟨v, a, p, 0⟩]) rfl rfl (.dat _ _) rfl rfl (.inr ⟨rfl, inferInstance⟩) rfl (by simp only [List.length_cons, List.length_nil, List.length_append]; omega))
    | refine dpOff rfl rfl ?_
    | (apply dmOn rfl rfl; case h => first | exact S_appM (f := entV) (us := out) (bs := [⟨v, a, p, 0⟩]) rfl rfl (.dat _ _) rfl rfl (.inr ⟨rfl, inferInstance⟩) rfl (by simp only [List.length_cons, List.length_nil, List.length_append]; omega))
    | ((first | apply dp rfl | apply dpOn rfl rfl | apply dpMay rfl rfl (by first | exact fun _ => trivial | exact fun h => ⟨h, trivial⟩ | exact fun h => ⟨h, h, trivial⟩ | exact fun h => ⟨h, h, h, trivial⟩)); case h => ((try intro hg); first | exact as_bool (S_lss rfl rfl) (decide_eq_false (by omega : ¬ (k : Int) < ((l.map entV).length : Int))) | exact S_appM (f := entV) (us := out) (bs := [⟨v, a, p, 0⟩]) rfl rfl (.dat _ _) rfl rfl (.inr ⟨rfl, inferInstance⟩) rfl (by simp only [List.length_cons, List.length_nil, List.length_append]; omega) | (apply Pu.ok; repeat' (first | rfl | exact .inK (by simp only [InK]; omega) | exact .inK (by simp only [InK]; simp at hg; omega) | exact .wr | constructor | decide | omega))))
    | refine dpickAnd rfl rfl rfl rfl rfl ?_ | refine dpickOr rfl rfl rfl rfl rfl ?_
    | (apply dt rfl; case h => first | exact S_alloc _ rfl | exact S_box _ rfl rfl)
    | (apply ds; case h => first | exact S_store rfl rfl rfl rfl rfl rfl)
    | (apply dm rfl; case h => first | exact M_d rfl | exact S_alloc 2001 rfl | exact S_alloc 2002 rfl | exact S_alloc 2003 rfl | exact S_alloc 2004 rfl | exact S_alloc 2005 rfl)
    | fail)
      · simp only [Bool.and_eq_true, Bool.not_eq_true', decide_eq_true_eq, hml] at hc
        rw [if_pos ⟨hc.1, by omega⟩]
        exact gOld (.tmp rfl .nil) Wk_none rfl
      · have hn : ¬ (had = false ∧ 30 ≤ l.length) := fun h => by
          rw [h.1, decide_eq_true (show (30 : Int) ≤ ((l.map entV).length : Int) by omega)] at hc
          cases hc
        rw [if_neg hn]
        exact gOld (.tmp rfl .nil) Wk_none (by with_unfolding_all rfl)
    · repeat' (first
    | (refine DW_seal 8 rfl rfl (by simp) ?_; refine DW_ret ?_)
    | refine DW_seq ?_
    | refine DW_region ?_
    | refine DW_draw ?_
    | refine dnilP ?_
    | refine dnilD (by kernel_rfl) ?_
    | refine then_normal ?_
    | refine then_exit ?_
    | refine then_ret ?_
    | refine DW_block ?_
    | refine blk_normal ?_
    | refine blk_ret ?_
    | refine blk_hit rfl ?_
    | refine blk_miss rfl ?_
    | refine loop_exit ?_
    | refine loop_ret ?_
    | refine DW_ret ?_
    | refine DW_exit ?_
    | refine DW_skip ?_
    | refine DW_cond_t rfl ?_
    | refine DW_cond_f rfl ?_
    | refine DW_cond rfl (fun hc => ?_) (fun hc => ?_)
    | (apply dpC rfl; case h => first | (apply Pu.ok; repeat' (first | rfl | exact .inK (by simp only [InK]; omega) | exact .inK (by simp only [InK]; simp at hg; omega) | exact .wr | constructor | decide | omega)))
    | refine dpOff rfl rfl ?_
    | ((first | apply dp rfl | apply dpOn rfl rfl | apply dpMay rfl rfl (by first | exact fun _ => trivial | exact fun h => ⟨h, trivial⟩ | exact fun h => ⟨h, h, trivial⟩ | exact fun h => ⟨h, h, h, trivial⟩)); case h => ((try intro hg); first | exact as_bool (S_lss rfl rfl) (decide_eq_false (by omega : ¬ (k : Int) < ((l.map entV).length : Int))) | (apply Pu.ok; repeat' (first | rfl | exact .inK (by simp only [InK]; omega) | exact .inK (by simp only [InK]; simp at hg; omega) | exact .wr | constructor | decide | omega))))
    | refine dpickAnd rfl rfl rfl rfl rfl ?_ | refine dpickOr rfl rfl rfl rfl rfl ?_
    | (apply dt rfl; case h => first | exact S_alloc _ rfl | exact S_box _ rfl rfl)
    | (apply ds; case h => first | exact S_store rfl rfl rfl rfl rfl rfl)
    | (apply dm rfl; case h => first | exact M_d rfl | exact S_alloc 2001 rfl | exact S_alloc 2002 rfl | exact S_alloc 2003 rfl | exact S_alloc 2004 rfl | exact S_alloc 2005 rfl)
    | fail)
      · simp only [Bool.and_eq_true, Bool.not_eq_true', decide_eq_true_eq, hml] at hc
        rw [if_pos ⟨hc.1, by omega⟩]
        exact gOld (.tmp rfl .nil) Wk_none rfl
      · have hn : ¬ (had = false ∧ 30 ≤ l.length) := fun h => by
          rw [h.1, decide_eq_true (show (30 : Int) ≤ ((l.map entV).length : Int) by omega)] at hc
          cases hc
        rw [if_neg hn]
        exact gOld (.tmp rfl .nil) Wk_none (by with_unfolding_all rfl)
end Go.Proofs.Ytpdoplmnedpdaaa
