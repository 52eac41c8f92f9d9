/- Contracts: book.Wrong, Old; the document's. -/
import Derived.Test.YtpdoplmnedpdaaadBok
namespace Go.Proofs.Ytpdoplmnedpdaaa
open Go.RowKit
attribute [local irreducible] SStep DW DWin DOps thenQ inBlk loopQ retQ retQG FnF FnG Wk IntKind.wrap IntKind.andI IntKind.orI IntKind.xorI IntKind.andNotI IntKind.shlI IntKind.shrI Ent.cmp bsG
set_option maxHeartbeats 2000000 in
theorem book_Wrong (l : List Ent) : FnF Try.prog 16 [.slice (l.map entV)] (faultV (wrongB l)) := by
  refine fnF_of Try.func16 rfl rfl rfl ?_
  simp only [envOf]
  have hml : (l.map entV).length = l.length := by simp
  unfold wrongB
  by_cases h30 : 30 < l.length
  · rw [if_pos h30]
    repeat' (first
    | refine DW_seq ?_
    | refine DW_region ?_
    | refine DW_draw ?_
    | refine dnilP ?_
    | refine dnilD (by kernel_rfl) ?_
    | refine then_normal ?_
    | refine then_exit ?_
    | refine then_ret ?_
    | refine DW_block ?_
    | refine blk_normal ?_
    | refine blk_ret ?_
    | refine blk_hit rfl ?_
    | refine blk_miss rfl ?_
    | refine loop_exit ?_
    | refine loop_ret ?_
    | refine DW_ret ?_
    | refine DW_exit ?_
    | refine DW_skip ?_
    | refine DW_cond_t rfl ?_
    | refine DW_cond_f rfl ?_
    | (apply dpC rfl; case h => first | (apply Pu.ok; repeat' (first | rfl | exact .inK (by simp only [InK]; omega) | exact .inK (by simp only [InK]; simp at hg; omega) | exact .wr | constructor | decide | omega)))
    | refine dpOff rfl rfl ?_
    | ((first | apply dp rfl | apply dpOn rfl rfl | apply dpMay rfl rfl (by first | exact fun _ => trivial | exact fun h => ⟨h, trivial⟩ | exact fun h => ⟨h, h, trivial⟩ | exact fun h => ⟨h, h, h, trivial⟩)); case h => ((try intro hg); first | exact as_bool (S_gtr rfl rfl) (decide_eq_true (by omega : (30 : Int) < ((l.map entV).length : Int))) | (apply Pu.ok; repeat' (first | rfl | exact .inK (by simp only [InK]; omega) | exact .inK (by simp only [InK]; simp at hg; omega) | exact .wr | constructor | decide | omega))))
    | refine dpickAnd rfl rfl rfl rfl rfl ?_ | refine dpickOr rfl rfl rfl rfl rfl ?_
    | (apply dt rfl; case h => first | exact S_alloc _ rfl | exact S_box _ rfl rfl)
    | (apply ds; case h => first | exact S_store rfl rfl rfl rfl rfl rfl)
    | (apply dm rfl; case h => first | exact M_d rfl | exact S_alloc 2001 rfl | exact S_alloc 2002 rfl | exact S_alloc 2003 rfl | exact S_alloc 2004 rfl | exact S_alloc 2005 rfl)
    | fail)
    refine retN (.cellA inferInstance rfl rfl rfl rfl (by first | exact .inl rfl | exact .inr (flat_of rfl)) .nil) ?_
    rfl
  rw [if_neg h30]
  repeat' (first
    | refine DW_seq ?_
    | refine DW_region ?_
    | refine DW_draw ?_
    | refine dnilP ?_
    | refine dnilD (by kernel_rfl) ?_
    | refine then_normal ?_
    | refine then_exit ?_
    | refine then_ret ?_
    | refine DW_block ?_
    | refine blk_normal ?_
    | refine blk_ret ?_
    | refine blk_hit rfl ?_
    | refine blk_miss rfl ?_
    | refine loop_exit ?_
    | refine loop_ret ?_
    | refine DW_ret ?_
    | refine DW_exit ?_
    | refine DW_skip ?_
    | refine DW_cond_t rfl ?_
    | refine DW_cond_f rfl ?_
    | (apply dpC rfl; case h => first | (apply Pu.ok; repeat' (first | rfl | exact .inK (by simp only [InK]; omega) | exact .inK (by simp only [InK]; simp at hg; omega) | exact .wr | constructor | decide | omega)))
    | refine dpOff rfl rfl ?_
    | ((first | apply dp rfl | apply dpOn rfl rfl | apply dpMay rfl rfl (by first | exact fun _ => trivial | exact fun h => ⟨h, trivial⟩ | exact fun h => ⟨h, h, trivial⟩ | exact fun h => ⟨h, h, h, trivial⟩)); case h => ((try intro hg); first | exact as_bool (S_gtr rfl rfl) (decide_eq_false (by omega : ¬ (30 : Int) < ((l.map entV).length : Int))) | (apply Pu.ok; repeat' (first | rfl | exact .inK (by simp only [InK]; omega) | exact .inK (by simp only [InK]; simp at hg; omega) | exact .wr | constructor | decide | omega))))
    | refine dpickAnd rfl rfl rfl rfl rfl ?_ | refine dpickOr rfl rfl rfl rfl rfl ?_
    | (apply dt rfl; case h => first | exact S_alloc _ rfl | exact S_box _ rfl rfl)
    | (apply ds; case h => first | exact S_store rfl rfl rfl rfl rfl rfl)
    | (apply dm rfl; case h => first | exact M_d rfl | exact S_alloc 2001 rfl | exact S_alloc 2002 rfl | exact S_alloc 2003 rfl | exact S_alloc 2004 rfl | exact S_alloc 2005 rfl)
    | fail)
  refine DW_loop (fun k : Nat => ⟨[(0, .dat false (.slice (l.map entV))), (2, .ptr 2 0), (9, .dat false (.slice (l.map entV))), (10, .dat true (.int .i64 (l.map entV).length)), (11, .dat true (.int .i64 k))], [(2, .cells false true [.dat true (.int .i64 0), .dat true (.int .i64 0)])], 70⟩)
    (fun k => k ≤ l.length ∧ bookW none 0 l = bookW (lastE l k) k (l.drop k)) (fun k => l.length - k) 0 ⟨Nat.zero_le _, rfl⟩
    (Wk_gen some rfl rfl (by (repeat' (first | exact trivial | rfl | exact listLe_map _ | exact ⟨_, rfl, .inl rfl⟩ | exact ⟨_, rfl, .inr (.inl rfl)⟩ | exact ⟨_, rfl, .inr (.inr rfl)⟩ | refine ⟨_, _, rfl, rfl, ?_⟩ | exact ⟨_, rfl, rfl⟩ | exact ⟨_, _, _, _, rfl, rfl, rfl⟩ | exact ⟨_, rfl⟩ | exact ⟨_, _, rfl⟩ | apply And.intro))) (by (repeat' (first | exact trivial | rfl | exact listLe_map _ | exact ⟨_, rfl, .inl rfl⟩ | exact ⟨_, rfl, .inr (.inl rfl)⟩ | exact ⟨_, rfl, .inr (.inr rfl)⟩ | refine ⟨_, _, rfl, rfl, ?_⟩ | exact ⟨_, rfl, rfl⟩ | exact ⟨_, _, _, _, rfl, rfl, rfl⟩ | exact ⟨_, rfl⟩ | exact ⟨_, _, rfl⟩ | apply And.intro)))) (fun k hR => ?_)
  obtain ⟨hk, hw⟩ := hR
  by_cases hlt : k < l.length
  · have hx : l[(k : Int).toNat]? = some l[k] := by simp [hlt]
    have hn : l.drop k = l[k] :: l.drop (k + 1) := List.drop_eq_getElem_cons hlt
    have hlast : lastE l (k + 1) = some l[k] := by simp [lastE, hlt]
    generalize l[k] = t at hx hn hlast
    rw [hn, bookW] at hw
    rcases k with - | j
    · have h00 : lastE l 0 = none := rfl
      rw [h00] at hw
      repeat' (first
    | refine DW_seq ?_
    | refine DW_region ?_
    | refine DW_draw ?_
    | refine dnilP ?_
    | refine dnilD (by kernel_rfl) ?_
    | refine then_normal ?_
    | refine then_exit ?_
    | refine then_ret ?_
    | refine DW_block ?_
    | refine blk_normal ?_
    | refine blk_ret ?_
    | refine blk_hit rfl ?_
    | refine blk_miss rfl ?_
    | refine loop_exit ?_
    | refine loop_ret ?_
    | refine DW_ret ?_
    | refine DW_exit ?_
    | refine DW_skip ?_
    | refine DW_cond_t rfl ?_
    | refine DW_cond_f rfl ?_
    | refine DW_cond rfl (fun hb => ?_) (fun hb => ?_)
    | (apply dpC rfl; case h => first | (apply Pu.ok; repeat' (first | rfl | exact .inK (by simp only [InK]; omega) | exact .inK (by simp only [InK]; simp at hg; omega) | exact .wr | constructor | decide | omega)))
    | refine dpOff rfl rfl ?_
    | ((first | apply dp rfl | apply dpOn rfl rfl | apply dpMay rfl rfl (by first | exact fun _ => trivial | exact fun h => ⟨h, trivial⟩ | exact fun h => ⟨h, h, trivial⟩ | exact fun h => ⟨h, h, h, trivial⟩)); case h => ((try intro hg); first | exact as_bool (S_lss rfl rfl) (decide_eq_true (by omega : ((0 : Nat) : Int) < ((l.map entV).length : Int))) | exact S_ixM rfl rfl (by omega) hx | exact as_bool (b := false) (S_gtr rfl rfl) rfl | (apply Pu.ok; repeat' (first | rfl | exact .inK (by simp only [InK]; omega) | exact .inK (by simp only [InK]; simp at hg; omega) | exact .wr | constructor | decide | omega))))
    | refine dpickAnd rfl rfl rfl rfl rfl ?_ | refine dpickOr rfl rfl rfl rfl rfl ?_
    | (apply dt rfl; case h => first | exact S_alloc _ rfl | exact S_box _ rfl rfl)
    | (apply ds; case h => first | exact S_store rfl rfl rfl rfl rfl rfl)
    | (apply dm rfl; case h => first | exact M_d rfl | exact S_alloc 2001 rfl | exact S_alloc 2002 rfl | exact S_alloc 2003 rfl | exact S_alloc 2004 rfl | exact S_alloc 2005 rfl)
    | fail)
      · simp only [Bool.or_eq_true, Bool.or_eq_false_iff, decide_eq_true_eq, decide_eq_false_iff_not] at hb
        rw [hw, if_pos (by unfold Ent.bad; omega)]
        refine retN (.cellA inferInstance rfl rfl rfl rfl (by first | exact .inl rfl | exact .inr (flat_of rfl)) .nil) ?_
        rfl
      · simp only [Bool.or_eq_true, Bool.or_eq_false_iff, decide_eq_true_eq, decide_eq_false_iff_not] at hb
        refine loop_again (0 + 1) ⟨hlt, ?_⟩ (by omega) (Wk_gen some rfl rfl (by (repeat' (first | exact trivial | rfl | exact listLe_map _ | exact ⟨_, rfl, .inl rfl⟩ | exact ⟨_, rfl, .inr (.inl rfl)⟩ | exact ⟨_, rfl, .inr (.inr rfl)⟩ | refine ⟨_, _, rfl, rfl, ?_⟩ | exact ⟨_, rfl, rfl⟩ | exact ⟨_, _, _, _, rfl, rfl, rfl⟩ | exact ⟨_, rfl⟩ | exact ⟨_, _, rfl⟩ | apply And.intro))) (by (repeat' (first | exact trivial | rfl | exact listLe_map _ | exact ⟨_, rfl, .inl rfl⟩ | exact ⟨_, rfl, .inr (.inl rfl)⟩ | exact ⟨_, rfl, .inr (.inr rfl)⟩ | refine ⟨_, _, rfl, rfl, ?_⟩ | exact ⟨_, rfl, rfl⟩ | exact ⟨_, _, _, _, rfl, rfl, rfl⟩ | exact ⟨_, rfl⟩ | exact ⟨_, _, rfl⟩ | apply And.intro))))
        rw [hw, if_neg (by unfold Ent.bad; omega), if_neg (by simp), hlast]
    · have hj : j < l.length := by omega
      have hx2 : l[(((j + 1 : Nat) : Int) - 1).toNat]? = some l[j] := by
        rw [show (((j + 1 : Nat) : Int) - 1).toNat = j by omega]; exact List.getElem?_eq_getElem hj
      have h00 : lastE l (j + 1) = some l[j] := by simp [lastE, hj]
      generalize l[j] = q at hx2 h00
      rw [h00] at hw
      have ho := book_order q t.vid t.addr
      have hq := q.cmp_lt t.vid t.addr
      repeat' (first
    | refine DW_seq ?_
    | refine DW_region ?_
    | refine DW_draw ?_
    | refine dnilP ?_
    | refine dnilD (by kernel_rfl) ?_
    | refine then_normal ?_
    | refine then_exit ?_
    | refine then_ret ?_
    | refine DW_block ?_
    | refine blk_normal ?_
    | refine blk_ret ?_
    | refine blk_hit rfl ?_
    | refine blk_miss rfl ?_
    | refine loop_exit ?_
    | refine loop_ret ?_
    | refine DW_ret ?_
    | refine DW_exit ?_
    | refine DW_skip ?_
    | refine DW_cond_t rfl ?_
    | refine DW_cond_f rfl ?_
    | refine DW_cond rfl (fun hb => ?_) (fun hb => ?_)
    | (apply dpC rfl; case h => first | exact S_call ho rfl | (apply Pu.ok; repeat' (first | rfl | exact .inK (by simp only [InK]; omega) | exact .inK (by simp only [InK]; simp at hg; omega) | exact .wr | constructor | decide | omega)))
    | refine dpOff rfl rfl ?_
    | ((first | apply dp rfl | apply dpOn rfl rfl | apply dpMay rfl rfl (by first | exact fun _ => trivial | exact fun h => ⟨h, trivial⟩ | exact fun h => ⟨h, h, trivial⟩ | exact fun h => ⟨h, h, h, trivial⟩)); case h => ((try intro hg); first | exact as_bool (S_lss rfl rfl) (decide_eq_true (by omega : ((j + 1 : Nat) : Int) < ((l.map entV).length : Int))) | exact S_ixM rfl rfl (by omega) hx | exact S_ixM rfl rfl (by omega) hx2 | exact as_bool (S_gtr rfl rfl) (decide_eq_true (by omega : (0 : Int) < ((j + 1 : Nat) : Int))) | exact S_call ho rfl | (apply Pu.ok; repeat' (first | rfl | exact .inK (by simp only [InK]; omega) | exact .inK (by simp only [InK]; simp at hg; omega) | exact .wr | constructor | decide | omega))))
    | refine dpickAnd rfl rfl rfl rfl rfl ?_ | refine dpickOr rfl rfl rfl rfl rfl ?_
    | (apply dt rfl; case h => first | exact S_alloc _ rfl | exact S_box _ rfl rfl)
    | (apply ds; case h => first | exact S_store rfl rfl rfl rfl rfl rfl)
    | (apply dm rfl; case h => first | exact M_d rfl | exact S_alloc 2001 rfl | exact S_alloc 2002 rfl | exact S_alloc 2003 rfl | exact S_alloc 2004 rfl | exact S_alloc 2005 rfl)
    | fail)
      · simp only [Bool.or_eq_true, Bool.or_eq_false_iff, decide_eq_true_eq, decide_eq_false_iff_not] at hb
        rw [hw, if_pos (by unfold Ent.bad; omega)]
        refine retN (.cellA inferInstance rfl rfl rfl rfl (by first | exact .inl rfl | exact .inr (flat_of rfl)) .nil) ?_
        rfl
      · rename_i hb1
        simp only [Bool.or_eq_true, Bool.or_eq_false_iff, Bool.true_and, decide_eq_true_eq, decide_eq_false_iff_not] at hb hb1
        rw [hw, if_neg (by unfold Ent.bad; omega), if_pos (by simp only [Option.any_some, Bool.not_eq_true', decide_eq_false_iff_not]; rw [← hq]; omega)]
        refine retN (.cellA inferInstance rfl rfl rfl rfl (by first | exact .inl rfl | exact .inr (flat_of rfl)) .nil) ?_
        rfl
      · rename_i hb1
        simp only [Bool.or_eq_true, Bool.or_eq_false_iff, Bool.true_and, decide_eq_true_eq, decide_eq_false_iff_not] at hb hb1
        refine loop_again (j + 1 + 1) ⟨by omega, ?_⟩ (by omega) (Wk_gen some rfl rfl (by (repeat' (first | exact trivial | rfl | exact listLe_map _ | exact ⟨_, rfl, .inl rfl⟩ | exact ⟨_, rfl, .inr (.inl rfl)⟩ | exact ⟨_, rfl, .inr (.inr rfl)⟩ | refine ⟨_, _, rfl, rfl, ?_⟩ | exact ⟨_, rfl, rfl⟩ | exact ⟨_, _, _, _, rfl, rfl, rfl⟩ | exact ⟨_, rfl⟩ | exact ⟨_, _, rfl⟩ | apply And.intro))) (by (repeat' (first | exact trivial | rfl | exact listLe_map _ | exact ⟨_, rfl, .inl rfl⟩ | exact ⟨_, rfl, .inr (.inl rfl)⟩ | exact ⟨_, rfl, .inr (.inr rfl)⟩ | refine ⟨_, _, rfl, rfl, ?_⟩ | exact ⟨_, rfl, rfl⟩ | exact ⟨_, _, _, _, rfl, rfl, rfl⟩ | exact ⟨_, rfl⟩ | exact ⟨_, _, rfl⟩ | apply And.intro))))
        rw [hw, if_neg (by unfold Ent.bad; omega), if_neg (by simp only [Option.any_some, Bool.not_eq_true', decide_eq_false_iff_not, Classical.not_not]; rw [← hq]; omega), hlast]
  · repeat' (first
    | refine DW_seq ?_
    | refine DW_region ?_
    | refine DW_draw ?_
    | refine dnilP ?_
    | refine dnilD (by kernel_rfl) ?_
    | refine then_normal ?_
    | refine then_exit ?_
    | refine then_ret ?_
    | refine DW_block ?_
    | refine blk_normal ?_
    | refine blk_ret ?_
    | refine blk_hit rfl ?_
    | refine blk_miss rfl ?_
    | refine loop_exit ?_
    | refine loop_ret ?_
    | refine DW_ret ?_
    | refine DW_exit ?_
    | refine DW_skip ?_
    | refine DW_cond_t rfl ?_
    | refine DW_cond_f rfl ?_
    | (apply dpC rfl; case h => first | (apply Pu.ok; repeat' (first | rfl | exact .inK (by simp only [InK]; omega) | exact .inK (by simp only [InK]; simp at hg; omega) | exact .wr | constructor | decide | omega)))
    | refine dpOff rfl rfl ?_
    | ((first | apply dp rfl | apply dpOn rfl rfl | apply dpMay rfl rfl (by first | exact fun _ => trivial | exact fun h => ⟨h, trivial⟩ | exact fun h => ⟨h, h, trivial⟩ | exact fun h => ⟨h, h, h, trivial⟩)); case h => ((try intro hg); first | exact as_bool (S_lss rfl rfl) (decide_eq_false (by omega : ¬ (k : Int) < ((l.map entV).length : Int))) | (apply Pu.ok; repeat' (first | rfl | exact .inK (by simp only [InK]; omega) | exact .inK (by simp only [InK]; simp at hg; omega) | exact .wr | constructor | decide | omega))))
    | refine dpickAnd rfl rfl rfl rfl rfl ?_ | refine dpickOr rfl rfl rfl rfl rfl ?_
    | (apply dt rfl; case h => first | exact S_alloc _ rfl | exact S_box _ rfl rfl)
    | (apply ds; case h => first | exact S_store rfl rfl rfl rfl rfl rfl)
    | (apply dm rfl; case h => first | exact M_d rfl | exact S_alloc 2001 rfl | exact S_alloc 2002 rfl | exact S_alloc 2003 rfl | exact S_alloc 2004 rfl | exact S_alloc 2005 rfl)
    | fail)
    rw [hw, List.drop_eq_nil_of_le (by omega)]
    refine retN (.cellA inferInstance rfl rfl rfl rfl (by first | exact .inl rfl | exact .inr (flat_of rfl)) .nil) ?_
    rfl
set_option maxHeartbeats 1000000 in
theorem book_Old (l : List Ent) (later : Int) (hb : ∀ e ∈ l, 0 ≤ e.age ∧ e.age ≤ 300) (hl : l.length ≤ 4194304) : FnF Try.prog 20 [.slice (l.map entV), .int .i64 later] (.slice ((oldL l later).map entV)) := by
  refine fnF_of Try.func20 rfl rfl rfl ?_
  simp only [envOf]
  have hml : (l.map entV).length = l.length := by simp
  repeat' (first
    | refine DW_seq ?_
    | refine DW_region ?_
    | refine DW_draw ?_
    | refine dnilP ?_
    | refine dnilD (by kernel_rfl) ?_
    | refine then_normal ?_
    | refine then_exit ?_
    | refine then_ret ?_
    | refine DW_block ?_
    | refine blk_normal ?_
    | refine blk_ret ?_
    | refine blk_hit rfl ?_
    | refine blk_miss rfl ?_
    | refine loop_exit ?_
    | refine loop_ret ?_
    | refine DW_ret ?_
    | refine DW_exit ?_
    | refine DW_skip ?_
    | refine DW_cond_t rfl ?_
    | refine DW_cond_f rfl ?_
    | (apply dpC rfl; case h => first | (apply Pu.ok; repeat' (first | rfl | exact .inK (by simp only [InK]; omega) | exact .inK (by simp only [InK]; simp at hg; omega) | exact .wr | constructor | decide | omega)))
    | refine dpOff rfl rfl ?_
    | ((first | apply dp rfl | apply dpOn rfl rfl | apply dpMay rfl rfl (by first | exact fun _ => trivial | exact fun h => ⟨h, trivial⟩ | exact fun h => ⟨h, h, trivial⟩ | exact fun h => ⟨h, h, h, trivial⟩)); case h => ((try intro hg); first | (apply Pu.ok; repeat' (first | rfl | exact .inK (by simp only [InK]; omega) | exact .inK (by simp only [InK]; simp at hg; omega) | exact .wr | constructor | decide | omega))))
    | refine dpickAnd rfl rfl rfl rfl rfl ?_ | refine dpickOr rfl rfl rfl rfl rfl ?_
    | (apply dt rfl; case h => first | exact S_alloc _ rfl | exact S_box _ rfl rfl)
    | (apply ds; case h => first | exact S_store rfl rfl rfl rfl rfl rfl)
    | (apply dm rfl; case h => first | exact M_d rfl | exact S_alloc 2001 rfl | exact S_alloc 2002 rfl | exact S_alloc 2003 rfl | exact S_alloc 2004 rfl | exact S_alloc 2005 rfl)
    | fail)
  refine DW_loop (fun p : Nat × List Ent => ⟨[(1, .dat false (.int .i64 later)), (5, .own 31 0 0 p.2.length), (8, .dat false (.slice (l.map entV))), (9, .dat true (.int .i64 (l.map entV).length)), (10, .dat true (.int .i64 p.1))], [(31, .row 0 false true 4 (p.2.map entV))], 34⟩)
    (fun p => p.1 ≤ l.length ∧ p.2 = oldL (l.take p.1) later) (fun p => l.length - p.1) (0, []) ⟨Nat.zero_le _, rfl⟩
    (Wk_gen (fun g => if g = 31 then none else some g) rfl rfl (by (repeat' (first | exact trivial | rfl | exact listLe_map _ | exact ⟨_, rfl, .inl rfl⟩ | exact ⟨_, rfl, .inr (.inl rfl)⟩ | exact ⟨_, rfl, .inr (.inr rfl)⟩ | refine ⟨_, _, rfl, rfl, ?_⟩ | exact ⟨_, rfl, rfl⟩ | exact ⟨_, _, _, _, rfl, rfl, rfl⟩ | exact ⟨_, rfl⟩ | exact ⟨_, _, rfl⟩ | apply And.intro))) (by (repeat' (first | exact trivial | rfl | exact listLe_map _ | exact ⟨_, rfl, .inl rfl⟩ | exact ⟨_, rfl, .inr (.inl rfl)⟩ | exact ⟨_, rfl, .inr (.inr rfl)⟩ | refine ⟨_, _, rfl, rfl, ?_⟩ | exact ⟨_, rfl, rfl⟩ | exact ⟨_, _, _, _, rfl, rfl, rfl⟩ | exact ⟨_, rfl⟩ | exact ⟨_, _, rfl⟩ | apply And.intro)))) (fun p hR => ?_)
  obtain ⟨k, r⟩ := p
  obtain ⟨hk, hr⟩ := hR
  simp only at hk hr
  dsimp only
  have hrl : r.length ≤ 4194304 := by
    rw [hr]
    have := List.length_filterMap_le (fun e : Ent => e.old later) (l.take k)
    unfold oldL
    simp only [List.length_take] at this
    omega
  by_cases hlt : k < l.length
  · have hx : l[(k : Int).toNat]? = some l[k] := by simp [hlt]
    have hmem : l[k] ∈ l := List.getElem_mem hlt
    have hn : oldL (l.take (k + 1)) later = oldL (l.take k) later ++ (l[k].old later).toList := by
      unfold oldL
      rw [List.take_succ_eq_append_getElem hlt, List.filterMap_append]
      cases h : l[k].old later <;> simp [h]
    generalize l[k] = e at hx hmem hn
    have ha := hb e hmem
    unfold Ent.old at hn
    by_cases h0 : 0 ≤ later
    · by_cases h3 : later ≤ 300 - e.age
      · rw [if_pos ⟨h0, h3⟩] at hn
        repeat' (first
    | refine DW_seq ?_
    | refine DW_region ?_
    | refine DW_draw ?_
    | refine dnilP ?_
    | refine dnilD (by kernel_rfl) ?_
    | refine then_normal ?_
    | refine then_exit ?_
    | refine then_ret ?_
    | refine DW_block ?_
    | refine blk_normal ?_
    | refine blk_ret ?_
    | refine blk_hit rfl ?_
    | refine blk_miss rfl ?_
    | refine loop_exit ?_
    | refine loop_ret ?_
    | refine DW_ret ?_
    | refine DW_exit ?_
    | refine DW_skip ?_
    | refine DW_cond_t rfl ?_
    | refine DW_cond_f rfl ?_
    | (apply dpC rfl; case h => first | (apply Pu.ok; repeat' (first | rfl | exact .inK (by simp only [InK]; omega) | exact .inK (by simp only [InK]; simp at hg; omega) | exact .wr | constructor | decide | omega)))
    | (apply dmC rfl; case h => first | exact S_appM (f := entV) (us := r) (bs := [{ e with age := e.age + later }]) rfl rfl (.dat _ _) rfl rfl (.inr ⟨rfl, inferInstance⟩) rfl (by simp only [List.length_cons, List.length_nil]; omega))
    | refine dpOff rfl rfl ?_
    | (apply dmOn rfl rfl; case h => first | exact S_appM (f := entV) (us := r) (bs := [{ e with age := e.age + later }]) rfl rfl (.dat _ _) rfl rfl (.inr ⟨rfl, inferInstance⟩) rfl (by simp only [List.length_cons, List.length_nil]; omega))
    | ((first | apply dp rfl | apply dpOn rfl rfl | apply dpMay rfl rfl (by first | exact fun _ => trivial | exact fun h => ⟨h, trivial⟩ | exact fun h => ⟨h, h, trivial⟩ | exact fun h => ⟨h, h, h, trivial⟩)); case h => ((try intro hg); first | exact as_bool (S_lss rfl rfl) (decide_eq_true (by omega : (k : Int) < ((l.map entV).length : Int))) | exact S_ixM rfl rfl (by omega) hx | exact as_bool (S_geq rfl rfl) (decide_eq_true h0) | exact as_bool (S_leq rfl rfl) (decide_eq_true h3) | exact S_appM (f := entV) (us := r) (bs := [{ e with age := e.age + later }]) rfl rfl (.dat _ _) rfl rfl (.inr ⟨rfl, inferInstance⟩) rfl (by simp only [List.length_cons, List.length_nil]; omega) | (apply Pu.ok; repeat' (first | rfl | exact .inK (by simp only [InK]; omega) | exact .inK (by simp only [InK]; simp at hg; omega) | exact .wr | constructor | decide | omega))))
    | refine dpickAnd rfl rfl rfl rfl rfl ?_ | refine dpickOr rfl rfl rfl rfl rfl ?_
    | (apply dt rfl; case h => first | exact S_alloc _ rfl | exact S_box _ rfl rfl)
    | (apply ds; case h => first | exact S_store rfl rfl rfl rfl rfl rfl)
    | (apply dm rfl; case h => first | exact M_d rfl | exact S_alloc 2001 rfl | exact S_alloc 2002 rfl | exact S_alloc 2003 rfl | exact S_alloc 2004 rfl | exact S_alloc 2005 rfl)
    | fail)
        exact loop_again (k + 1, r ++ [{ e with age := e.age + later }]) ⟨hlt, by simp only; rw [hn, hr]; rfl⟩ (by simp only; omega) (Wk_gen some rfl rfl (by (repeat' (first | exact trivial | rfl | exact listLe_map _ | exact ⟨_, rfl, .inl rfl⟩ | exact ⟨_, rfl, .inr (.inl rfl)⟩ | exact ⟨_, rfl, .inr (.inr rfl)⟩ | refine ⟨_, _, rfl, rfl, ?_⟩ | exact ⟨_, rfl, rfl⟩ | exact ⟨_, _, _, _, rfl, rfl, rfl⟩ | exact ⟨_, rfl⟩ | exact ⟨_, _, rfl⟩ | apply And.intro))) (by (repeat' (first | exact trivial | rfl | exact listLe_map _ | exact ⟨_, rfl, .inl rfl⟩ | exact ⟨_, rfl, .inr (.inl rfl)⟩ | exact ⟨_, rfl, .inr (.inr rfl)⟩ | refine ⟨_, _, rfl, rfl, ?_⟩ | exact ⟨_, rfl, rfl⟩ | exact ⟨_, _, _, _, rfl, rfl, rfl⟩ | exact ⟨_, rfl⟩ | exact ⟨_, _, rfl⟩ | apply And.intro))))
      · rw [if_neg (fun h => h3 h.2)] at hn
        repeat' (first
    | refine DW_seq ?_
    | refine DW_region ?_
    | refine DW_draw ?_
    | refine dnilP ?_
    | refine dnilD (by kernel_rfl) ?_
    | refine then_normal ?_
    | refine then_exit ?_
    | refine then_ret ?_
    | refine DW_block ?_
    | refine blk_normal ?_
    | refine blk_ret ?_
    | refine blk_hit rfl ?_
    | refine blk_miss rfl ?_
    | refine loop_exit ?_
    | refine loop_ret ?_
    | refine DW_ret ?_
    | refine DW_exit ?_
    | refine DW_skip ?_
    | refine DW_cond_t rfl ?_
    | refine DW_cond_f rfl ?_
    | (apply dpC rfl; case h => first | (apply Pu.ok; repeat' (first | rfl | exact .inK (by simp only [InK]; omega) | exact .inK (by simp only [InK]; simp at hg; omega) | exact .wr | constructor | decide | omega)))
    | refine dpOff rfl rfl ?_
    | ((first | apply dp rfl | apply dpOn rfl rfl | apply dpMay rfl rfl (by first | exact fun _ => trivial | exact fun h => ⟨h, trivial⟩ | exact fun h => ⟨h, h, trivial⟩ | exact fun h => ⟨h, h, h, trivial⟩)); case h => ((try intro hg); first | exact as_bool (S_lss rfl rfl) (decide_eq_true (by omega : (k : Int) < ((l.map entV).length : Int))) | exact S_ixM rfl rfl (by omega) hx | exact as_bool (S_geq rfl rfl) (decide_eq_true h0) | exact as_bool (S_leq rfl rfl) (decide_eq_false h3) | (apply Pu.ok; repeat' (first | rfl | exact .inK (by simp only [InK]; omega) | exact .inK (by simp only [InK]; simp at hg; omega) | exact .wr | constructor | decide | omega))))
    | refine dpickAnd rfl rfl rfl rfl rfl ?_ | refine dpickOr rfl rfl rfl rfl rfl ?_
    | (apply dt rfl; case h => first | exact S_alloc _ rfl | exact S_box _ rfl rfl)
    | (apply ds; case h => first | exact S_store rfl rfl rfl rfl rfl rfl)
    | (apply dm rfl; case h => first | exact M_d rfl | exact S_alloc 2001 rfl | exact S_alloc 2002 rfl | exact S_alloc 2003 rfl | exact S_alloc 2004 rfl | exact S_alloc 2005 rfl)
    | fail)
        exact loop_again (k + 1, r) ⟨hlt, by simp only; rw [hn, hr]; simp⟩ (by simp only; omega) (Wk_gen some rfl rfl (by (repeat' (first | exact trivial | rfl | exact listLe_map _ | exact ⟨_, rfl, .inl rfl⟩ | exact ⟨_, rfl, .inr (.inl rfl)⟩ | exact ⟨_, rfl, .inr (.inr rfl)⟩ | refine ⟨_, _, rfl, rfl, ?_⟩ | exact ⟨_, rfl, rfl⟩ | exact ⟨_, _, _, _, rfl, rfl, rfl⟩ | exact ⟨_, rfl⟩ | exact ⟨_, _, rfl⟩ | apply And.intro))) (by (repeat' (first | exact trivial | rfl | exact listLe_map _ | exact ⟨_, rfl, .inl rfl⟩ | exact ⟨_, rfl, .inr (.inl rfl)⟩ | exact ⟨_, rfl, .inr (.inr rfl)⟩ | refine ⟨_, _, rfl, rfl, ?_⟩ | exact ⟨_, rfl, rfl⟩ | exact ⟨_, _, _, _, rfl, rfl, rfl⟩ | exact ⟨_, rfl⟩ | exact ⟨_, _, rfl⟩ | apply And.intro))))
    · rw [if_neg (fun h => h0 h.1)] at hn
      repeat' (first
    | refine DW_seq ?_
    | refine DW_region ?_
    | refine DW_draw ?_
    | refine dnilP ?_
    | refine dnilD (by kernel_rfl) ?_
    | refine then_normal ?_
    | refine then_exit ?_
    | refine then_ret ?_
    | refine DW_block ?_
    | refine blk_normal ?_
    | refine blk_ret ?_
    | refine blk_hit rfl ?_
    | refine blk_miss rfl ?_
    | refine loop_exit ?_
    | refine loop_ret ?_
    | refine DW_ret ?_
    | refine DW_exit ?_
    | refine DW_skip ?_
    | refine DW_cond_t rfl ?_
    | refine DW_cond_f rfl ?_
    | (apply dpC rfl; case h => first | (apply Pu.ok; repeat' (first | rfl | exact .inK (by simp only [InK]; omega) | exact .inK (by simp only [InK]; simp at hg; omega) | exact .wr | constructor | decide | omega)))
    | refine dpOff rfl rfl ?_
    | ((first | apply dp rfl | apply dpOn rfl rfl | apply dpMay rfl rfl (by first | exact fun _ => trivial | exact fun h => ⟨h, trivial⟩ | exact fun h => ⟨h, h, trivial⟩ | exact fun h => ⟨h, h, h, trivial⟩)); case h => ((try intro hg); first | exact as_bool (S_lss rfl rfl) (decide_eq_true (by omega : (k : Int) < ((l.map entV).length : Int))) | exact S_ixM rfl rfl (by omega) hx | exact as_bool (S_geq rfl rfl) (decide_eq_false h0) | (apply Pu.ok; repeat' (first | rfl | exact .inK (by simp only [InK]; omega) | exact .inK (by simp only [InK]; simp at hg; omega) | exact .wr | constructor | decide | omega))))
    | refine dpickAnd rfl rfl rfl rfl rfl ?_ | refine dpickOr rfl rfl rfl rfl rfl ?_
    | (apply dt rfl; case h => first | exact S_alloc _ rfl | exact S_box _ rfl rfl)
    | (apply ds; case h => first | exact S_store rfl rfl rfl rfl rfl rfl)
    | (apply dm rfl; case h => first | exact M_d rfl | exact S_alloc 2001 rfl | exact S_alloc 2002 rfl | exact S_alloc 2003 rfl | exact S_alloc 2004 rfl | exact S_alloc 2005 rfl)
    | fail)
      exact loop_again (k + 1, r) ⟨hlt, by simp only; rw [hn, hr]; simp⟩ (by simp only; omega) (Wk_gen some rfl rfl (by (repeat' (first | exact trivial | rfl | exact listLe_map _ | exact ⟨_, rfl, .inl rfl⟩ | exact ⟨_, rfl, .inr (.inl rfl)⟩ | exact ⟨_, rfl, .inr (.inr rfl)⟩ | refine ⟨_, _, rfl, rfl, ?_⟩ | exact ⟨_, rfl, rfl⟩ | exact ⟨_, _, _, _, rfl, rfl, rfl⟩ | exact ⟨_, rfl⟩ | exact ⟨_, _, rfl⟩ | apply And.intro))) (by (repeat' (first | exact trivial | rfl | exact listLe_map _ | exact ⟨_, rfl, .inl rfl⟩ | exact ⟨_, rfl, .inr (.inl rfl)⟩ | exact ⟨_, rfl, .inr (.inr rfl)⟩ | refine ⟨_, _, rfl, rfl, ?_⟩ | exact ⟨_, rfl, rfl⟩ | exact ⟨_, _, _, _, rfl, rfl, rfl⟩ | exact ⟨_, rfl⟩ | exact ⟨_, _, rfl⟩ | apply And.intro))))
  · repeat' (first
    | (refine DW_seal 4 rfl rfl (by simp) ?_; refine DW_ret ?_)
    | refine DW_seq ?_
    | refine DW_region ?_
    | refine DW_draw ?_
    | refine dnilP ?_
    | refine dnilD (by kernel_rfl) ?_
    | refine then_normal ?_
    | refine then_exit ?_
    | refine then_ret ?_
    | refine DW_block ?_
    | refine blk_normal ?_
    | refine blk_ret ?_
    | refine blk_hit rfl ?_
    | refine blk_miss rfl ?_
    | refine loop_exit ?_
    | refine loop_ret ?_
    | refine DW_ret ?_
    | refine DW_exit ?_
    | refine DW_skip ?_
    | refine DW_cond_t rfl ?_
    | refine DW_cond_f rfl ?_
    | (apply dpC rfl; case h => first | (apply Pu.ok; repeat' (first | rfl | exact .inK (by simp only [InK]; omega) | exact .inK (by simp only [InK]; simp at hg; omega) | exact .wr | constructor | decide | omega)))
    | refine dpOff rfl rfl ?_
    | ((first | apply dp rfl | apply dpOn rfl rfl | apply dpMay rfl rfl (by first | exact fun _ => trivial | exact fun h => ⟨h, trivial⟩ | exact fun h => ⟨h, h, trivial⟩ | exact fun h => ⟨h, h, h, trivial⟩)); case h => ((try intro hg); first | exact as_bool (S_lss rfl rfl) (decide_eq_false (by omega : ¬ (k : Int) < ((l.map entV).length : Int))) | (apply Pu.ok; repeat' (first | rfl | exact .inK (by simp only [InK]; omega) | exact .inK (by simp only [InK]; simp at hg; omega) | exact .wr | constructor | decide | omega))))
    | refine dpickAnd rfl rfl rfl rfl rfl ?_ | refine dpickOr rfl rfl rfl rfl rfl ?_
    | (apply dt rfl; case h => first | exact S_alloc _ rfl | exact S_box _ rfl rfl)
    | (apply ds; case h => first | exact S_store rfl rfl rfl rfl rfl rfl)
    | (apply dm rfl; case h => first | exact M_d rfl | exact S_alloc 2001 rfl | exact S_alloc 2002 rfl | exact S_alloc 2003 rfl | exact S_alloc 2004 rfl | exact S_alloc 2005 rfl)
    | fail)
    refine ret1 rfl (.inl rfl) ?_
    rw [List.take_of_length_le (by omega)] at hr
    rw [hr]
end Go.Proofs.Ytpdoplmnedpdaaa
