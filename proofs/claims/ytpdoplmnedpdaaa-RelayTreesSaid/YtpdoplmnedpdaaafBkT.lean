/- The laws BookTwice, BookLearns. -/
import Derived.Test.YtpdoplmnedpdaaafBkO
import Derived.Test.YtpdoplmnedpdaaacBkL
namespace Go.Proofs.Ytpdoplmnedpdaaa
open Go.RowKit
theorem and_oneB {x : Int} (h0 : 0 ≤ x) (h1 : x < 18446744073709551616) : IntKind.u64.andI x 1 = x % 2 := by
  obtain ⟨n, rfl⟩ := Int.eq_ofNat_of_zero_le h0
  unfold IntKind.andI
  have hb : IntKind.u64.bits = 64 := rfl
  have e1 : (BitVec.ofInt 64 (n : Int) &&& BitVec.ofInt 64 1).toNat = n % 2 := by
    rw [BitVec.toNat_and]
    have q1 : (BitVec.ofInt 64 (n : Int)).toNat = n := by
      rw [BitVec.toNat_ofInt]
      omega
    have q2 : (BitVec.ofInt 64 (1 : Int)).toNat = 1 := rfl
    rw [q1, q2, Nat.and_one_is_mod]
  rw [hb, e1]
  have : IntKind.u64.wrap ((n % 2 : Nat) : Int) = ((n % 2 : Nat) : Int) := wrap_in (by simp only [InK]; omega)
  rw [this]
  omega
theorem group_shr {a : Int} (h0 : 0 ≤ a) (h1 : a ≤ 18446744073709551615) : IntKind.u64.andI (IntKind.u64.shrI a 40) 1 = a / 1099511627776 % 2 := by
  have e : (2 : Int) ^ (min (40 : Int).toNat IntKind.u64.bits) = 1099511627776 := by decide
  have hs : IntKind.u64.shrI a 40 = a / 1099511627776 := by
    unfold IntKind.shrI
    rw [e, Int.fdiv_eq_ediv_of_nonneg _ (by decide)]
  rw [hs]
  exact and_oneB (by omega) (by omega)
theorem group_not {a : Int} (h0 : 0 ≤ a) (h1 : a ≤ 18446744073709551615) : decide (IntKind.u64.andI (IntKind.u64.shrI a 40) 1 = 0) = !isGroup a := by
  unfold isGroup
  rw [group_shr h0 h1]
  by_cases h : a / 1099511627776 % 2 = 0
  · rw [decide_eq_true h, decide_eq_false (by omega)]; rfl
  · rw [decide_eq_false h, decide_eq_true (by omega)]; rfl
attribute [local irreducible] SStep DW DWin DOps thenQ inBlk loopQ retQ retQG FnF FnG Wk IntKind.wrap IntKind.andI IntKind.orI IntKind.xorI IntKind.andNotI IntKind.shlI IntKind.shrI Ent.cmp bsG wrongB oldL learnL lookS lookE
theorem book_Look2 {l : List Ent} (h : rightB l) (v a : Int) : FnF Try.prog 18 [.slice (l.map entV), .int .i64 v, .int .u64 a] (.tuple [.int .i64 (lookS l v a).1, .bool (lookS l v a).2]) := by
  rw [← look_eq h.s]
  exact book_Look l v a (by have := h.n; omega)
theorem book_WrongR {l : List Ent} (h : rightB l) : FnF Try.prog 16 [.slice (l.map entV)] (.agg [.int .i64 0, .int .i64 0]) := by
  have := book_Wrong l
  rw [right_w h] at this
  exact this
set_option maxHeartbeats 2000000 in
theorem law_BookTwice (l : List Ent) (v a p q : Int) : FnF Try.prog 5 [.slice (l.map entV), .int .i64 v, .int .u64 a, .int .i64 p, .int .i64 q] (.bool true) := by
  refine fnF_of Try.func5 rfl rfl rfl ?_
  simp only [envOf]
  have hW : FnF Try.prog 16 [.slice (l.map entV)] (.agg [.int .i64 (wrongB l).1, .int .i64 (wrongB l).2]) := book_Wrong l
  repeat' (first
    | refine DW_seq ?_
    | refine DW_region ?_
    | refine DW_draw ?_
    | refine dnilP ?_
    | refine dnilD (by kernel_rfl) ?_
    | refine then_normal ?_
    | refine then_exit ?_
    | refine then_ret ?_
    | refine DW_block ?_
    | refine blk_normal ?_
    | refine blk_ret ?_
    | refine blk_hit rfl ?_
    | refine blk_miss rfl ?_
    | refine loop_exit ?_
    | refine loop_ret ?_
    | refine DW_ret ?_
    | refine DW_exit ?_
    | refine DW_skip ?_
    | refine DW_cond_t rfl ?_
    | refine DW_cond_f rfl ?_
    | refine DW_cond rfl (fun hb => ?_) (fun hb => ?_)
    | (apply dpC rfl; case h => first | exact S_call alive8 rfl | exact S_call hW rfl | (apply Pu.ok; repeat' (first | rfl | exact .inK (by simp only [InK]; omega) | exact .inK (by simp only [InK]; simp at hg; omega) | exact .wr | constructor | decide | omega)))
    | refine dpOff rfl rfl ?_
    | ((first | apply dp rfl | apply dpOn rfl rfl | apply dpMay rfl rfl (by first | exact fun _ => trivial | exact fun h => ⟨h, trivial⟩ | exact fun h => ⟨h, h, trivial⟩ | exact fun h => ⟨h, h, h, trivial⟩)); case h => ((try intro hg); first | exact S_call alive8 rfl | exact S_call hW rfl | (apply Pu.ok; repeat' (first | rfl | exact .inK (by simp only [InK]; omega) | exact .inK (by simp only [InK]; simp at hg; omega) | exact .wr | constructor | decide | omega))))
    | refine dpickAnd rfl rfl rfl rfl rfl ?_ | refine dpickOr rfl rfl rfl rfl rfl ?_
    | (apply dt rfl; case h => first | exact S_alloc _ rfl | exact S_box _ rfl rfl)
    | (apply ds; case h => first | exact S_store rfl rfl rfl rfl rfl rfl)
    | (apply dm rfl; case h => first | exact M_d rfl | exact S_alloc 2001 rfl | exact S_alloc 2002 rfl | exact S_alloc 2003 rfl | exact S_alloc 2004 rfl | exact S_alloc 2005 rfl)
    | fail)
  · exact ret1 rfl (.inl rfl) rfl
  · simp only [Bool.or_eq_false_iff, decide_eq_false_iff_not, Classical.not_not] at hb
    have hr := right_of hb.1.1.1.1
    have h30 := hr.n
    have hq : putsB v a p = putsB v a q := by
      unfold putsB
      rw [decide_eq_false (by omega : ¬ p < 0), decide_eq_false (by omega : ¬ 30 < p), decide_eq_false (by omega : ¬ q < 0), decide_eq_false (by omega : ¬ 30 < q)]
    have c1 := book_Learn l v a p (by omega)
    have c2 := book_Learn (learnL l v a p) v a q (by have := (learn_right (v := v) (a := a) (p := p) hr).1.n; omega)
    have c3 := book_Learn l v a q (by omega)
    have c4 := book_Learn (learnL l v a q) v a q (by have := (learn_right (v := v) (a := a) (p := q) hr).1.n; omega)
    rw [learn_twice hr.s hq] at c2
    rw [learn_twice hr.s rfl] at c4
    have s1 := ref8_Same (learnL l v a q)
    repeat' (first
    | refine DW_seq ?_
    | refine DW_region ?_
    | refine DW_draw ?_
    | refine dnilP ?_
    | refine dnilD (by kernel_rfl) ?_
    | refine then_normal ?_
    | refine then_exit ?_
    | refine then_ret ?_
    | refine DW_block ?_
    | refine blk_normal ?_
    | refine blk_ret ?_
    | refine blk_hit rfl ?_
    | refine blk_miss rfl ?_
    | refine loop_exit ?_
    | refine loop_ret ?_
    | refine DW_ret ?_
    | refine DW_exit ?_
    | refine DW_skip ?_
    | refine DW_cond_t rfl ?_
    | refine DW_cond_f rfl ?_
    | (apply dpC rfl; case h => first | exact S_call c1 rfl | exact S_call c2 rfl | exact S_call c3 rfl | exact S_call c4 rfl | exact S_call s1 rfl | (apply Pu.ok; repeat' (first | rfl | exact .inK (by simp only [InK]; omega) | exact .inK (by simp only [InK]; simp at hg; omega) | exact .wr | constructor | decide | omega)))
    | refine dpOff rfl rfl ?_
    | ((first | apply dp rfl | apply dpOn rfl rfl | apply dpMay rfl rfl (by first | exact fun _ => trivial | exact fun h => ⟨h, trivial⟩ | exact fun h => ⟨h, h, trivial⟩ | exact fun h => ⟨h, h, h, trivial⟩)); case h => ((try intro hg); first | exact S_call c1 rfl | exact S_call c2 rfl | exact S_call c3 rfl | exact S_call c4 rfl | exact S_call s1 rfl | (apply Pu.ok; repeat' (first | rfl | exact .inK (by simp only [InK]; omega) | exact .inK (by simp only [InK]; simp at hg; omega) | exact .wr | constructor | decide | omega))))
    | refine dpickAnd rfl rfl rfl rfl rfl ?_ | refine dpickOr rfl rfl rfl rfl rfl ?_
    | (apply dt rfl; case h => first | exact S_alloc _ rfl | exact S_box _ rfl rfl)
    | (apply ds; case h => first | exact S_store rfl rfl rfl rfl rfl rfl)
    | (apply dm rfl; case h => first | exact M_d rfl | exact S_alloc 2001 rfl | exact S_alloc 2002 rfl | exact S_alloc 2003 rfl | exact S_alloc 2004 rfl | exact S_alloc 2005 rfl)
    | fail)
    exact ret1 rfl (.inl rfl) rfl
end Go.Proofs.Ytpdoplmnedpdaaa
