/- The law BookLearns. -/
import Derived.Test.YtpdoplmnedpdaaafBkT
namespace Go.Proofs.Ytpdoplmnedpdaaa
open Go.RowKit
theorem learn_bad {L M : Int × Bool} {n : Nat} {len p : Int} (hl : len = (n : Int)) (hk : (L.2 = true ∨ n < 30) → M = (p, true)) (hb : ((L.2 || decide (len < 30)) && (!M.2 || decide (M.1 ≠ p)) || !true && !true) = true) : False := by
  simp only [Bool.not_true, Bool.and_self, Bool.and_false, Bool.or_false, Bool.and_eq_true, Bool.or_eq_true, Bool.not_eq_true', decide_eq_true_eq] at hb
  obtain ⟨h1, h2⟩ := hb
  have h3 := hk (h1.imp id (fun h => by omega))
  rw [h3] at h2
  simp at h2
attribute [local irreducible] SStep DW DWin DOps thenQ inBlk loopQ retQ retQG FnF FnG Wk IntKind.wrap IntKind.andI IntKind.orI IntKind.xorI IntKind.andNotI IntKind.shlI IntKind.shrI Ent.cmp bsG wrongB oldL learnL lookS lookE
set_option maxHeartbeats 4000000 in
theorem law_BookLearns (l : List Ent) (v a p o : Int) (ha : 0 ≤ a ∧ a ≤ 18446744073709551615) : FnF Try.prog 3 [.slice (l.map entV), .int .i64 v, .int .u64 a, .int .i64 p, .int .u64 o] (.bool true) := by
  refine fnF_of Try.func3 rfl rfl rfl ?_
  simp only [envOf]
  have hW : FnF Try.prog 16 [.slice (l.map entV)] (.agg [.int .i64 (wrongB l).1, .int .i64 (wrongB l).2]) := book_Wrong l
  by_cases hw : (wrongB l).1 = 0
  case neg =>
    repeat' (first
    | refine DW_seq ?_
    | refine DW_region ?_
    | refine DW_draw ?_
    | refine dnilP ?_
    | refine dnilD (by kernel_rfl) ?_
    | refine then_normal ?_
    | refine then_exit ?_
    | refine then_ret ?_
    | refine DW_block ?_
    | refine blk_normal ?_
    | refine blk_ret ?_
    | refine blk_hit rfl ?_
    | refine blk_miss rfl ?_
    | refine loop_exit ?_
    | refine loop_ret ?_
    | refine DW_ret ?_
    | refine DW_exit ?_
    | refine DW_skip ?_
    | refine DW_cond_t rfl ?_
    | refine DW_cond_f rfl ?_
    | (apply dpC rfl; case h => first | exact S_call alive8 rfl | exact S_call hW rfl | exact S_len_slice rfl | exact S_len_own rfl rfl | exact S_len_str rfl | exact S_len_nil rfl | exact S_min rfl rfl | exact S_max rfl rfl)
    | refine dpOff rfl rfl ?_
    | ((first | apply dp rfl | apply dpOn rfl rfl | apply dpMay rfl rfl (by first | exact fun _ => trivial | exact fun h => ⟨h, trivial⟩ | exact fun h => ⟨h, h, trivial⟩ | exact fun h => ⟨h, h, h, trivial⟩ | exact fun h => ⟨h, h, h, h, trivial⟩)); case h => ((try intro hg); first | exact as_bool (S_neq rfl rfl) (decide_eq_true hw) | exact M_d rfl | exact M_p rfl | exact M_o rfl | exact M_n rfl | exact M_r rfl | exact M_a rfl | exact M_m rfl | exact A_d rfl | exact A_p rfl | exact A_o rfl | exact A_n rfl | exact A_r rfl | exact A_a rfl | exact A_m rfl | exact S_load_rp rfl rfl | exact S_load_ptr rfl rfl rfl | exact S_load_ptrs rfl rfl rfl | exact S_fieldAddr_rp rfl rfl | exact S_fieldAddr_ptr rfl rfl | exact S_fieldAddr_rptr rfl rfl rfl | exact S_field rfl rfl | exact S_lss rfl rfl | exact S_leq rfl rfl | exact S_gtr rfl rfl | exact S_geq rfl rfl | exact S_eql rfl rfl | exact S_neq rfl rfl | exact S_not rfl | exact S_pick_T rfl rfl | exact S_pick_F rfl rfl | exact S_pick_and rfl rfl rfl | exact S_pick_or rfl rfl rfl | exact I_add rfl rfl (by simp only [InK]; omega) | exact I_add rfl rfl (by simp only [InK]; simp at hg; omega) | exact S_add rfl rfl | exact I_sub rfl rfl (by simp only [InK]; omega) | exact I_sub rfl rfl (by simp only [InK]; simp at hg; omega) | exact S_sub rfl rfl | exact I_mul rfl rfl (by simp only [InK]; omega) | exact S_mul rfl rfl | exact S_quo rfl rfl (by decide) | exact S_rem rfl rfl (by decide) | exact S_extract rfl rfl | exact I_toInt rfl (by simp only [InK]; omega) | exact W_toInt rfl | exact S_eqlb (BoolI.out) rfl rfl | exact S_neqb (BoolI.out) rfl rfl | exact S_eqls rfl rfl | exact S_eqlA rfl rfl rfl rfl rfl | exact S_neqA rfl rfl rfl rfl rfl | exact S_neqs rfl rfl | exact S_and rfl rfl | exact S_or rfl rfl | exact S_xor rfl rfl | exact S_andNot rfl rfl | exact S_shl rfl rfl (by omega) | exact S_shr rfl rfl (by omega) | exact S_nilCheck_ptr rfl | exact S_nilCheck_rp rfl | exact S_nilCheck_fn rfl | exact S_build rfl | exact S_buildA rfl | exact S_lit rfl rfl rfl rfl | exact S_load_rptr rfl rfl rfl rfl | exact S_field_aggd rfl rfl | exact S_makeFunc rfl | exact S_eqNilT rfl | exact S_ix_slice rfl rfl (by decide) rfl rfl | exact S_ix_arr_ptr rfl rfl (by decide) (by decide) | exact S_index_aggd rfl rfl (by decide) (by decide) rfl | exact S_call alive8 rfl | exact S_call hW rfl | exact S_len_slice rfl | exact S_len_own rfl rfl | exact S_len_str rfl | exact S_len_nil rfl | exact S_min rfl rfl | exact S_max rfl rfl))
    | refine dpickAnd rfl rfl rfl rfl rfl ?_ | refine dpickOr rfl rfl rfl rfl rfl ?_
    | (apply dt rfl; case h => first | exact as_bool (S_neq rfl rfl) (decide_eq_true hw) | exact S_alloc _ rfl | exact S_box _ rfl rfl)
    | (apply ds; case h => first | exact as_bool (S_neq rfl rfl) (decide_eq_true hw) | exact S_store rfl rfl rfl rfl rfl rfl)
    | (apply dm rfl; case h => first | exact as_bool (S_neq rfl rfl) (decide_eq_true hw) | exact M_d rfl | exact S_alloc 2001 rfl | exact S_alloc 2002 rfl | exact S_alloc 2003 rfl | exact S_alloc 2004 rfl | exact S_alloc 2005 rfl)
    | fail)
    exact ret1 rfl (.inl rfl) rfl
  have hr := right_of hw
  have hWr := book_WrongR hr
  have h30 := hr.n
  obtain ⟨mr, ml1, ml2⟩ := learn_right (v := v) (a := a) (p := p) hr
  have c1 := book_Learn l v a p (by omega)
  have hWm := book_WrongR mr
  have k1 := book_Look2 hr v a
  have k2 := book_Look2 mr v a
  have k3 := book_Look2 hr v o
  have k4 := book_Look2 mr v o
  have h30m := mr.n
  have n1 : (l.map entV).length = l.length := by simp
  have n2 : ((learnL l v a p).map entV).length = (learnL l v a p).length := by simp
  have hE : (decide ((1 : Int) ≤ v) && decide (v ≤ 4094) && decide (a ≤ 281474976710655) && decide (IntKind.u64.andI (IntKind.u64.shrI a 40) 1 = 0) && decide ((0 : Int) ≤ p) && decide (p ≤ 30)) = !putsB v a p := by
    rw [group_not ha.1 ha.2]
    unfold putsB
    rw [Bool.eq_iff_iff]
    cases isGroup a <;> simp only [Bool.and_eq_true, Bool.not_eq_true', decide_eq_true_eq, Bool.or_eq_false_iff, decide_eq_false_iff_not, Bool.not_true, Bool.not_false] <;> simp <;> omega
  have hother : o ≠ a → lookS (learnL l v a p) v o = lookS l v o := fun h => learn_other hr.s h
  have hsame : putsB v a p = true → learnL l v a p = l := learn_puts
  have hknow : putsB v a p = false → ((lookS l v a).2 = true ∨ l.length < 30) → lookS (learnL l v a p) v a = (p, true) := fun h h2 => learn_known hr.s h h2
  generalize learnL l v a p = m at *
  have fin : ∀ (q : o ≠ a), lookS m v o = lookS l v o := hother
  by_cases hp : putsB v a p = true
  · rw [hp] at hE
    have hE : _ = false := hE
    have hml := hsame hp
    subst hml
    have s1 := ref8_Same m
    by_cases ho : o = a
    · repeat' (first
    | (rw [hE])
    | refine DW_seq ?_
    | refine DW_region ?_
    | refine DW_draw ?_
    | refine dnilP ?_
    | refine dnilD (by kernel_rfl) ?_
    | refine then_normal ?_
    | refine then_exit ?_
    | refine then_ret ?_
    | refine DW_block ?_
    | refine blk_normal ?_
    | refine blk_ret ?_
    | refine blk_hit rfl ?_
    | refine blk_miss rfl ?_
    | refine loop_exit ?_
    | refine loop_ret ?_
    | refine DW_ret ?_
    | refine DW_exit ?_
    | refine DW_skip ?_
    | refine DW_cond_t rfl ?_
    | refine DW_cond_f rfl ?_
    | (apply dpC rfl; case h => first | exact S_call alive8 rfl | exact S_call hWr rfl | exact S_call c1 rfl | exact S_call k1 rfl | exact S_call s1 rfl | exact S_len_slice rfl | exact S_len_own rfl rfl | exact S_len_str rfl | exact S_len_nil rfl | exact S_min rfl rfl | exact S_max rfl rfl)
    | refine dpOff rfl rfl ?_
    | ((first | apply dp rfl | apply dpOn rfl rfl | apply dpMay rfl rfl (by first | exact fun _ => trivial | exact fun h => ⟨h, trivial⟩ | exact fun h => ⟨h, h, trivial⟩ | exact fun h => ⟨h, h, h, trivial⟩ | exact fun h => ⟨h, h, h, h, trivial⟩)); case h => ((try intro hg); first | exact as_bool (S_lss rfl rfl) (decide_eq_false (by omega : ¬ ((m.map entV).length : Int) < ((m.map entV).length : Int))) | exact as_bool (S_gtr rfl rfl) (decide_eq_false (by omega : ¬ ((m.map entV).length : Int) + 1 < ((m.map entV).length : Int))) | exact as_bool (S_eql rfl rfl) (decide_eq_true ho) | exact M_d rfl | exact M_p rfl | exact M_o rfl | exact M_n rfl | exact M_r rfl | exact M_a rfl | exact M_m rfl | exact A_d rfl | exact A_p rfl | exact A_o rfl | exact A_n rfl | exact A_r rfl | exact A_a rfl | exact A_m rfl | exact S_load_rp rfl rfl | exact S_load_ptr rfl rfl rfl | exact S_load_ptrs rfl rfl rfl | exact S_fieldAddr_rp rfl rfl | exact S_fieldAddr_ptr rfl rfl | exact S_fieldAddr_rptr rfl rfl rfl | exact S_field rfl rfl | exact S_lss rfl rfl | exact S_leq rfl rfl | exact S_gtr rfl rfl | exact S_geq rfl rfl | exact S_eql rfl rfl | exact S_neq rfl rfl | exact S_not rfl | exact S_pick_T rfl rfl | exact S_pick_F rfl rfl | exact S_pick_and rfl rfl rfl | exact S_pick_or rfl rfl rfl | exact I_add rfl rfl (by simp only [InK]; omega) | exact I_add rfl rfl (by simp only [InK]; simp at hg; omega) | exact S_add rfl rfl | exact I_sub rfl rfl (by simp only [InK]; omega) | exact I_sub rfl rfl (by simp only [InK]; simp at hg; omega) | exact S_sub rfl rfl | exact I_mul rfl rfl (by simp only [InK]; omega) | exact S_mul rfl rfl | exact S_quo rfl rfl (by decide) | exact S_rem rfl rfl (by decide) | exact S_extract rfl rfl | exact I_toInt rfl (by simp only [InK]; omega) | exact W_toInt rfl | exact S_eqlb (BoolI.out) rfl rfl | exact S_neqb (BoolI.out) rfl rfl | exact S_eqls rfl rfl | exact S_eqlA rfl rfl rfl rfl rfl | exact S_neqA rfl rfl rfl rfl rfl | exact S_neqs rfl rfl | exact S_and rfl rfl | exact S_or rfl rfl | exact S_xor rfl rfl | exact S_andNot rfl rfl | exact S_shl rfl rfl (by omega) | exact S_shr rfl rfl (by omega) | exact S_nilCheck_ptr rfl | exact S_nilCheck_rp rfl | exact S_nilCheck_fn rfl | exact S_build rfl | exact S_buildA rfl | exact S_lit rfl rfl rfl rfl | exact S_load_rptr rfl rfl rfl rfl | exact S_field_aggd rfl rfl | exact S_makeFunc rfl | exact S_eqNilT rfl | exact S_ix_slice rfl rfl (by decide) rfl rfl | exact S_ix_arr_ptr rfl rfl (by decide) (by decide) | exact S_index_aggd rfl rfl (by decide) (by decide) rfl | exact S_call alive8 rfl | exact S_call hWr rfl | exact S_call c1 rfl | exact S_call k1 rfl | exact S_call s1 rfl | exact S_len_slice rfl | exact S_len_own rfl rfl | exact S_len_str rfl | exact S_len_nil rfl | exact S_min rfl rfl | exact S_max rfl rfl))
    | refine dpickAnd rfl rfl rfl rfl rfl ?_ | refine dpickOr rfl rfl rfl rfl rfl ?_
    | (apply dt rfl; case h => first | exact as_bool (S_lss rfl rfl) (decide_eq_false (by omega : ¬ ((m.map entV).length : Int) < ((m.map entV).length : Int))) | exact as_bool (S_gtr rfl rfl) (decide_eq_false (by omega : ¬ ((m.map entV).length : Int) + 1 < ((m.map entV).length : Int))) | exact as_bool (S_eql rfl rfl) (decide_eq_true ho) | exact S_alloc _ rfl | exact S_box _ rfl rfl)
    | (apply ds; case h => first | exact as_bool (S_lss rfl rfl) (decide_eq_false (by omega : ¬ ((m.map entV).length : Int) < ((m.map entV).length : Int))) | exact as_bool (S_gtr rfl rfl) (decide_eq_false (by omega : ¬ ((m.map entV).length : Int) + 1 < ((m.map entV).length : Int))) | exact as_bool (S_eql rfl rfl) (decide_eq_true ho) | exact S_store rfl rfl rfl rfl rfl rfl)
    | (apply dm rfl; case h => first | exact as_bool (S_lss rfl rfl) (decide_eq_false (by omega : ¬ ((m.map entV).length : Int) < ((m.map entV).length : Int))) | exact as_bool (S_gtr rfl rfl) (decide_eq_false (by omega : ¬ ((m.map entV).length : Int) + 1 < ((m.map entV).length : Int))) | exact as_bool (S_eql rfl rfl) (decide_eq_true ho) | exact M_d rfl | exact S_alloc 2001 rfl | exact S_alloc 2002 rfl | exact S_alloc 2003 rfl | exact S_alloc 2004 rfl | exact S_alloc 2005 rfl)
    | fail)
      exact ret1 rfl (.inl rfl) rfl
    · repeat' (first
    | (rw [hE])
    | refine DW_seq ?_
    | refine DW_region ?_
    | refine DW_draw ?_
    | refine dnilP ?_
    | refine dnilD (by kernel_rfl) ?_
    | refine then_normal ?_
    | refine then_exit ?_
    | refine then_ret ?_
    | refine DW_block ?_
    | refine blk_normal ?_
    | refine blk_ret ?_
    | refine blk_hit rfl ?_
    | refine blk_miss rfl ?_
    | refine loop_exit ?_
    | refine loop_ret ?_
    | refine DW_ret ?_
    | refine DW_exit ?_
    | refine DW_skip ?_
    | refine DW_cond_t rfl ?_
    | refine DW_cond_f rfl ?_
    | (apply dpC rfl; case h => first | exact S_call alive8 rfl | exact S_call hWr rfl | exact S_call c1 rfl | exact S_call k1 rfl | exact S_call s1 rfl | exact S_call k3 rfl | exact S_len_slice rfl | exact S_len_own rfl rfl | exact S_len_str rfl | exact S_len_nil rfl | exact S_min rfl rfl | exact S_max rfl rfl)
    | refine dpOff rfl rfl ?_
    | ((first | apply dp rfl | apply dpOn rfl rfl | apply dpMay rfl rfl (by first | exact fun _ => trivial | exact fun h => ⟨h, trivial⟩ | exact fun h => ⟨h, h, trivial⟩ | exact fun h => ⟨h, h, h, trivial⟩ | exact fun h => ⟨h, h, h, h, trivial⟩)); case h => ((try intro hg); first | exact as_bool (S_lss rfl rfl) (decide_eq_false (by omega : ¬ ((m.map entV).length : Int) < ((m.map entV).length : Int))) | exact as_bool (S_gtr rfl rfl) (decide_eq_false (by omega : ¬ ((m.map entV).length : Int) + 1 < ((m.map entV).length : Int))) | exact as_bool (S_eql rfl rfl) (decide_eq_false ho) | exact as_bool (S_eql rfl rfl) (eq_self _) | exact as_bool (S_eqlb (BoolI.out) rfl rfl) (beq_self_eq_true _) | exact M_d rfl | exact M_p rfl | exact M_o rfl | exact M_n rfl | exact M_r rfl | exact M_a rfl | exact M_m rfl | exact A_d rfl | exact A_p rfl | exact A_o rfl | exact A_n rfl | exact A_r rfl | exact A_a rfl | exact A_m rfl | exact S_load_rp rfl rfl | exact S_load_ptr rfl rfl rfl | exact S_load_ptrs rfl rfl rfl | exact S_fieldAddr_rp rfl rfl | exact S_fieldAddr_ptr rfl rfl | exact S_fieldAddr_rptr rfl rfl rfl | exact S_field rfl rfl | exact S_lss rfl rfl | exact S_leq rfl rfl | exact S_gtr rfl rfl | exact S_geq rfl rfl | exact S_eql rfl rfl | exact S_neq rfl rfl | exact S_not rfl | exact S_pick_T rfl rfl | exact S_pick_F rfl rfl | exact S_pick_and rfl rfl rfl | exact S_pick_or rfl rfl rfl | exact I_add rfl rfl (by simp only [InK]; omega) | exact I_add rfl rfl (by simp only [InK]; simp at hg; omega) | exact S_add rfl rfl | exact I_sub rfl rfl (by simp only [InK]; omega) | exact I_sub rfl rfl (by simp only [InK]; simp at hg; omega) | exact S_sub rfl rfl | exact I_mul rfl rfl (by simp only [InK]; omega) | exact S_mul rfl rfl | exact S_quo rfl rfl (by decide) | exact S_rem rfl rfl (by decide) | exact S_extract rfl rfl | exact I_toInt rfl (by simp only [InK]; omega) | exact W_toInt rfl | exact S_eqlb (BoolI.out) rfl rfl | exact S_neqb (BoolI.out) rfl rfl | exact S_eqls rfl rfl | exact S_eqlA rfl rfl rfl rfl rfl | exact S_neqA rfl rfl rfl rfl rfl | exact S_neqs rfl rfl | exact S_and rfl rfl | exact S_or rfl rfl | exact S_xor rfl rfl | exact S_andNot rfl rfl | exact S_shl rfl rfl (by omega) | exact S_shr rfl rfl (by omega) | exact S_nilCheck_ptr rfl | exact S_nilCheck_rp rfl | exact S_nilCheck_fn rfl | exact S_build rfl | exact S_buildA rfl | exact S_lit rfl rfl rfl rfl | exact S_load_rptr rfl rfl rfl rfl | exact S_field_aggd rfl rfl | exact S_makeFunc rfl | exact S_eqNilT rfl | exact S_ix_slice rfl rfl (by decide) rfl rfl | exact S_ix_arr_ptr rfl rfl (by decide) (by decide) | exact S_index_aggd rfl rfl (by decide) (by decide) rfl | exact S_call alive8 rfl | exact S_call hWr rfl | exact S_call c1 rfl | exact S_call k1 rfl | exact S_call s1 rfl | exact S_call k3 rfl | exact S_len_slice rfl | exact S_len_own rfl rfl | exact S_len_str rfl | exact S_len_nil rfl | exact S_min rfl rfl | exact S_max rfl rfl))
    | refine dpickAnd rfl rfl rfl rfl rfl ?_ | refine dpickOr rfl rfl rfl rfl rfl ?_
    | (apply dt rfl; case h => first | exact as_bool (S_lss rfl rfl) (decide_eq_false (by omega : ¬ ((m.map entV).length : Int) < ((m.map entV).length : Int))) | exact as_bool (S_gtr rfl rfl) (decide_eq_false (by omega : ¬ ((m.map entV).length : Int) + 1 < ((m.map entV).length : Int))) | exact as_bool (S_eql rfl rfl) (decide_eq_false ho) | exact as_bool (S_eql rfl rfl) (eq_self _) | exact as_bool (S_eqlb (BoolI.out) rfl rfl) (beq_self_eq_true _) | exact S_alloc _ rfl | exact S_box _ rfl rfl)
    | (apply ds; case h => first | exact as_bool (S_lss rfl rfl) (decide_eq_false (by omega : ¬ ((m.map entV).length : Int) < ((m.map entV).length : Int))) | exact as_bool (S_gtr rfl rfl) (decide_eq_false (by omega : ¬ ((m.map entV).length : Int) + 1 < ((m.map entV).length : Int))) | exact as_bool (S_eql rfl rfl) (decide_eq_false ho) | exact as_bool (S_eql rfl rfl) (eq_self _) | exact as_bool (S_eqlb (BoolI.out) rfl rfl) (beq_self_eq_true _) | exact S_store rfl rfl rfl rfl rfl rfl)
    | (apply dm rfl; case h => first | exact as_bool (S_lss rfl rfl) (decide_eq_false (by omega : ¬ ((m.map entV).length : Int) < ((m.map entV).length : Int))) | exact as_bool (S_gtr rfl rfl) (decide_eq_false (by omega : ¬ ((m.map entV).length : Int) + 1 < ((m.map entV).length : Int))) | exact as_bool (S_eql rfl rfl) (decide_eq_false ho) | exact as_bool (S_eql rfl rfl) (eq_self _) | exact as_bool (S_eqlb (BoolI.out) rfl rfl) (beq_self_eq_true _) | exact M_d rfl | exact S_alloc 2001 rfl | exact S_alloc 2002 rfl | exact S_alloc 2003 rfl | exact S_alloc 2004 rfl | exact S_alloc 2005 rfl)
    | fail)
      exact ret1 rfl (.inl rfl) rfl
  · have hp : putsB v a p = false := by simpa using hp
    rw [hp] at hE
    have hE : _ = true := hE
    have hkn := hknow hp
    by_cases ho : o = a
    · repeat' (first
    | (rw [hE])
    | refine DW_seq ?_
    | refine DW_region ?_
    | refine DW_draw ?_
    | refine dnilP ?_
    | refine dnilD (by kernel_rfl) ?_
    | refine then_normal ?_
    | refine then_exit ?_
    | refine then_ret ?_
    | refine DW_block ?_
    | refine blk_normal ?_
    | refine blk_ret ?_
    | refine blk_hit rfl ?_
    | refine blk_miss rfl ?_
    | refine loop_exit ?_
    | refine loop_ret ?_
    | refine DW_ret ?_
    | refine DW_exit ?_
    | refine DW_skip ?_
    | refine DW_cond_t rfl ?_
    | refine DW_cond_f rfl ?_
    | refine DW_cond rfl (fun hb => ?_) (fun hb => ?_)
    | (apply dpC rfl; case h => first | exact S_call alive8 rfl | exact S_call hWr rfl | exact S_call c1 rfl | exact S_call hWm rfl | exact S_call k1 rfl | exact S_call k2 rfl | exact S_call (absurd hg (by simp) : FnF Try.prog 19 [.slice (l.map entV), .slice (m.map entV)] (.bool true)) rfl | exact S_len_slice rfl | exact S_len_own rfl rfl | exact S_len_str rfl | exact S_len_nil rfl | exact S_min rfl rfl | exact S_max rfl rfl)
    | refine dpOff rfl rfl ?_
    | ((first | apply dp rfl | apply dpOn rfl rfl | apply dpMay rfl rfl (by first | exact fun _ => trivial | exact fun h => ⟨h, trivial⟩ | exact fun h => ⟨h, h, trivial⟩ | exact fun h => ⟨h, h, h, trivial⟩ | exact fun h => ⟨h, h, h, h, trivial⟩)); case h => ((try intro hg); first | exact as_bool (S_lss rfl rfl) (decide_eq_false (by omega : ¬ ((m.map entV).length : Int) < ((l.map entV).length : Int))) | exact as_bool (S_gtr rfl rfl) (decide_eq_false (by omega : ¬ ((l.map entV).length : Int) + 1 < ((m.map entV).length : Int))) | exact as_bool (S_neq rfl rfl) (ne_self _) | exact as_bool (S_eql rfl rfl) (decide_eq_true ho) | exact M_d rfl | exact M_p rfl | exact M_o rfl | exact M_n rfl | exact M_r rfl | exact M_a rfl | exact M_m rfl | exact A_d rfl | exact A_p rfl | exact A_o rfl | exact A_n rfl | exact A_r rfl | exact A_a rfl | exact A_m rfl | exact S_load_rp rfl rfl | exact S_load_ptr rfl rfl rfl | exact S_load_ptrs rfl rfl rfl | exact S_fieldAddr_rp rfl rfl | exact S_fieldAddr_ptr rfl rfl | exact S_fieldAddr_rptr rfl rfl rfl | exact S_field rfl rfl | exact S_lss rfl rfl | exact S_leq rfl rfl | exact S_gtr rfl rfl | exact S_geq rfl rfl | exact S_eql rfl rfl | exact S_neq rfl rfl | exact S_not rfl | exact S_pick_T rfl rfl | exact S_pick_F rfl rfl | exact S_pick_and rfl rfl rfl | exact S_pick_or rfl rfl rfl | exact I_add rfl rfl (by simp only [InK]; omega) | exact I_add rfl rfl (by simp only [InK]; simp at hg; omega) | exact S_add rfl rfl | exact I_sub rfl rfl (by simp only [InK]; omega) | exact I_sub rfl rfl (by simp only [InK]; simp at hg; omega) | exact S_sub rfl rfl | exact I_mul rfl rfl (by simp only [InK]; omega) | exact S_mul rfl rfl | exact S_quo rfl rfl (by decide) | exact S_rem rfl rfl (by decide) | exact S_extract rfl rfl | exact I_toInt rfl (by simp only [InK]; omega) | exact W_toInt rfl | exact S_eqlb (BoolI.out) rfl rfl | exact S_neqb (BoolI.out) rfl rfl | exact S_eqls rfl rfl | exact S_eqlA rfl rfl rfl rfl rfl | exact S_neqA rfl rfl rfl rfl rfl | exact S_neqs rfl rfl | exact S_and rfl rfl | exact S_or rfl rfl | exact S_xor rfl rfl | exact S_andNot rfl rfl | exact S_shl rfl rfl (by omega) | exact S_shr rfl rfl (by omega) | exact S_nilCheck_ptr rfl | exact S_nilCheck_rp rfl | exact S_nilCheck_fn rfl | exact S_build rfl | exact S_buildA rfl | exact S_lit rfl rfl rfl rfl | exact S_load_rptr rfl rfl rfl rfl | exact S_field_aggd rfl rfl | exact S_makeFunc rfl | exact S_eqNilT rfl | exact S_ix_slice rfl rfl (by decide) rfl rfl | exact S_ix_arr_ptr rfl rfl (by decide) (by decide) | exact S_index_aggd rfl rfl (by decide) (by decide) rfl | exact S_call alive8 rfl | exact S_call hWr rfl | exact S_call c1 rfl | exact S_call hWm rfl | exact S_call k1 rfl | exact S_call k2 rfl | exact S_call (absurd hg (by simp) : FnF Try.prog 19 [.slice (l.map entV), .slice (m.map entV)] (.bool true)) rfl | exact S_len_slice rfl | exact S_len_own rfl rfl | exact S_len_str rfl | exact S_len_nil rfl | exact S_min rfl rfl | exact S_max rfl rfl))
    | refine dpickAnd rfl rfl rfl rfl rfl ?_ | refine dpickOr rfl rfl rfl rfl rfl ?_
    | (apply dt rfl; case h => first | exact as_bool (S_lss rfl rfl) (decide_eq_false (by omega : ¬ ((m.map entV).length : Int) < ((l.map entV).length : Int))) | exact as_bool (S_gtr rfl rfl) (decide_eq_false (by omega : ¬ ((l.map entV).length : Int) + 1 < ((m.map entV).length : Int))) | exact as_bool (S_neq rfl rfl) (ne_self _) | exact as_bool (S_eql rfl rfl) (decide_eq_true ho) | exact S_alloc _ rfl | exact S_box _ rfl rfl)
    | (apply ds; case h => first | exact as_bool (S_lss rfl rfl) (decide_eq_false (by omega : ¬ ((m.map entV).length : Int) < ((l.map entV).length : Int))) | exact as_bool (S_gtr rfl rfl) (decide_eq_false (by omega : ¬ ((l.map entV).length : Int) + 1 < ((m.map entV).length : Int))) | exact as_bool (S_neq rfl rfl) (ne_self _) | exact as_bool (S_eql rfl rfl) (decide_eq_true ho) | exact S_store rfl rfl rfl rfl rfl rfl)
    | (apply dm rfl; case h => first | exact as_bool (S_lss rfl rfl) (decide_eq_false (by omega : ¬ ((m.map entV).length : Int) < ((l.map entV).length : Int))) | exact as_bool (S_gtr rfl rfl) (decide_eq_false (by omega : ¬ ((l.map entV).length : Int) + 1 < ((m.map entV).length : Int))) | exact as_bool (S_neq rfl rfl) (ne_self _) | exact as_bool (S_eql rfl rfl) (decide_eq_true ho) | exact M_d rfl | exact S_alloc 2001 rfl | exact S_alloc 2002 rfl | exact S_alloc 2003 rfl | exact S_alloc 2004 rfl | exact S_alloc 2005 rfl)
    | fail)
      · exact (learn_bad (by simp) hkn hb).elim
      · exact ret1 rfl (.inl rfl) rfl
    · rw [fin ho] at k4
      repeat' (first
    | (rw [hE])
    | refine DW_seq ?_
    | refine DW_region ?_
    | refine DW_draw ?_
    | refine dnilP ?_
    | refine dnilD (by kernel_rfl) ?_
    | refine then_normal ?_
    | refine then_exit ?_
    | refine then_ret ?_
    | refine DW_block ?_
    | refine blk_normal ?_
    | refine blk_ret ?_
    | refine blk_hit rfl ?_
    | refine blk_miss rfl ?_
    | refine loop_exit ?_
    | refine loop_ret ?_
    | refine DW_ret ?_
    | refine DW_exit ?_
    | refine DW_skip ?_
    | refine DW_cond_t rfl ?_
    | refine DW_cond_f rfl ?_
    | refine DW_cond rfl (fun hb => ?_) (fun hb => ?_)
    | (apply dpC rfl; case h => first | exact S_call alive8 rfl | exact S_call hWr rfl | exact S_call c1 rfl | exact S_call hWm rfl | exact S_call k1 rfl | exact S_call k2 rfl | exact S_call (absurd hg (by simp) : FnF Try.prog 19 [.slice (l.map entV), .slice (m.map entV)] (.bool true)) rfl | exact S_call k3 rfl | exact S_call k4 rfl | exact S_len_slice rfl | exact S_len_own rfl rfl | exact S_len_str rfl | exact S_len_nil rfl | exact S_min rfl rfl | exact S_max rfl rfl)
    | refine dpOff rfl rfl ?_
    | ((first | apply dp rfl | apply dpOn rfl rfl | apply dpMay rfl rfl (by first | exact fun _ => trivial | exact fun h => ⟨h, trivial⟩ | exact fun h => ⟨h, h, trivial⟩ | exact fun h => ⟨h, h, h, trivial⟩ | exact fun h => ⟨h, h, h, h, trivial⟩)); case h => ((try intro hg); first | exact as_bool (S_lss rfl rfl) (decide_eq_false (by omega : ¬ ((m.map entV).length : Int) < ((l.map entV).length : Int))) | exact as_bool (S_gtr rfl rfl) (decide_eq_false (by omega : ¬ ((l.map entV).length : Int) + 1 < ((m.map entV).length : Int))) | exact as_bool (S_neq rfl rfl) (ne_self _) | exact as_bool (S_eql rfl rfl) (decide_eq_false ho) | exact as_bool (S_eql rfl rfl) (eq_self _) | exact as_bool (S_eqlb (BoolI.out) rfl rfl) (beq_self_eq_true _) | exact M_d rfl | exact M_p rfl | exact M_o rfl | exact M_n rfl | exact M_r rfl | exact M_a rfl | exact M_m rfl | exact A_d rfl | exact A_p rfl | exact A_o rfl | exact A_n rfl | exact A_r rfl | exact A_a rfl | exact A_m rfl | exact S_load_rp rfl rfl | exact S_load_ptr rfl rfl rfl | exact S_load_ptrs rfl rfl rfl | exact S_fieldAddr_rp rfl rfl | exact S_fieldAddr_ptr rfl rfl | exact S_fieldAddr_rptr rfl rfl rfl | exact S_field rfl rfl | exact S_lss rfl rfl | exact S_leq rfl rfl | exact S_gtr rfl rfl | exact S_geq rfl rfl | exact S_eql rfl rfl | exact S_neq rfl rfl | exact S_not rfl | exact S_pick_T rfl rfl | exact S_pick_F rfl rfl | exact S_pick_and rfl rfl rfl | exact S_pick_or rfl rfl rfl | exact I_add rfl rfl (by simp only [InK]; omega) | exact I_add rfl rfl (by simp only [InK]; simp at hg; omega) | exact S_add rfl rfl | exact I_sub rfl rfl (by simp only [InK]; omega) | exact I_sub rfl rfl (by simp only [InK]; simp at hg; omega) | exact S_sub rfl rfl | exact I_mul rfl rfl (by simp only [InK]; omega) | exact S_mul rfl rfl | exact S_quo rfl rfl (by decide) | exact S_rem rfl rfl (by decide) | exact S_extract rfl rfl | exact I_toInt rfl (by simp only [InK]; omega) | exact W_toInt rfl | exact S_eqlb (BoolI.out) rfl rfl | exact S_neqb (BoolI.out) rfl rfl | exact S_eqls rfl rfl | exact S_eqlA rfl rfl rfl rfl rfl | exact S_neqA rfl rfl rfl rfl rfl | exact S_neqs rfl rfl | exact S_and rfl rfl | exact S_or rfl rfl | exact S_xor rfl rfl | exact S_andNot rfl rfl | exact S_shl rfl rfl (by omega) | exact S_shr rfl rfl (by omega) | exact S_nilCheck_ptr rfl | exact S_nilCheck_rp rfl | exact S_nilCheck_fn rfl | exact S_build rfl | exact S_buildA rfl | exact S_lit rfl rfl rfl rfl | exact S_load_rptr rfl rfl rfl rfl | exact S_field_aggd rfl rfl | exact S_makeFunc rfl | exact S_eqNilT rfl | exact S_ix_slice rfl rfl (by decide) rfl rfl | exact S_ix_arr_ptr rfl rfl (by decide) (by decide) | exact S_index_aggd rfl rfl (by decide) (by decide) rfl | exact S_call alive8 rfl | exact S_call hWr rfl | exact S_call c1 rfl | exact S_call hWm rfl | exact S_call k1 rfl | exact S_call k2 rfl | exact S_call (absurd hg (by simp) : FnF Try.prog 19 [.slice (l.map entV), .slice (m.map entV)] (.bool true)) rfl | exact S_call k3 rfl | exact S_call k4 rfl | exact S_len_slice rfl | exact S_len_own rfl rfl | exact S_len_str rfl | exact S_len_nil rfl | exact S_min rfl rfl | exact S_max rfl rfl))
    | refine dpickAnd rfl rfl rfl rfl rfl ?_ | refine dpickOr rfl rfl rfl rfl rfl ?_
    | (apply dt rfl; case h => first | exact as_bool (S_lss rfl rfl) (decide_eq_false (by omega : ¬ ((m.map entV).length : Int) < ((l.map entV).length : Int))) | exact as_bool (S_gtr rfl rfl) (decide_eq_false (by omega : ¬ ((l.map entV).length : Int) + 1 < ((m.map entV).length : Int))) | exact as_bool (S_neq rfl rfl) (ne_self _) | exact as_bool (S_eql rfl rfl) (decide_eq_false ho) | exact as_bool (S_eql rfl rfl) (eq_self _) | exact as_bool (S_eqlb (BoolI.out) rfl rfl) (beq_self_eq_true _) | exact S_alloc _ rfl | exact S_box _ rfl rfl)
    | (apply ds; case h => first | exact as_bool (S_lss rfl rfl) (decide_eq_false (by omega : ¬ ((m.map entV).length : Int) < ((l.map entV).length : Int))) | exact as_bool (S_gtr rfl rfl) (decide_eq_false (by omega : ¬ ((l.map entV).length : Int) + 1 < ((m.map entV).length : Int))) | exact as_bool (S_neq rfl rfl) (ne_self _) | exact as_bool (S_eql rfl rfl) (decide_eq_false ho) | exact as_bool (S_eql rfl rfl) (eq_self _) | exact as_bool (S_eqlb (BoolI.out) rfl rfl) (beq_self_eq_true _) | exact S_store rfl rfl rfl rfl rfl rfl)
    | (apply dm rfl; case h => first | exact as_bool (S_lss rfl rfl) (decide_eq_false (by omega : ¬ ((m.map entV).length : Int) < ((l.map entV).length : Int))) | exact as_bool (S_gtr rfl rfl) (decide_eq_false (by omega : ¬ ((l.map entV).length : Int) + 1 < ((m.map entV).length : Int))) | exact as_bool (S_neq rfl rfl) (ne_self _) | exact as_bool (S_eql rfl rfl) (decide_eq_false ho) | exact as_bool (S_eql rfl rfl) (eq_self _) | exact as_bool (S_eqlb (BoolI.out) rfl rfl) (beq_self_eq_true _) | exact M_d rfl | exact S_alloc 2001 rfl | exact S_alloc 2002 rfl | exact S_alloc 2003 rfl | exact S_alloc 2004 rfl | exact S_alloc 2005 rfl)
    | fail)
      · exact (learn_bad (by simp) hkn hb).elim
      · exact ret1 rfl (.inl rfl) rfl
end Go.Proofs.Ytpdoplmnedpdaaa
