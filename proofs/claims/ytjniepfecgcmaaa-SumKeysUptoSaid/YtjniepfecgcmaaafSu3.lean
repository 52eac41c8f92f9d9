/- The law SumKeys. -/
import Derived.Test.YtjniepfecgcmaaafSul
import Derived.Test.YtjniepfecgcmaaabApz
namespace Go.Proofs.Ytjniepfecgcmaaa
open Go.RowKit
theorem baseK_fill {key : List UInt8} {m : Nat} (h : key.length + m ≤ 64) : baseK (key ++ List.replicate m 0) = baseK key := by
  unfold baseK
  rw [List.append_assoc, List.length_append, List.length_replicate, List.replicate_append_replicate]
  congr 2; omega
theorem macS_fill {key : List UInt8} {m : Nat} (h : key.length + m ≤ 64) (b : List UInt8) : macS (key ++ List.replicate m 0) b = macS key b := by
  have h1 : macK (key ++ List.replicate m 0) = key ++ List.replicate m 0 := by unfold macK; rw [if_neg (by rw [List.length_append, List.length_replicate]; omega)]
  have h2 : macK key = key := by unfold macK; rw [if_neg (by omega)]
  unfold macS padK
  rw [h1, h2, baseK_fill h]
theorem macS_long {key : List UInt8} (h : 64 < key.length) (b : List UInt8) : macS (md5S key) b = macS key b := by
  have h1 : macK (md5S key) = md5S key := by unfold macK; rw [if_neg (by rw [md5S_len]; decide)]
  have h2 : macK key = md5S key := by unfold macK; rw [if_pos h]
  unfold macS
  rw [h1, h2]
theorem filled (key : List UInt8) (m : Nat) : (((key.map byteV) ++ List.replicate m [V.int .u8 0]).drop 0).take (key.length + m) = (key ++ List.replicate m 0).map byteV := by
  rw [List.drop_zero, List.map_append, List.map_replicate, List.take_of_length_le (by simp)]
  rfl
attribute [local irreducible] SStep DW DWin DOps thenQ inBlk loopQ retQ retQG FnF FnG Wk IntKind.wrap IntKind.andI IntKind.orI IntKind.xorI IntKind.andNotI IntKind.shlI IntKind.shrI md5S macS hexS
set_option maxHeartbeats 4000000 in
theorem law_SumKeys (key b : List UInt8) (more : Int) (hk : key.length ≤ 4194304) (hb : b.length ≤ 2097152) : FnF Try.prog 12 [.slice (key.map byteV), .int .i64 more, .slice (b.map byteV)] (.bool true) := by
  refine fnF_of Try.func12 rfl rfl rfl ?_
  simp only [envOf]
  by_cases h0 : more < 0
  · repeat' (first
    | refine DW_seq ?_
    | refine DW_region ?_
    | refine DW_draw ?_
    | refine dnilP ?_
    | refine dnilD (by kernel_rfl) ?_
    | refine then_normal ?_
    | refine then_exit ?_
    | refine then_ret ?_
    | refine DW_block ?_
    | refine blk_normal ?_
    | refine blk_ret ?_
    | refine blk_hit rfl ?_
    | refine blk_miss rfl ?_
    | refine loop_exit ?_
    | refine loop_ret ?_
    | refine DW_ret ?_
    | refine DW_exit ?_
    | refine DW_skip ?_
    | refine DW_cond_t rfl ?_
    | refine DW_cond_f rfl ?_
    | (apply dpC rfl; case h => first | exact S_call alive1 rfl | exact S_len_slice rfl | exact S_len_own rfl rfl | exact S_len_str rfl | exact S_len_nil rfl | exact S_min rfl rfl | exact S_max rfl rfl)
    | refine dpOff rfl rfl ?_
    | ((first | apply dp rfl | apply dpOn rfl rfl | apply dpMay rfl rfl (by first | exact fun _ => trivial | exact fun h => ⟨h, trivial⟩ | exact fun h => ⟨h, h, trivial⟩ | exact fun h => ⟨h, h, h, trivial⟩ | exact fun h => ⟨h, h, h, h, trivial⟩)); case h => ((try intro hg); first | exact as_bool (S_lss rfl rfl) (decide_eq_true h0) | exact M_d rfl | exact M_p rfl | exact M_o rfl | exact M_n rfl | exact M_r rfl | exact M_a rfl | exact M_m rfl | exact A_d rfl | exact A_p rfl | exact A_o rfl | exact A_n rfl | exact A_r rfl | exact A_a rfl | exact A_m rfl | exact S_load_rp rfl rfl | exact S_load_ptr rfl rfl rfl | exact S_load_ptrs rfl rfl rfl | exact S_fieldAddr_rp rfl rfl | exact S_fieldAddr_ptr rfl rfl | exact S_fieldAddr_rptr rfl rfl rfl | exact S_field rfl rfl | exact S_lss rfl rfl | exact S_leq rfl rfl | exact S_gtr rfl rfl | exact S_geq rfl rfl | exact S_eql rfl rfl | exact S_neq rfl rfl | exact S_not rfl | exact S_pick_T rfl rfl | exact S_pick_F rfl rfl | exact S_pick_and rfl rfl rfl | exact S_pick_or rfl rfl rfl | exact I_add rfl rfl (by simp only [InK]; omega) | exact I_add rfl rfl (by simp only [InK]; simp at hg; omega) | exact S_add rfl rfl | exact I_sub rfl rfl (by simp only [InK]; omega) | exact I_sub rfl rfl (by simp only [InK]; simp at hg; omega) | exact S_sub rfl rfl | exact I_mul rfl rfl (by simp only [InK]; omega) | exact S_mul rfl rfl | exact S_quo rfl rfl (by decide) | exact S_rem rfl rfl (by decide) | exact S_extract rfl rfl | exact I_toInt rfl (by simp only [InK]; omega) | exact W_toInt rfl | exact S_eqlb (BoolI.out) rfl rfl | exact S_neqb (BoolI.out) rfl rfl | exact S_eqls rfl rfl | exact S_eqlA rfl rfl rfl rfl rfl | exact S_neqA rfl rfl rfl rfl rfl | exact S_neqs rfl rfl | exact S_and rfl rfl | exact S_or rfl rfl | exact S_xor rfl rfl | exact S_andNot rfl rfl | exact S_shl rfl rfl (by omega) | exact S_shr rfl rfl (by omega) | exact S_nilCheck_ptr rfl | exact S_nilCheck_rp rfl | exact S_nilCheck_fn rfl | exact S_build rfl | exact S_buildA rfl | exact S_lit rfl rfl rfl rfl | exact S_load_rptr rfl rfl rfl rfl | exact S_field_aggd rfl rfl | exact S_makeFunc rfl | exact S_eqNilT rfl | exact S_ix_slice rfl rfl (by decide) rfl rfl | exact S_ix_arr_ptr rfl rfl (by decide) (by decide) | exact S_index_aggd rfl rfl (by decide) (by decide) rfl | exact S_call alive1 rfl | exact S_len_slice rfl | exact S_len_own rfl rfl | exact S_len_str rfl | exact S_len_nil rfl | exact S_min rfl rfl | exact S_max rfl rfl))
    | refine dpickAnd rfl rfl rfl rfl rfl ?_ | refine dpickOr rfl rfl rfl rfl rfl ?_
    | (apply dt rfl; case h => first | exact as_bool (S_lss rfl rfl) (decide_eq_true h0) | exact S_alloc _ rfl | exact S_box _ rfl rfl)
    | (apply ds; case h => first | exact as_bool (S_lss rfl rfl) (decide_eq_true h0) | exact S_store rfl rfl rfl rfl rfl rfl)
    | (apply dm rfl; case h => first | exact as_bool (S_lss rfl rfl) (decide_eq_true h0) | exact M_d rfl | exact S_alloc 2001 rfl | exact S_alloc 2002 rfl | exact S_alloc 2003 rfl | exact S_alloc 2004 rfl | exact S_alloc 2005 rfl)
    | fail)
    exact ret1 rfl (.inl rfl) rfl
  by_cases h1 : 64 < more
  · repeat' (first
    | refine DW_seq ?_
    | refine DW_region ?_
    | refine DW_draw ?_
    | refine dnilP ?_
    | refine dnilD (by kernel_rfl) ?_
    | refine then_normal ?_
    | refine then_exit ?_
    | refine then_ret ?_
    | refine DW_block ?_
    | refine blk_normal ?_
    | refine blk_ret ?_
    | refine blk_hit rfl ?_
    | refine blk_miss rfl ?_
    | refine loop_exit ?_
    | refine loop_ret ?_
    | refine DW_ret ?_
    | refine DW_exit ?_
    | refine DW_skip ?_
    | refine DW_cond_t rfl ?_
    | refine DW_cond_f rfl ?_
    | (apply dpC rfl; case h => first | exact S_call alive1 rfl | exact S_len_slice rfl | exact S_len_own rfl rfl | exact S_len_str rfl | exact S_len_nil rfl | exact S_min rfl rfl | exact S_max rfl rfl)
    | refine dpOff rfl rfl ?_
    | ((first | apply dp rfl | apply dpOn rfl rfl | apply dpMay rfl rfl (by first | exact fun _ => trivial | exact fun h => ⟨h, trivial⟩ | exact fun h => ⟨h, h, trivial⟩ | exact fun h => ⟨h, h, h, trivial⟩ | exact fun h => ⟨h, h, h, h, trivial⟩)); case h => ((try intro hg); first | exact as_bool (S_lss rfl rfl) (decide_eq_false h0) | exact as_bool (S_gtr rfl rfl) (decide_eq_true h1) | exact M_d rfl | exact M_p rfl | exact M_o rfl | exact M_n rfl | exact M_r rfl | exact M_a rfl | exact M_m rfl | exact A_d rfl | exact A_p rfl | exact A_o rfl | exact A_n rfl | exact A_r rfl | exact A_a rfl | exact A_m rfl | exact S_load_rp rfl rfl | exact S_load_ptr rfl rfl rfl | exact S_load_ptrs rfl rfl rfl | exact S_fieldAddr_rp rfl rfl | exact S_fieldAddr_ptr rfl rfl | exact S_fieldAddr_rptr rfl rfl rfl | exact S_field rfl rfl | exact S_lss rfl rfl | exact S_leq rfl rfl | exact S_gtr rfl rfl | exact S_geq rfl rfl | exact S_eql rfl rfl | exact S_neq rfl rfl | exact S_not rfl | exact S_pick_T rfl rfl | exact S_pick_F rfl rfl | exact S_pick_and rfl rfl rfl | exact S_pick_or rfl rfl rfl | exact I_add rfl rfl (by simp only [InK]; omega) | exact I_add rfl rfl (by simp only [InK]; simp at hg; omega) | exact S_add rfl rfl | exact I_sub rfl rfl (by simp only [InK]; omega) | exact I_sub rfl rfl (by simp only [InK]; simp at hg; omega) | exact S_sub rfl rfl | exact I_mul rfl rfl (by simp only [InK]; omega) | exact S_mul rfl rfl | exact S_quo rfl rfl (by decide) | exact S_rem rfl rfl (by decide) | exact S_extract rfl rfl | exact I_toInt rfl (by simp only [InK]; omega) | exact W_toInt rfl | exact S_eqlb (BoolI.out) rfl rfl | exact S_neqb (BoolI.out) rfl rfl | exact S_eqls rfl rfl | exact S_eqlA rfl rfl rfl rfl rfl | exact S_neqA rfl rfl rfl rfl rfl | exact S_neqs rfl rfl | exact S_and rfl rfl | exact S_or rfl rfl | exact S_xor rfl rfl | exact S_andNot rfl rfl | exact S_shl rfl rfl (by omega) | exact S_shr rfl rfl (by omega) | exact S_nilCheck_ptr rfl | exact S_nilCheck_rp rfl | exact S_nilCheck_fn rfl | exact S_build rfl | exact S_buildA rfl | exact S_lit rfl rfl rfl rfl | exact S_load_rptr rfl rfl rfl rfl | exact S_field_aggd rfl rfl | exact S_makeFunc rfl | exact S_eqNilT rfl | exact S_ix_slice rfl rfl (by decide) rfl rfl | exact S_ix_arr_ptr rfl rfl (by decide) (by decide) | exact S_index_aggd rfl rfl (by decide) (by decide) rfl | exact S_call alive1 rfl | exact S_len_slice rfl | exact S_len_own rfl rfl | exact S_len_str rfl | exact S_len_nil rfl | exact S_min rfl rfl | exact S_max rfl rfl))
    | refine dpickAnd rfl rfl rfl rfl rfl ?_ | refine dpickOr rfl rfl rfl rfl rfl ?_
    | (apply dt rfl; case h => first | exact as_bool (S_lss rfl rfl) (decide_eq_false h0) | exact as_bool (S_gtr rfl rfl) (decide_eq_true h1) | exact S_alloc _ rfl | exact S_box _ rfl rfl)
    | (apply ds; case h => first | exact as_bool (S_lss rfl rfl) (decide_eq_false h0) | exact as_bool (S_gtr rfl rfl) (decide_eq_true h1) | exact S_store rfl rfl rfl rfl rfl rfl)
    | (apply dm rfl; case h => first | exact as_bool (S_lss rfl rfl) (decide_eq_false h0) | exact as_bool (S_gtr rfl rfl) (decide_eq_true h1) | exact M_d rfl | exact S_alloc 2001 rfl | exact S_alloc 2002 rfl | exact S_alloc 2003 rfl | exact S_alloc 2004 rfl | exact S_alloc 2005 rfl)
    | fail)
    exact ret1 rfl (.inl rfl) rfl
  obtain ⟨m, rfl⟩ := Int.eq_ofNat_of_zero_le (by omega : 0 ≤ more)
  have hml : (key.map byteV).length = key.length := by simp
  have c1 := md5_MacF key b hk hb
  have s1 := ref1_Same (macS key b)
  by_cases h64 : key.length + m ≤ 64
  · have q : decide (((key.map byteV).length : Int) + (m : Int) ≤ 64) = true := decide_eq_true (by omega)
    have c2 : FnF Try.prog 34 [.slice ((((key.map byteV) ++ List.replicate m [V.int .u8 0]).drop 0).take (key.length + m)), .slice (b.map byteV)] (.slice ((macS key b).map byteV)) := by
      rw [filled, ← macS_fill h64 b]
      exact md5_MacF _ b (by rw [List.length_append, List.length_replicate]; omega) hb
    repeat' (first
    | (apply dt rfl; case h => exact S_litO (els := []) _ rfl rfl rfl rfl rfl)
    | refine DW_seq ?_
    | refine DW_region ?_
    | refine DW_draw ?_
    | refine dnilP ?_
    | refine dnilD (by kernel_rfl) ?_
    | refine then_normal ?_
    | refine then_exit ?_
    | refine then_ret ?_
    | refine DW_block ?_
    | refine blk_normal ?_
    | refine blk_ret ?_
    | refine blk_hit rfl ?_
    | refine blk_miss rfl ?_
    | refine loop_exit ?_
    | refine loop_ret ?_
    | refine DW_ret ?_
    | refine DW_exit ?_
    | refine DW_skip ?_
    | refine DW_cond_t rfl ?_
    | refine DW_cond_f rfl ?_
    | (apply dpC rfl; case h => first | exact S_call alive1 rfl | exact S_call c1 rfl | exact S_call s1 rfl | exact S_len_slice rfl | exact S_len_own rfl rfl | exact S_len_str rfl | exact S_len_nil rfl | exact S_min rfl rfl | exact S_max rfl rfl)
    | (apply dmC rfl; case h => first | exact S_frz 23 rfl rfl (S_call c2 rfl) | exact S_appM (f := byteV) (us := []) (bs := key) rfl rfl (.dat _ _) rfl rfl (.inr ⟨rfl, inferInstance⟩) rfl (by simp only [List.length_nil]; omega) | exact S_appZ m rfl rfl rfl rfl (by simp) (by decide) (by simp; omega))
    | refine dpOff rfl rfl ?_
    | (apply dmOn rfl rfl; case h => first | exact S_frz 23 rfl rfl (S_call c2 rfl) | exact S_appM (f := byteV) (us := []) (bs := key) rfl rfl (.dat _ _) rfl rfl (.inr ⟨rfl, inferInstance⟩) rfl (by simp only [List.length_nil]; omega) | exact S_appZ m rfl rfl rfl rfl (by simp) (by decide) (by simp; omega))
    | ((first | apply dp rfl | apply dpOn rfl rfl | apply dpMay rfl rfl (by first | exact fun _ => trivial | exact fun h => ⟨h, trivial⟩ | exact fun h => ⟨h, h, trivial⟩ | exact fun h => ⟨h, h, h, trivial⟩ | exact fun h => ⟨h, h, h, h, trivial⟩)); case h => ((try intro hg); first | exact as_bool (S_lss rfl rfl) (decide_eq_false h0) | exact as_bool (S_gtr rfl rfl) (decide_eq_false h1) | exact as_bool (S_leq rfl rfl) q | exact M_d rfl | exact M_p rfl | exact M_o rfl | exact M_n rfl | exact M_r rfl | exact M_a rfl | exact M_m rfl | exact A_d rfl | exact A_p rfl | exact A_o rfl | exact A_n rfl | exact A_r rfl | exact A_a rfl | exact A_m rfl | exact S_load_rp rfl rfl | exact S_load_ptr rfl rfl rfl | exact S_load_ptrs rfl rfl rfl | exact S_fieldAddr_rp rfl rfl | exact S_fieldAddr_ptr rfl rfl | exact S_fieldAddr_rptr rfl rfl rfl | exact S_field rfl rfl | exact S_lss rfl rfl | exact S_leq rfl rfl | exact S_gtr rfl rfl | exact S_geq rfl rfl | exact S_eql rfl rfl | exact S_neq rfl rfl | exact S_not rfl | exact S_pick_T rfl rfl | exact S_pick_F rfl rfl | exact S_pick_and rfl rfl rfl | exact S_pick_or rfl rfl rfl | exact I_add rfl rfl (by simp only [InK]; omega) | exact I_add rfl rfl (by simp only [InK]; simp at hg; omega) | exact S_add rfl rfl | exact I_sub rfl rfl (by simp only [InK]; omega) | exact I_sub rfl rfl (by simp only [InK]; simp at hg; omega) | exact S_sub rfl rfl | exact I_mul rfl rfl (by simp only [InK]; omega) | exact S_mul rfl rfl | exact S_quo rfl rfl (by decide) | exact S_rem rfl rfl (by decide) | exact S_extract rfl rfl | exact I_toInt rfl (by simp only [InK]; omega) | exact W_toInt rfl | exact S_eqlb (BoolI.out) rfl rfl | exact S_neqb (BoolI.out) rfl rfl | exact S_eqls rfl rfl | exact S_eqlA rfl rfl rfl rfl rfl | exact S_neqA rfl rfl rfl rfl rfl | exact S_neqs rfl rfl | exact S_and rfl rfl | exact S_or rfl rfl | exact S_xor rfl rfl | exact S_andNot rfl rfl | exact S_shl rfl rfl (by omega) | exact S_shr rfl rfl (by omega) | exact S_nilCheck_ptr rfl | exact S_nilCheck_rp rfl | exact S_nilCheck_fn rfl | exact S_build rfl | exact S_buildA rfl | exact S_lit rfl rfl rfl rfl | exact S_load_rptr rfl rfl rfl rfl | exact S_field_aggd rfl rfl | exact S_makeFunc rfl | exact S_eqNilT rfl | exact S_ix_slice rfl rfl (by decide) rfl rfl | exact S_ix_arr_ptr rfl rfl (by decide) (by decide) | exact S_index_aggd rfl rfl (by decide) (by decide) rfl | exact S_call alive1 rfl | exact S_call c1 rfl | exact S_call s1 rfl | exact S_appM (f := byteV) (us := []) (bs := key) rfl rfl (.dat _ _) rfl rfl (.inr ⟨rfl, inferInstance⟩) rfl (by simp only [List.length_nil]; omega) | exact S_appZ m rfl rfl rfl rfl (by simp) (by decide) (by simp; omega) | exact S_frz 23 rfl rfl (S_call c2 rfl) | exact S_len_slice rfl | exact S_len_own rfl rfl | exact S_len_str rfl | exact S_len_nil rfl | exact S_min rfl rfl | exact S_max rfl rfl))
    | refine dpickAnd rfl rfl rfl rfl rfl ?_ | refine dpickOr rfl rfl rfl rfl rfl ?_
    | (apply dt rfl; case h => first | exact as_bool (S_lss rfl rfl) (decide_eq_false h0) | exact as_bool (S_gtr rfl rfl) (decide_eq_false h1) | exact as_bool (S_leq rfl rfl) q | exact S_alloc _ rfl | exact S_box _ rfl rfl)
    | (apply ds; case h => first | exact as_bool (S_lss rfl rfl) (decide_eq_false h0) | exact as_bool (S_gtr rfl rfl) (decide_eq_false h1) | exact as_bool (S_leq rfl rfl) q | exact S_store rfl rfl rfl rfl rfl rfl)
    | (apply dm rfl; case h => first | exact as_bool (S_lss rfl rfl) (decide_eq_false h0) | exact as_bool (S_gtr rfl rfl) (decide_eq_false h1) | exact as_bool (S_leq rfl rfl) q | exact M_d rfl | exact S_alloc 2001 rfl | exact S_alloc 2002 rfl | exact S_alloc 2003 rfl | exact S_alloc 2004 rfl | exact S_alloc 2005 rfl)
    | fail)
    exact ret1 rfl (.inl rfl) rfl
  · have q : decide (((key.map byteV).length : Int) + (m : Int) ≤ 64) = false := decide_eq_false (by omega)
    by_cases hl : key.length ≤ 64
    · have q2 : decide (((key.map byteV).length : Int) ≤ 64) = true := decide_eq_true (by omega)
      repeat' (first
    | refine DW_seq ?_
    | refine DW_region ?_
    | refine DW_draw ?_
    | refine dnilP ?_
    | refine dnilD (by kernel_rfl) ?_
    | refine then_normal ?_
    | refine then_exit ?_
    | refine then_ret ?_
    | refine DW_block ?_
    | refine blk_normal ?_
    | refine blk_ret ?_
    | refine blk_hit rfl ?_
    | refine blk_miss rfl ?_
    | refine loop_exit ?_
    | refine loop_ret ?_
    | refine DW_ret ?_
    | refine DW_exit ?_
    | refine DW_skip ?_
    | refine DW_cond_t rfl ?_
    | refine DW_cond_f rfl ?_
    | (apply dpC rfl; case h => first | exact S_call alive1 rfl | exact S_len_slice rfl | exact S_len_own rfl rfl | exact S_len_str rfl | exact S_len_nil rfl | exact S_min rfl rfl | exact S_max rfl rfl)
    | refine dpOff rfl rfl ?_
    | ((first | apply dp rfl | apply dpOn rfl rfl | apply dpMay rfl rfl (by first | exact fun _ => trivial | exact fun h => ⟨h, trivial⟩ | exact fun h => ⟨h, h, trivial⟩ | exact fun h => ⟨h, h, h, trivial⟩ | exact fun h => ⟨h, h, h, h, trivial⟩)); case h => ((try intro hg); first | exact as_bool (S_lss rfl rfl) (decide_eq_false h0) | exact as_bool (S_gtr rfl rfl) (decide_eq_false h1) | exact as_bool (S_leq rfl rfl) q | exact as_bool (S_leq rfl rfl) q2 | exact M_d rfl | exact M_p rfl | exact M_o rfl | exact M_n rfl | exact M_r rfl | exact M_a rfl | exact M_m rfl | exact A_d rfl | exact A_p rfl | exact A_o rfl | exact A_n rfl | exact A_r rfl | exact A_a rfl | exact A_m rfl | exact S_load_rp rfl rfl | exact S_load_ptr rfl rfl rfl | exact S_load_ptrs rfl rfl rfl | exact S_fieldAddr_rp rfl rfl | exact S_fieldAddr_ptr rfl rfl | exact S_fieldAddr_rptr rfl rfl rfl | exact S_field rfl rfl | exact S_lss rfl rfl | exact S_leq rfl rfl | exact S_gtr rfl rfl | exact S_geq rfl rfl | exact S_eql rfl rfl | exact S_neq rfl rfl | exact S_not rfl | exact S_pick_T rfl rfl | exact S_pick_F rfl rfl | exact S_pick_and rfl rfl rfl | exact S_pick_or rfl rfl rfl | exact I_add rfl rfl (by simp only [InK]; omega) | exact I_add rfl rfl (by simp only [InK]; simp at hg; omega) | exact S_add rfl rfl | exact I_sub rfl rfl (by simp only [InK]; omega) | exact I_sub rfl rfl (by simp only [InK]; simp at hg; omega) | exact S_sub rfl rfl | exact I_mul rfl rfl (by simp only [InK]; omega) | exact S_mul rfl rfl | exact S_quo rfl rfl (by decide) | exact S_rem rfl rfl (by decide) | exact S_extract rfl rfl | exact I_toInt rfl (by simp only [InK]; omega) | exact W_toInt rfl | exact S_eqlb (BoolI.out) rfl rfl | exact S_neqb (BoolI.out) rfl rfl | exact S_eqls rfl rfl | exact S_eqlA rfl rfl rfl rfl rfl | exact S_neqA rfl rfl rfl rfl rfl | exact S_neqs rfl rfl | exact S_and rfl rfl | exact S_or rfl rfl | exact S_xor rfl rfl | exact S_andNot rfl rfl | exact S_shl rfl rfl (by omega) | exact S_shr rfl rfl (by omega) | exact S_nilCheck_ptr rfl | exact S_nilCheck_rp rfl | exact S_nilCheck_fn rfl | exact S_build rfl | exact S_buildA rfl | exact S_lit rfl rfl rfl rfl | exact S_load_rptr rfl rfl rfl rfl | exact S_field_aggd rfl rfl | exact S_makeFunc rfl | exact S_eqNilT rfl | exact S_ix_slice rfl rfl (by decide) rfl rfl | exact S_ix_arr_ptr rfl rfl (by decide) (by decide) | exact S_index_aggd rfl rfl (by decide) (by decide) rfl | exact S_call alive1 rfl | exact S_len_slice rfl | exact S_len_own rfl rfl | exact S_len_str rfl | exact S_len_nil rfl | exact S_min rfl rfl | exact S_max rfl rfl))
    | refine dpickAnd rfl rfl rfl rfl rfl ?_ | refine dpickOr rfl rfl rfl rfl rfl ?_
    | (apply dt rfl; case h => first | exact as_bool (S_lss rfl rfl) (decide_eq_false h0) | exact as_bool (S_gtr rfl rfl) (decide_eq_false h1) | exact as_bool (S_leq rfl rfl) q | exact as_bool (S_leq rfl rfl) q2 | exact S_alloc _ rfl | exact S_box _ rfl rfl)
    | (apply ds; case h => first | exact as_bool (S_lss rfl rfl) (decide_eq_false h0) | exact as_bool (S_gtr rfl rfl) (decide_eq_false h1) | exact as_bool (S_leq rfl rfl) q | exact as_bool (S_leq rfl rfl) q2 | exact S_store rfl rfl rfl rfl rfl rfl)
    | (apply dm rfl; case h => first | exact as_bool (S_lss rfl rfl) (decide_eq_false h0) | exact as_bool (S_gtr rfl rfl) (decide_eq_false h1) | exact as_bool (S_leq rfl rfl) q | exact as_bool (S_leq rfl rfl) q2 | exact M_d rfl | exact S_alloc 2001 rfl | exact S_alloc 2002 rfl | exact S_alloc 2003 rfl | exact S_alloc 2004 rfl | exact S_alloc 2005 rfl)
    | fail)
      exact ret1 rfl (.inl rfl) rfl
    · have q2 : decide (((key.map byteV).length : Int) ≤ 64) = false := decide_eq_false (by omega)
      have c3 := md5_SumF key hk
      have c4 := md5_MacF (md5S key) b (by rw [md5S_len]; decide) hb
      rw [macS_long (by omega) b] at c4
      repeat' (first
    | refine DW_seq ?_
    | refine DW_region ?_
    | refine DW_draw ?_
    | refine dnilP ?_
    | refine dnilD (by kernel_rfl) ?_
    | refine then_normal ?_
    | refine then_exit ?_
    | refine then_ret ?_
    | refine DW_block ?_
    | refine blk_normal ?_
    | refine blk_ret ?_
    | refine blk_hit rfl ?_
    | refine blk_miss rfl ?_
    | refine loop_exit ?_
    | refine loop_ret ?_
    | refine DW_ret ?_
    | refine DW_exit ?_
    | refine DW_skip ?_
    | refine DW_cond_t rfl ?_
    | refine DW_cond_f rfl ?_
    | (apply dpC rfl; case h => first | exact S_call alive1 rfl | exact S_call c1 rfl | exact S_call c3 rfl | exact S_call c4 rfl | exact S_call s1 rfl | exact S_len_slice rfl | exact S_len_own rfl rfl | exact S_len_str rfl | exact S_len_nil rfl | exact S_min rfl rfl | exact S_max rfl rfl)
    | refine dpOff rfl rfl ?_
    | ((first | apply dp rfl | apply dpOn rfl rfl | apply dpMay rfl rfl (by first | exact fun _ => trivial | exact fun h => ⟨h, trivial⟩ | exact fun h => ⟨h, h, trivial⟩ | exact fun h => ⟨h, h, h, trivial⟩ | exact fun h => ⟨h, h, h, h, trivial⟩)); case h => ((try intro hg); first | exact as_bool (S_lss rfl rfl) (decide_eq_false h0) | exact as_bool (S_gtr rfl rfl) (decide_eq_false h1) | exact as_bool (S_leq rfl rfl) q | exact as_bool (S_leq rfl rfl) q2 | exact M_d rfl | exact M_p rfl | exact M_o rfl | exact M_n rfl | exact M_r rfl | exact M_a rfl | exact M_m rfl | exact A_d rfl | exact A_p rfl | exact A_o rfl | exact A_n rfl | exact A_r rfl | exact A_a rfl | exact A_m rfl | exact S_load_rp rfl rfl | exact S_load_ptr rfl rfl rfl | exact S_load_ptrs rfl rfl rfl | exact S_fieldAddr_rp rfl rfl | exact S_fieldAddr_ptr rfl rfl | exact S_fieldAddr_rptr rfl rfl rfl | exact S_field rfl rfl | exact S_lss rfl rfl | exact S_leq rfl rfl | exact S_gtr rfl rfl | exact S_geq rfl rfl | exact S_eql rfl rfl | exact S_neq rfl rfl | exact S_not rfl | exact S_pick_T rfl rfl | exact S_pick_F rfl rfl | exact S_pick_and rfl rfl rfl | exact S_pick_or rfl rfl rfl | exact I_add rfl rfl (by simp only [InK]; omega) | exact I_add rfl rfl (by simp only [InK]; simp at hg; omega) | exact S_add rfl rfl | exact I_sub rfl rfl (by simp only [InK]; omega) | exact I_sub rfl rfl (by simp only [InK]; simp at hg; omega) | exact S_sub rfl rfl | exact I_mul rfl rfl (by simp only [InK]; omega) | exact S_mul rfl rfl | exact S_quo rfl rfl (by decide) | exact S_rem rfl rfl (by decide) | exact S_extract rfl rfl | exact I_toInt rfl (by simp only [InK]; omega) | exact W_toInt rfl | exact S_eqlb (BoolI.out) rfl rfl | exact S_neqb (BoolI.out) rfl rfl | exact S_eqls rfl rfl | exact S_eqlA rfl rfl rfl rfl rfl | exact S_neqA rfl rfl rfl rfl rfl | exact S_neqs rfl rfl | exact S_and rfl rfl | exact S_or rfl rfl | exact S_xor rfl rfl | exact S_andNot rfl rfl | exact S_shl rfl rfl (by omega) | exact S_shr rfl rfl (by omega) | exact S_nilCheck_ptr rfl | exact S_nilCheck_rp rfl | exact S_nilCheck_fn rfl | exact S_build rfl | exact S_buildA rfl | exact S_lit rfl rfl rfl rfl | exact S_load_rptr rfl rfl rfl rfl | exact S_field_aggd rfl rfl | exact S_makeFunc rfl | exact S_eqNilT rfl | exact S_ix_slice rfl rfl (by decide) rfl rfl | exact S_ix_arr_ptr rfl rfl (by decide) (by decide) | exact S_index_aggd rfl rfl (by decide) (by decide) rfl | exact S_call alive1 rfl | exact S_call c1 rfl | exact S_call c3 rfl | exact S_call c4 rfl | exact S_call s1 rfl | exact S_len_slice rfl | exact S_len_own rfl rfl | exact S_len_str rfl | exact S_len_nil rfl | exact S_min rfl rfl | exact S_max rfl rfl))
    | refine dpickAnd rfl rfl rfl rfl rfl ?_ | refine dpickOr rfl rfl rfl rfl rfl ?_
    | (apply dt rfl; case h => first | exact as_bool (S_lss rfl rfl) (decide_eq_false h0) | exact as_bool (S_gtr rfl rfl) (decide_eq_false h1) | exact as_bool (S_leq rfl rfl) q | exact as_bool (S_leq rfl rfl) q2 | exact S_alloc _ rfl | exact S_box _ rfl rfl)
    | (apply ds; case h => first | exact as_bool (S_lss rfl rfl) (decide_eq_false h0) | exact as_bool (S_gtr rfl rfl) (decide_eq_false h1) | exact as_bool (S_leq rfl rfl) q | exact as_bool (S_leq rfl rfl) q2 | exact S_store rfl rfl rfl rfl rfl rfl)
    | (apply dm rfl; case h => first | exact as_bool (S_lss rfl rfl) (decide_eq_false h0) | exact as_bool (S_gtr rfl rfl) (decide_eq_false h1) | exact as_bool (S_leq rfl rfl) q | exact as_bool (S_leq rfl rfl) q2 | exact M_d rfl | exact S_alloc 2001 rfl | exact S_alloc 2002 rfl | exact S_alloc 2003 rfl | exact S_alloc 2004 rfl | exact S_alloc 2005 rfl)
    | fail)
      exact ret1 rfl (.inl rfl) rfl
end Go.Proofs.Ytjniepfecgcmaaa
