/- The laws of chapter 5: VecRoles. -/
import Derived.Test.YtcdeielnkmjfhaafLaw5
import Derived.Test.YtcdeielnkmjfhaaeRole
namespace Go.Proofs.Ytcdeielnkmjfhaa
open Go.RowKit
attribute [local irreducible] SStep DW DOps thenQ inBlk loopQ retQ FnF Wk

theorem law_VecRoles (a b : Vec) (p q : Int) : FnF Try.prog 6 [a.v, b.v, .int .i64 p, .int .i64 q] (.bool true) := by
  refine fnF_of Try.func6 rfl rfl rfl ?_
  simp only [envOf]
  repeat' (first
    | refine DW_cond rfl (fun hb => ?_) (fun hb => ?_)
    | refine DW_seq ?_
    | refine DW_region ?_
    | refine DW_draw ?_
    | refine dnilP ?_
    | refine dnilD (by kernel_rfl) ?_
    | refine then_normal ?_
    | refine then_exit ?_
    | refine then_ret ?_
    | refine DW_block ?_
    | refine blk_normal ?_
    | refine blk_ret ?_
    | refine blk_hit rfl ?_
    | refine blk_miss rfl ?_
    | refine loop_exit ?_
    | refine loop_ret ?_
    | refine DW_ret ?_
    | refine DW_exit ?_
    | refine DW_skip ?_
    | refine DW_cond_t rfl ?_
    | refine DW_cond_f rfl ?_
    | (apply dp rfl; case h => first | exact S_call alive5 rfl | exact S_call (vec_Role ⟨a.root, a.cost, a.bridge, p⟩ (-1) p [⟨p, 0, 0, ⟨b.root, b.cost, b.bridge, q⟩⟩]) rfl | exact S_call (vec_Role ⟨b.root, b.cost, b.bridge, q⟩ (-1) q [⟨q, 0, 0, ⟨a.root, a.cost, a.bridge, p⟩⟩]) rfl | exact M_d rfl | exact M_p rfl | exact M_o rfl | exact M_n rfl | exact M_r rfl | exact M_a rfl | exact M_m rfl | exact A_d rfl | exact A_p rfl | exact A_o rfl | exact A_n rfl | exact A_r rfl | exact A_a rfl | exact A_m rfl | exact S_load_rp rfl rfl | exact S_load_ptr rfl rfl rfl | exact S_load_ptrs rfl rfl rfl | exact S_fieldAddr_rp rfl rfl | exact S_fieldAddr_ptr rfl rfl | exact S_fieldAddr_rptr rfl rfl rfl | exact S_field rfl rfl | exact S_lss rfl rfl | exact S_leq rfl rfl | exact S_gtr rfl rfl | exact S_geq rfl rfl | exact S_eql rfl rfl | exact S_neq rfl rfl | exact S_not rfl | exact S_pick_and rfl rfl rfl | exact S_pick_or rfl rfl rfl | exact I_add rfl rfl (by simp only [InK]; omega) | exact I_add rfl rfl (by simp only [InK]; simp at hg; omega) | exact S_add rfl rfl | exact I_sub rfl rfl (by simp only [InK]; omega) | exact I_sub rfl rfl (by simp only [InK]; simp at hg; omega) | exact S_sub rfl rfl | exact I_mul rfl rfl (by simp only [InK]; omega) | exact S_mul rfl rfl | exact S_quo rfl rfl (by decide) | exact S_rem rfl rfl (by decide) | exact S_len_slice rfl | exact S_len_own rfl rfl | exact S_len_str rfl | exact S_len_nil rfl | exact S_extract rfl rfl | exact I_toInt rfl (by simp only [InK]; omega) | exact W_toInt rfl | exact S_eqlb (BoolI.out) rfl rfl | exact S_neqb (BoolI.out) rfl rfl | exact S_eqls rfl rfl | exact S_eqlA rfl rfl rfl rfl rfl | exact S_neqA rfl rfl rfl rfl rfl | exact S_neqs rfl rfl | exact S_and rfl rfl | exact S_or rfl rfl | exact S_xor rfl rfl | exact S_andNot rfl rfl | exact S_shl rfl rfl (by omega) | exact S_shr rfl rfl (by omega) | exact S_nilCheck_ptr rfl | exact S_nilCheck_rp rfl | exact S_nilCheck_fn rfl | exact S_build rfl | exact S_lit rfl rfl rfl rfl | exact S_min rfl rfl | exact S_max rfl rfl)
    | (apply dpMay rfl rfl (by first | exact fun _ => trivial | exact fun h => ⟨h, trivial⟩ | exact fun h => ⟨h, h, trivial⟩ | exact fun h => ⟨h, h, h, trivial⟩ | exact fun h => ⟨h, h, h, h, trivial⟩); case h => (intro hg; first | exact S_call alive5 rfl | exact S_call (vec_Role ⟨a.root, a.cost, a.bridge, p⟩ (-1) p [⟨p, 0, 0, ⟨b.root, b.cost, b.bridge, q⟩⟩]) rfl | exact S_call (vec_Role ⟨b.root, b.cost, b.bridge, q⟩ (-1) q [⟨q, 0, 0, ⟨a.root, a.cost, a.bridge, p⟩⟩]) rfl | exact M_d rfl | exact M_p rfl | exact M_o rfl | exact M_n rfl | exact M_r rfl | exact M_a rfl | exact M_m rfl | exact A_d rfl | exact A_p rfl | exact A_o rfl | exact A_n rfl | exact A_r rfl | exact A_a rfl | exact A_m rfl | exact S_load_rp rfl rfl | exact S_load_ptr rfl rfl rfl | exact S_load_ptrs rfl rfl rfl | exact S_fieldAddr_rp rfl rfl | exact S_fieldAddr_ptr rfl rfl | exact S_fieldAddr_rptr rfl rfl rfl | exact S_field rfl rfl | exact S_lss rfl rfl | exact S_leq rfl rfl | exact S_gtr rfl rfl | exact S_geq rfl rfl | exact S_eql rfl rfl | exact S_neq rfl rfl | exact S_not rfl | exact S_pick_and rfl rfl rfl | exact S_pick_or rfl rfl rfl | exact I_add rfl rfl (by simp only [InK]; omega) | exact I_add rfl rfl (by simp only [InK]; simp at hg; omega) | exact S_add rfl rfl | exact I_sub rfl rfl (by simp only [InK]; omega) | exact I_sub rfl rfl (by simp only [InK]; simp at hg; omega) | exact S_sub rfl rfl | exact I_mul rfl rfl (by simp only [InK]; omega) | exact S_mul rfl rfl | exact S_quo rfl rfl (by decide) | exact S_rem rfl rfl (by decide) | exact S_len_slice rfl | exact S_len_own rfl rfl | exact S_len_str rfl | exact S_len_nil rfl | exact S_extract rfl rfl | exact I_toInt rfl (by simp only [InK]; omega) | exact W_toInt rfl | exact S_eqlb (BoolI.out) rfl rfl | exact S_neqb (BoolI.out) rfl rfl | exact S_eqls rfl rfl | exact S_eqlA rfl rfl rfl rfl rfl | exact S_neqA rfl rfl rfl rfl rfl | exact S_neqs rfl rfl | exact S_and rfl rfl | exact S_or rfl rfl | exact S_xor rfl rfl | exact S_andNot rfl rfl | exact S_shl rfl rfl (by omega) | exact S_shr rfl rfl (by omega) | exact S_nilCheck_ptr rfl | exact S_nilCheck_rp rfl | exact S_nilCheck_fn rfl | exact S_build rfl | exact S_lit rfl rfl rfl rfl | exact S_min rfl rfl | exact S_max rfl rfl))
    | refine dpickAnd rfl rfl rfl rfl rfl ?_ | refine dpickOr rfl rfl rfl rfl rfl ?_
    | (apply dt rfl; case h => first | exact S_call alive5 rfl | exact S_call (vec_Role ⟨a.root, a.cost, a.bridge, p⟩ (-1) p [⟨p, 0, 0, ⟨b.root, b.cost, b.bridge, q⟩⟩]) rfl | exact S_call (vec_Role ⟨b.root, b.cost, b.bridge, q⟩ (-1) q [⟨q, 0, 0, ⟨a.root, a.cost, a.bridge, p⟩⟩]) rfl | exact S_alloc _ rfl | exact S_box _ rfl rfl)
    | (apply ds; case h => first | exact S_call alive5 rfl | exact S_call (vec_Role ⟨a.root, a.cost, a.bridge, p⟩ (-1) p [⟨p, 0, 0, ⟨b.root, b.cost, b.bridge, q⟩⟩]) rfl | exact S_call (vec_Role ⟨b.root, b.cost, b.bridge, q⟩ (-1) q [⟨q, 0, 0, ⟨a.root, a.cost, a.bridge, p⟩⟩]) rfl | exact S_store rfl rfl rfl rfl rfl rfl)
    | (apply dm rfl; case h => first | exact S_call alive5 rfl | exact S_call (vec_Role ⟨a.root, a.cost, a.bridge, p⟩ (-1) p [⟨p, 0, 0, ⟨b.root, b.cost, b.bridge, q⟩⟩]) rfl | exact S_call (vec_Role ⟨b.root, b.cost, b.bridge, q⟩ (-1) q [⟨q, 0, 0, ⟨a.root, a.cost, a.bridge, p⟩⟩]) rfl | exact M_d rfl)
    | fail)
  · simp at hb
  · exact ret1 rfl (.inl rfl) rfl
  · exact ret1 rfl (.inl rfl) rfl
  · refine ret1 rfl (.inl rfl) ?_
    rename_i h1 h2
    simp at h2 hb
    have h : ∀ (u v : Vec) (r : Int), r ≠ -1 → roleOf u (-1) r [⟨r, 0, 0, v⟩] = if v.cmp { u with port := r } < 0 then 3 else 2 := fun u v r hr => by
      simp [roleOf, Offer.blocks, hr]
    rw [h _ _ _ hb.1, h _ _ _ hb.2]
    have hne : Vec.cmp ⟨a.root, a.cost, a.bridge, p⟩ ⟨b.root, b.cost, b.bridge, q⟩ ≠ 0 := fun e => by
      rw [Vec.cmp_eq] at e
      exact h2 e.1 e.2.1 e.2.2.1 e.2.2.2
    have hs : Vec.cmp ⟨a.root, a.cost, a.bridge, p⟩ ⟨b.root, b.cost, b.bridge, q⟩ < 0 ↔ 0 < Vec.cmp ⟨b.root, b.cost, b.bridge, q⟩ ⟨a.root, a.cost, a.bridge, p⟩ := by rw [Vec.cmp_lt, Vec.cmp_gt]; simp only; omega
    have hs2 : Vec.cmp ⟨b.root, b.cost, b.bridge, q⟩ ⟨a.root, a.cost, a.bridge, p⟩ < 0 ↔ 0 < Vec.cmp ⟨a.root, a.cost, a.bridge, p⟩ ⟨b.root, b.cost, b.bridge, q⟩ := by rw [Vec.cmp_lt, Vec.cmp_gt]; simp only; omega
    by_cases g : Vec.cmp ⟨a.root, a.cost, a.bridge, p⟩ ⟨b.root, b.cost, b.bridge, q⟩ < 0
    · have g2 : ¬ Vec.cmp ⟨b.root, b.cost, b.bridge, q⟩ ⟨a.root, a.cost, a.bridge, p⟩ < 0 := by omega
      simp [g, g2]
    · have g2 : Vec.cmp ⟨b.root, b.cost, b.bridge, q⟩ ⟨a.root, a.cost, a.bridge, p⟩ < 0 := by omega
      simp [g, g2]
end Go.Proofs.Ytcdeielnkmjfhaa
