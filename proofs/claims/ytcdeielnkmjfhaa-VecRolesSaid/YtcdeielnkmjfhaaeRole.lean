/- Contracts: vec.Role. -/
import Derived.Test.YtcdeielnkmjfhaaeChoose
namespace Go.Proofs.Ytcdeielnkmjfhaa
open Go.RowKit
attribute [local irreducible] SStep DW DOps thenQ inBlk loopQ retQ FnF Wk

def Offer.blocks (says : Vec) (port : Int) (o : Offer) : Bool := (decide (o.port = port) && decide (0 ≤ o.age) && decide (o.age ≤ 20) && decide (o.vec.cmp says < 0))
def roleOf (says : Vec) (root port : Int) (l : List Offer) : Int := if port = root then 1 else if l.any (Offer.blocks { says with port := port } port) then 3 else 2

theorem vec_Role (says : Vec) (root port : Int) (l : List Offer) : FnF Try.prog 13 [says.v, .int .i64 root, .int .i64 port, offers l] (.int .i64 (roleOf says root port l)) := by
  refine fnF_of Try.func13 rfl rfl rfl ?_
  simp only [envOf, offers]
  refine DW_len 3 rfl (fun hlen => ?_)
  rw [List.length_map] at hlen
  repeat' (first
    | refine DW_cond rfl (fun hb => ?_) (fun hb => ?_)
    | refine DW_seq ?_
    | refine DW_region ?_
    | refine DW_draw ?_
    | refine dnilP ?_
    | refine dnilD (by kernel_rfl) ?_
    | refine then_normal ?_
    | refine then_exit ?_
    | refine then_ret ?_
    | refine DW_block ?_
    | refine blk_normal ?_
    | refine blk_ret ?_
    | refine blk_hit rfl ?_
    | refine blk_miss rfl ?_
    | refine loop_exit ?_
    | refine loop_ret ?_
    | refine DW_ret ?_
    | refine DW_exit ?_
    | refine DW_skip ?_
    | refine DW_cond_t rfl ?_
    | refine DW_cond_f rfl ?_
    | (apply dp rfl; case h => first | exact M_d rfl | exact M_p rfl | exact M_o rfl | exact M_n rfl | exact M_r rfl | exact M_a rfl | exact M_m rfl | exact A_d rfl | exact A_p rfl | exact A_o rfl | exact A_n rfl | exact A_r rfl | exact A_a rfl | exact A_m rfl | exact S_load_rp rfl rfl | exact S_load_ptr rfl rfl rfl | exact S_load_ptrs rfl rfl rfl | exact S_fieldAddr_rp rfl rfl | exact S_fieldAddr_ptr rfl rfl | exact S_fieldAddr_rptr rfl rfl rfl | exact S_field rfl rfl | exact S_lss rfl rfl | exact S_leq rfl rfl | exact S_gtr rfl rfl | exact S_geq rfl rfl | exact S_eql rfl rfl | exact S_neq rfl rfl | exact S_not rfl | exact S_pick_and rfl rfl rfl | exact S_pick_or rfl rfl rfl | exact I_add rfl rfl (by simp only [InK]; omega) | exact I_add rfl rfl (by simp only [InK]; simp at hg; omega) | exact S_add rfl rfl | exact I_sub rfl rfl (by simp only [InK]; omega) | exact I_sub rfl rfl (by simp only [InK]; simp at hg; omega) | exact S_sub rfl rfl | exact I_mul rfl rfl (by simp only [InK]; omega) | exact S_mul rfl rfl | exact S_quo rfl rfl (by decide) | exact S_rem rfl rfl (by decide) | exact S_len_slice rfl | exact S_len_own rfl rfl | exact S_len_str rfl | exact S_len_nil rfl | exact S_extract rfl rfl | exact I_toInt rfl (by simp only [InK]; omega) | exact W_toInt rfl | exact S_eqlb (BoolI.out) rfl rfl | exact S_neqb (BoolI.out) rfl rfl | exact S_eqls rfl rfl | exact S_eqlA rfl rfl rfl rfl rfl | exact S_neqA rfl rfl rfl rfl rfl | exact S_neqs rfl rfl | exact S_and rfl rfl | exact S_or rfl rfl | exact S_xor rfl rfl | exact S_andNot rfl rfl | exact S_shl rfl rfl (by omega) | exact S_shr rfl rfl (by omega) | exact S_nilCheck_ptr rfl | exact S_nilCheck_rp rfl | exact S_nilCheck_fn rfl | exact S_build rfl | exact S_lit rfl rfl rfl rfl | exact S_min rfl rfl | exact S_max rfl rfl)
    | (apply dpMay rfl rfl (by first | exact fun _ => trivial | exact fun h => ⟨h, trivial⟩ | exact fun h => ⟨h, h, trivial⟩ | exact fun h => ⟨h, h, h, trivial⟩ | exact fun h => ⟨h, h, h, h, trivial⟩); case h => (intro hg; first | exact M_d rfl | exact M_p rfl | exact M_o rfl | exact M_n rfl | exact M_r rfl | exact M_a rfl | exact M_m rfl | exact A_d rfl | exact A_p rfl | exact A_o rfl | exact A_n rfl | exact A_r rfl | exact A_a rfl | exact A_m rfl | exact S_load_rp rfl rfl | exact S_load_ptr rfl rfl rfl | exact S_load_ptrs rfl rfl rfl | exact S_fieldAddr_rp rfl rfl | exact S_fieldAddr_ptr rfl rfl | exact S_fieldAddr_rptr rfl rfl rfl | exact S_field rfl rfl | exact S_lss rfl rfl | exact S_leq rfl rfl | exact S_gtr rfl rfl | exact S_geq rfl rfl | exact S_eql rfl rfl | exact S_neq rfl rfl | exact S_not rfl | exact S_pick_and rfl rfl rfl | exact S_pick_or rfl rfl rfl | exact I_add rfl rfl (by simp only [InK]; omega) | exact I_add rfl rfl (by simp only [InK]; simp at hg; omega) | exact S_add rfl rfl | exact I_sub rfl rfl (by simp only [InK]; omega) | exact I_sub rfl rfl (by simp only [InK]; simp at hg; omega) | exact S_sub rfl rfl | exact I_mul rfl rfl (by simp only [InK]; omega) | exact S_mul rfl rfl | exact S_quo rfl rfl (by decide) | exact S_rem rfl rfl (by decide) | exact S_len_slice rfl | exact S_len_own rfl rfl | exact S_len_str rfl | exact S_len_nil rfl | exact S_extract rfl rfl | exact I_toInt rfl (by simp only [InK]; omega) | exact W_toInt rfl | exact S_eqlb (BoolI.out) rfl rfl | exact S_neqb (BoolI.out) rfl rfl | exact S_eqls rfl rfl | exact S_eqlA rfl rfl rfl rfl rfl | exact S_neqA rfl rfl rfl rfl rfl | exact S_neqs rfl rfl | exact S_and rfl rfl | exact S_or rfl rfl | exact S_xor rfl rfl | exact S_andNot rfl rfl | exact S_shl rfl rfl (by omega) | exact S_shr rfl rfl (by omega) | exact S_nilCheck_ptr rfl | exact S_nilCheck_rp rfl | exact S_nilCheck_fn rfl | exact S_build rfl | exact S_lit rfl rfl rfl rfl | exact S_min rfl rfl | exact S_max rfl rfl))
    | refine dpickAnd rfl rfl rfl rfl rfl ?_ | refine dpickOr rfl rfl rfl rfl rfl ?_
    | (apply dt rfl; case h => first | exact S_alloc _ rfl | exact S_box _ rfl rfl)
    | (apply ds; case h => first | exact S_store rfl rfl rfl rfl rfl rfl)
    | (apply dm rfl; case h => first | exact M_d rfl)
    | fail)
  · simp at hb
    refine ret1 rfl (.inl rfl) ?_
    rw [roleOf, if_pos hb]
  simp at hb
  refine DW_loop (fun k : Nat => ⟨[(2, .dat false (.int .i64 port)), (4, .ptr 4 0), (16, .dat false (.slice (l.map Offer.cells))), (17, .dat true (.int .i64 (l.map Offer.cells).length)), (18, .dat true (.int .i64 k))],
      [(4, .cells false true [.dat false (.int .u64 says.root), .dat false (.int .i64 says.cost), .dat false (.int .u64 says.bridge), .dat false (.int .i64 port)])], 44⟩)
    (fun k => k ≤ l.length ∧ l.any (Offer.blocks { says with port := port } port) = (l.drop k).any (Offer.blocks { says with port := port } port)) (fun k => l.length - k) 0 ⟨Nat.zero_le _, rfl⟩
    (Wk_gen some rfl rfl (by (repeat' (first | exact trivial | rfl | exact ⟨_, rfl, .inl rfl⟩ | exact ⟨_, rfl, .inr (.inl rfl)⟩ | exact ⟨_, rfl, .inr (.inr rfl)⟩ | refine ⟨_, _, rfl, rfl, ?_⟩ | exact ⟨_, rfl, rfl⟩ | exact ⟨_, _, _, _, rfl, rfl, rfl⟩ | exact ⟨_, rfl⟩ | apply And.intro))) (by (repeat' (first | exact trivial | rfl | exact ⟨_, rfl, .inl rfl⟩ | exact ⟨_, rfl, .inr (.inl rfl)⟩ | exact ⟨_, rfl, .inr (.inr rfl)⟩ | refine ⟨_, _, rfl, rfl, ?_⟩ | exact ⟨_, rfl, rfl⟩ | exact ⟨_, _, _, _, rfl, rfl, rfl⟩ | exact ⟨_, rfl⟩ | apply And.intro)))) (fun k hR => ?_)
  obtain ⟨hk, hany⟩ := hR
  by_cases hlt : k < l.length
  · have hx : (l.map Offer.cells)[k]? = some (l[k]).cells := by simp [hlt]
    rw [List.drop_eq_getElem_cons hlt, List.any_cons] at hany
    generalize l[k] = o at hx hany
    repeat' (first
    | refine DW_cond rfl (fun hc => ?_) (fun hc => ?_)
    | refine DW_seq ?_
    | refine DW_region ?_
    | refine DW_draw ?_
    | refine dnilP ?_
    | refine dnilD (by kernel_rfl) ?_
    | refine then_normal ?_
    | refine then_exit ?_
    | refine then_ret ?_
    | refine DW_block ?_
    | refine blk_normal ?_
    | refine blk_ret ?_
    | refine blk_hit rfl ?_
    | refine blk_miss rfl ?_
    | refine loop_exit ?_
    | refine loop_ret ?_
    | refine DW_ret ?_
    | refine DW_exit ?_
    | refine DW_skip ?_
    | refine DW_cond_t rfl ?_
    | refine DW_cond_f rfl ?_
    | (apply dp rfl; case h => first | exact S_ix_slice rfl rfl (by omega) hx rfl | exact S_call (vec_Compare o.vec ⟨says.root, says.cost, says.bridge, port⟩) rfl | exact M_d rfl | exact M_p rfl | exact M_o rfl | exact M_n rfl | exact M_r rfl | exact M_a rfl | exact M_m rfl | exact A_d rfl | exact A_p rfl | exact A_o rfl | exact A_n rfl | exact A_r rfl | exact A_a rfl | exact A_m rfl | exact S_load_rp rfl rfl | exact S_load_ptr rfl rfl rfl | exact S_load_ptrs rfl rfl rfl | exact S_fieldAddr_rp rfl rfl | exact S_fieldAddr_ptr rfl rfl | exact S_fieldAddr_rptr rfl rfl rfl | exact S_field rfl rfl | exact S_lss rfl rfl | exact S_leq rfl rfl | exact S_gtr rfl rfl | exact S_geq rfl rfl | exact S_eql rfl rfl | exact S_neq rfl rfl | exact S_not rfl | exact S_pick_and rfl rfl rfl | exact S_pick_or rfl rfl rfl | exact I_add rfl rfl (by simp only [InK]; omega) | exact I_add rfl rfl (by simp only [InK]; simp at hg; omega) | exact S_add rfl rfl | exact I_sub rfl rfl (by simp only [InK]; omega) | exact I_sub rfl rfl (by simp only [InK]; simp at hg; omega) | exact S_sub rfl rfl | exact I_mul rfl rfl (by simp only [InK]; omega) | exact S_mul rfl rfl | exact S_quo rfl rfl (by decide) | exact S_rem rfl rfl (by decide) | exact S_len_slice rfl | exact S_len_own rfl rfl | exact S_len_str rfl | exact S_len_nil rfl | exact S_extract rfl rfl | exact I_toInt rfl (by simp only [InK]; omega) | exact W_toInt rfl | exact S_eqlb (BoolI.out) rfl rfl | exact S_neqb (BoolI.out) rfl rfl | exact S_eqls rfl rfl | exact S_eqlA rfl rfl rfl rfl rfl | exact S_neqA rfl rfl rfl rfl rfl | exact S_neqs rfl rfl | exact S_and rfl rfl | exact S_or rfl rfl | exact S_xor rfl rfl | exact S_andNot rfl rfl | exact S_shl rfl rfl (by omega) | exact S_shr rfl rfl (by omega) | exact S_nilCheck_ptr rfl | exact S_nilCheck_rp rfl | exact S_nilCheck_fn rfl | exact S_build rfl | exact S_lit rfl rfl rfl rfl | exact S_min rfl rfl | exact S_max rfl rfl)
    | (apply dpMay rfl rfl (by first | exact fun _ => trivial | exact fun h => ⟨h, trivial⟩ | exact fun h => ⟨h, h, trivial⟩ | exact fun h => ⟨h, h, h, trivial⟩ | exact fun h => ⟨h, h, h, h, trivial⟩); case h => (intro hg; first | exact S_ix_slice rfl rfl (by omega) hx rfl | exact S_call (vec_Compare o.vec ⟨says.root, says.cost, says.bridge, port⟩) rfl | exact M_d rfl | exact M_p rfl | exact M_o rfl | exact M_n rfl | exact M_r rfl | exact M_a rfl | exact M_m rfl | exact A_d rfl | exact A_p rfl | exact A_o rfl | exact A_n rfl | exact A_r rfl | exact A_a rfl | exact A_m rfl | exact S_load_rp rfl rfl | exact S_load_ptr rfl rfl rfl | exact S_load_ptrs rfl rfl rfl | exact S_fieldAddr_rp rfl rfl | exact S_fieldAddr_ptr rfl rfl | exact S_fieldAddr_rptr rfl rfl rfl | exact S_field rfl rfl | exact S_lss rfl rfl | exact S_leq rfl rfl | exact S_gtr rfl rfl | exact S_geq rfl rfl | exact S_eql rfl rfl | exact S_neq rfl rfl | exact S_not rfl | exact S_pick_and rfl rfl rfl | exact S_pick_or rfl rfl rfl | exact I_add rfl rfl (by simp only [InK]; omega) | exact I_add rfl rfl (by simp only [InK]; simp at hg; omega) | exact S_add rfl rfl | exact I_sub rfl rfl (by simp only [InK]; omega) | exact I_sub rfl rfl (by simp only [InK]; simp at hg; omega) | exact S_sub rfl rfl | exact I_mul rfl rfl (by simp only [InK]; omega) | exact S_mul rfl rfl | exact S_quo rfl rfl (by decide) | exact S_rem rfl rfl (by decide) | exact S_len_slice rfl | exact S_len_own rfl rfl | exact S_len_str rfl | exact S_len_nil rfl | exact S_extract rfl rfl | exact I_toInt rfl (by simp only [InK]; omega) | exact W_toInt rfl | exact S_eqlb (BoolI.out) rfl rfl | exact S_neqb (BoolI.out) rfl rfl | exact S_eqls rfl rfl | exact S_eqlA rfl rfl rfl rfl rfl | exact S_neqA rfl rfl rfl rfl rfl | exact S_neqs rfl rfl | exact S_and rfl rfl | exact S_or rfl rfl | exact S_xor rfl rfl | exact S_andNot rfl rfl | exact S_shl rfl rfl (by omega) | exact S_shr rfl rfl (by omega) | exact S_nilCheck_ptr rfl | exact S_nilCheck_rp rfl | exact S_nilCheck_fn rfl | exact S_build rfl | exact S_lit rfl rfl rfl rfl | exact S_min rfl rfl | exact S_max rfl rfl))
    | refine dpickAnd rfl rfl rfl rfl rfl ?_ | refine dpickOr rfl rfl rfl rfl rfl ?_
    | (apply dt rfl; case h => first | exact S_ix_slice rfl rfl (by omega) hx rfl | exact S_call (vec_Compare o.vec ⟨says.root, says.cost, says.bridge, port⟩) rfl | exact S_alloc _ rfl | exact S_box _ rfl rfl)
    | (apply ds; case h => first | exact S_ix_slice rfl rfl (by omega) hx rfl | exact S_call (vec_Compare o.vec ⟨says.root, says.cost, says.bridge, port⟩) rfl | exact S_store rfl rfl rfl rfl rfl rfl)
    | (apply dm rfl; case h => first | exact S_ix_slice rfl rfl (by omega) hx rfl | exact S_call (vec_Compare o.vec ⟨says.root, says.cost, says.bridge, port⟩) rfl | exact M_d rfl)
    | fail)
    · refine ret1 rfl (.inl rfl) ?_
      have e : Offer.blocks { says with port := port } port o = true := hc
      rw [roleOf, if_neg hb, hany, e]; rfl
    · have e : Offer.blocks { says with port := port } port o = false := hc
      refine loop_again (k + 1) ⟨hlt, by rw [hany, e]; rfl⟩ (by omega) (Wk_gen some rfl rfl (by (repeat' (first | exact trivial | rfl | exact ⟨_, rfl, .inl rfl⟩ | exact ⟨_, rfl, .inr (.inl rfl)⟩ | exact ⟨_, rfl, .inr (.inr rfl)⟩ | refine ⟨_, _, rfl, rfl, ?_⟩ | exact ⟨_, rfl, rfl⟩ | exact ⟨_, _, _, _, rfl, rfl, rfl⟩ | exact ⟨_, rfl⟩ | apply And.intro))) (by (repeat' (first | exact trivial | rfl | exact ⟨_, rfl, .inl rfl⟩ | exact ⟨_, rfl, .inr (.inl rfl)⟩ | exact ⟨_, rfl, .inr (.inr rfl)⟩ | refine ⟨_, _, rfl, rfl, ?_⟩ | exact ⟨_, rfl, rfl⟩ | exact ⟨_, _, _, _, rfl, rfl, rfl⟩ | exact ⟨_, rfl⟩ | apply And.intro))))
    · simp at hc; omega
  · repeat' (first
    | refine DW_cond rfl (fun hc => ?_) (fun hc => ?_)
    | refine DW_seq ?_
    | refine DW_region ?_
    | refine DW_draw ?_
    | refine dnilP ?_
    | refine dnilD (by kernel_rfl) ?_
    | refine then_normal ?_
    | refine then_exit ?_
    | refine then_ret ?_
    | refine DW_block ?_
    | refine blk_normal ?_
    | refine blk_ret ?_
    | refine blk_hit rfl ?_
    | refine blk_miss rfl ?_
    | refine loop_exit ?_
    | refine loop_ret ?_
    | refine DW_ret ?_
    | refine DW_exit ?_
    | refine DW_skip ?_
    | refine DW_cond_t rfl ?_
    | refine DW_cond_f rfl ?_
    | (apply dp rfl; case h => first | exact M_d rfl | exact M_p rfl | exact M_o rfl | exact M_n rfl | exact M_r rfl | exact M_a rfl | exact M_m rfl | exact A_d rfl | exact A_p rfl | exact A_o rfl | exact A_n rfl | exact A_r rfl | exact A_a rfl | exact A_m rfl | exact S_load_rp rfl rfl | exact S_load_ptr rfl rfl rfl | exact S_load_ptrs rfl rfl rfl | exact S_fieldAddr_rp rfl rfl | exact S_fieldAddr_ptr rfl rfl | exact S_fieldAddr_rptr rfl rfl rfl | exact S_field rfl rfl | exact S_lss rfl rfl | exact S_leq rfl rfl | exact S_gtr rfl rfl | exact S_geq rfl rfl | exact S_eql rfl rfl | exact S_neq rfl rfl | exact S_not rfl | exact S_pick_and rfl rfl rfl | exact S_pick_or rfl rfl rfl | exact I_add rfl rfl (by simp only [InK]; omega) | exact I_add rfl rfl (by simp only [InK]; simp at hg; omega) | exact S_add rfl rfl | exact I_sub rfl rfl (by simp only [InK]; omega) | exact I_sub rfl rfl (by simp only [InK]; simp at hg; omega) | exact S_sub rfl rfl | exact I_mul rfl rfl (by simp only [InK]; omega) | exact S_mul rfl rfl | exact S_quo rfl rfl (by decide) | exact S_rem rfl rfl (by decide) | exact S_len_slice rfl | exact S_len_own rfl rfl | exact S_len_str rfl | exact S_len_nil rfl | exact S_extract rfl rfl | exact I_toInt rfl (by simp only [InK]; omega) | exact W_toInt rfl | exact S_eqlb (BoolI.out) rfl rfl | exact S_neqb (BoolI.out) rfl rfl | exact S_eqls rfl rfl | exact S_eqlA rfl rfl rfl rfl rfl | exact S_neqA rfl rfl rfl rfl rfl | exact S_neqs rfl rfl | exact S_and rfl rfl | exact S_or rfl rfl | exact S_xor rfl rfl | exact S_andNot rfl rfl | exact S_shl rfl rfl (by omega) | exact S_shr rfl rfl (by omega) | exact S_nilCheck_ptr rfl | exact S_nilCheck_rp rfl | exact S_nilCheck_fn rfl | exact S_build rfl | exact S_lit rfl rfl rfl rfl | exact S_min rfl rfl | exact S_max rfl rfl)
    | (apply dpMay rfl rfl (by first | exact fun _ => trivial | exact fun h => ⟨h, trivial⟩ | exact fun h => ⟨h, h, trivial⟩ | exact fun h => ⟨h, h, h, trivial⟩ | exact fun h => ⟨h, h, h, h, trivial⟩); case h => (intro hg; first | exact M_d rfl | exact M_p rfl | exact M_o rfl | exact M_n rfl | exact M_r rfl | exact M_a rfl | exact M_m rfl | exact A_d rfl | exact A_p rfl | exact A_o rfl | exact A_n rfl | exact A_r rfl | exact A_a rfl | exact A_m rfl | exact S_load_rp rfl rfl | exact S_load_ptr rfl rfl rfl | exact S_load_ptrs rfl rfl rfl | exact S_fieldAddr_rp rfl rfl | exact S_fieldAddr_ptr rfl rfl | exact S_fieldAddr_rptr rfl rfl rfl | exact S_field rfl rfl | exact S_lss rfl rfl | exact S_leq rfl rfl | exact S_gtr rfl rfl | exact S_geq rfl rfl | exact S_eql rfl rfl | exact S_neq rfl rfl | exact S_not rfl | exact S_pick_and rfl rfl rfl | exact S_pick_or rfl rfl rfl | exact I_add rfl rfl (by simp only [InK]; omega) | exact I_add rfl rfl (by simp only [InK]; simp at hg; omega) | exact S_add rfl rfl | exact I_sub rfl rfl (by simp only [InK]; omega) | exact I_sub rfl rfl (by simp only [InK]; simp at hg; omega) | exact S_sub rfl rfl | exact I_mul rfl rfl (by simp only [InK]; omega) | exact S_mul rfl rfl | exact S_quo rfl rfl (by decide) | exact S_rem rfl rfl (by decide) | exact S_len_slice rfl | exact S_len_own rfl rfl | exact S_len_str rfl | exact S_len_nil rfl | exact S_extract rfl rfl | exact I_toInt rfl (by simp only [InK]; omega) | exact W_toInt rfl | exact S_eqlb (BoolI.out) rfl rfl | exact S_neqb (BoolI.out) rfl rfl | exact S_eqls rfl rfl | exact S_eqlA rfl rfl rfl rfl rfl | exact S_neqA rfl rfl rfl rfl rfl | exact S_neqs rfl rfl | exact S_and rfl rfl | exact S_or rfl rfl | exact S_xor rfl rfl | exact S_andNot rfl rfl | exact S_shl rfl rfl (by omega) | exact S_shr rfl rfl (by omega) | exact S_nilCheck_ptr rfl | exact S_nilCheck_rp rfl | exact S_nilCheck_fn rfl | exact S_build rfl | exact S_lit rfl rfl rfl rfl | exact S_min rfl rfl | exact S_max rfl rfl))
    | refine dpickAnd rfl rfl rfl rfl rfl ?_ | refine dpickOr rfl rfl rfl rfl rfl ?_
    | (apply dt rfl; case h => first | exact S_alloc _ rfl | exact S_box _ rfl rfl)
    | (apply ds; case h => first | exact S_store rfl rfl rfl rfl rfl rfl)
    | (apply dm rfl; case h => first | exact M_d rfl)
    | fail)
    · simp at hc; omega
    · refine ret1 rfl (.inl rfl) ?_
      rw [roleOf, if_neg hb, hany, List.drop_eq_nil_of_le (by omega)]; rfl
end Go.Proofs.Ytcdeielnkmjfhaa
