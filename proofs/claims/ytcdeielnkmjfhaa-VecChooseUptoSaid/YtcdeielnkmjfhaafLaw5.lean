/- The laws of chapter 5: VecOrder, VecOver. -/
import Derived.Test.YtcdeielnkmjfhaaeChoose
namespace Go.Proofs.Ytcdeielnkmjfhaa
open Go.RowKit
attribute [local irreducible] SStep DW DOps thenQ inBlk loopQ retQ FnF Wk

theorem alive5 : FnF Try.prog 9 [] (.bool true) := by
  refine fnF_of Try.func9 rfl rfl rfl ?_
  simp only [envOf]
  repeat' (first
    | refine DW_seq ?_
    | refine DW_region ?_
    | refine DW_draw ?_
    | refine dnilP ?_
    | refine dnilD (by kernel_rfl) ?_
    | refine then_normal ?_
    | refine then_exit ?_
    | refine then_ret ?_
    | refine DW_block ?_
    | refine blk_normal ?_
    | refine blk_ret ?_
    | refine blk_hit rfl ?_
    | refine blk_miss rfl ?_
    | refine loop_exit ?_
    | refine loop_ret ?_
    | refine DW_ret ?_
    | refine DW_exit ?_
    | refine DW_skip ?_
    | refine DW_cond_t rfl ?_
    | refine DW_cond_f rfl ?_
    | (apply dp rfl; case h => first | exact S_call (vec_Choose 9 [⟨4, 3, 1, ⟨5, 2, 0, 0⟩⟩]) rfl | exact S_call (vec_Compare ⟨1, 0, 0, 0⟩ ⟨2, 0, 0, 0⟩) rfl | exact M_d rfl | exact M_p rfl | exact M_o rfl | exact M_n rfl | exact M_r rfl | exact M_a rfl | exact M_m rfl | exact A_d rfl | exact A_p rfl | exact A_o rfl | exact A_n rfl | exact A_r rfl | exact A_a rfl | exact A_m rfl | exact S_load_rp rfl rfl | exact S_load_ptr rfl rfl rfl | exact S_load_ptrs rfl rfl rfl | exact S_fieldAddr_rp rfl rfl | exact S_fieldAddr_ptr rfl rfl | exact S_fieldAddr_rptr rfl rfl rfl | exact S_field rfl rfl | exact S_lss rfl rfl | exact S_leq rfl rfl | exact S_gtr rfl rfl | exact S_geq rfl rfl | exact S_eql rfl rfl | exact S_neq rfl rfl | exact S_not rfl | exact S_pick_and rfl rfl rfl | exact S_pick_or rfl rfl rfl | exact I_add rfl rfl (by simp only [InK]; omega) | exact I_add rfl rfl (by simp only [InK]; simp at hg; omega) | exact S_add rfl rfl | exact I_sub rfl rfl (by simp only [InK]; omega) | exact I_sub rfl rfl (by simp only [InK]; simp at hg; omega) | exact S_sub rfl rfl | exact I_mul rfl rfl (by simp only [InK]; omega) | exact S_mul rfl rfl | exact S_quo rfl rfl (by decide) | exact S_rem rfl rfl (by decide) | exact S_len_slice rfl | exact S_len_own rfl rfl | exact S_len_str rfl | exact S_len_nil rfl | exact S_extract rfl rfl | exact I_toInt rfl (by simp only [InK]; omega) | exact W_toInt rfl | exact S_eqlb (BoolI.out) rfl rfl | exact S_neqb (BoolI.out) rfl rfl | exact S_eqls rfl rfl | exact S_eqlA rfl rfl rfl rfl rfl | exact S_neqA rfl rfl rfl rfl rfl | exact S_neqs rfl rfl | exact S_and rfl rfl | exact S_or rfl rfl | exact S_xor rfl rfl | exact S_andNot rfl rfl | exact S_shl rfl rfl (by omega) | exact S_shr rfl rfl (by omega) | exact S_nilCheck_ptr rfl | exact S_nilCheck_rp rfl | exact S_nilCheck_fn rfl | exact S_build rfl | exact S_lit rfl rfl rfl rfl | exact S_min rfl rfl | exact S_max rfl rfl)
    | (apply dpMay rfl rfl (by first | exact fun _ => trivial | exact fun h => ⟨h, trivial⟩ | exact fun h => ⟨h, h, trivial⟩ | exact fun h => ⟨h, h, h, trivial⟩ | exact fun h => ⟨h, h, h, h, trivial⟩); case h => (intro hg; first | exact S_call (vec_Choose 9 [⟨4, 3, 1, ⟨5, 2, 0, 0⟩⟩]) rfl | exact S_call (vec_Compare ⟨1, 0, 0, 0⟩ ⟨2, 0, 0, 0⟩) rfl | exact M_d rfl | exact M_p rfl | exact M_o rfl | exact M_n rfl | exact M_r rfl | exact M_a rfl | exact M_m rfl | exact A_d rfl | exact A_p rfl | exact A_o rfl | exact A_n rfl | exact A_r rfl | exact A_a rfl | exact A_m rfl | exact S_load_rp rfl rfl | exact S_load_ptr rfl rfl rfl | exact S_load_ptrs rfl rfl rfl | exact S_fieldAddr_rp rfl rfl | exact S_fieldAddr_ptr rfl rfl | exact S_fieldAddr_rptr rfl rfl rfl | exact S_field rfl rfl | exact S_lss rfl rfl | exact S_leq rfl rfl | exact S_gtr rfl rfl | exact S_geq rfl rfl | exact S_eql rfl rfl | exact S_neq rfl rfl | exact S_not rfl | exact S_pick_and rfl rfl rfl | exact S_pick_or rfl rfl rfl | exact I_add rfl rfl (by simp only [InK]; omega) | exact I_add rfl rfl (by simp only [InK]; simp at hg; omega) | exact S_add rfl rfl | exact I_sub rfl rfl (by simp only [InK]; omega) | exact I_sub rfl rfl (by simp only [InK]; simp at hg; omega) | exact S_sub rfl rfl | exact I_mul rfl rfl (by simp only [InK]; omega) | exact S_mul rfl rfl | exact S_quo rfl rfl (by decide) | exact S_rem rfl rfl (by decide) | exact S_len_slice rfl | exact S_len_own rfl rfl | exact S_len_str rfl | exact S_len_nil rfl | exact S_extract rfl rfl | exact I_toInt rfl (by simp only [InK]; omega) | exact W_toInt rfl | exact S_eqlb (BoolI.out) rfl rfl | exact S_neqb (BoolI.out) rfl rfl | exact S_eqls rfl rfl | exact S_eqlA rfl rfl rfl rfl rfl | exact S_neqA rfl rfl rfl rfl rfl | exact S_neqs rfl rfl | exact S_and rfl rfl | exact S_or rfl rfl | exact S_xor rfl rfl | exact S_andNot rfl rfl | exact S_shl rfl rfl (by omega) | exact S_shr rfl rfl (by omega) | exact S_nilCheck_ptr rfl | exact S_nilCheck_rp rfl | exact S_nilCheck_fn rfl | exact S_build rfl | exact S_lit rfl rfl rfl rfl | exact S_min rfl rfl | exact S_max rfl rfl))
    | refine dpickAnd rfl rfl rfl rfl rfl ?_ | refine dpickOr rfl rfl rfl rfl rfl ?_
    | (apply dt rfl; case h => first | exact S_call (vec_Choose 9 [⟨4, 3, 1, ⟨5, 2, 0, 0⟩⟩]) rfl | exact S_call (vec_Compare ⟨1, 0, 0, 0⟩ ⟨2, 0, 0, 0⟩) rfl | exact S_alloc _ rfl | exact S_box _ rfl rfl)
    | (apply ds; case h => first | exact S_call (vec_Choose 9 [⟨4, 3, 1, ⟨5, 2, 0, 0⟩⟩]) rfl | exact S_call (vec_Compare ⟨1, 0, 0, 0⟩ ⟨2, 0, 0, 0⟩) rfl | exact S_store rfl rfl rfl rfl rfl rfl)
    | (apply dm rfl; case h => first | exact S_call (vec_Choose 9 [⟨4, 3, 1, ⟨5, 2, 0, 0⟩⟩]) rfl | exact S_call (vec_Compare ⟨1, 0, 0, 0⟩ ⟨2, 0, 0, 0⟩) rfl | exact M_d rfl)
    | fail)

  exact ret1 rfl (.inl rfl) rfl
theorem orI_lt {x y : Int} {r : List Int} : orI (cmpI x y :: r) < 0 ↔ x < y ∨ (x = y ∧ orI r < 0) := by
  simp only [orI, cmpI]; (repeat' split) <;> omega
theorem orI_gt {x y : Int} {r : List Int} : 0 < orI (cmpI x y :: r) ↔ y < x ∨ (x = y ∧ 0 < orI r) := by
  simp only [orI, cmpI]; (repeat' split) <;> omega
theorem orI_eq {x y : Int} {r : List Int} : orI (cmpI x y :: r) = 0 ↔ x = y ∧ orI r = 0 := by
  simp only [orI, cmpI]; (repeat' split) <;> omega
theorem orI_nil : orI [] = 0 := rfl
theorem Vec.cmp_lt {a b : Vec} : a.cmp b < 0 ↔ a.root < b.root ∨ (a.root = b.root ∧ (a.cost < b.cost ∨ (a.cost = b.cost ∧ (a.bridge < b.bridge ∨ (a.bridge = b.bridge ∧ a.port < b.port))))) := by
  simp only [Vec.cmp, orI_lt, orI_nil]; omega
theorem Vec.cmp_gt {a b : Vec} : 0 < a.cmp b ↔ b.root < a.root ∨ (a.root = b.root ∧ (b.cost < a.cost ∨ (a.cost = b.cost ∧ (b.bridge < a.bridge ∨ (a.bridge = b.bridge ∧ b.port < a.port))))) := by
  simp only [Vec.cmp, orI_gt, orI_nil]; omega
theorem Vec.cmp_eq {a b : Vec} : a.cmp b = 0 ↔ a.root = b.root ∧ a.cost = b.cost ∧ a.bridge = b.bridge ∧ a.port = b.port := by
  simp [Vec.cmp, orI_eq, orI_nil]

theorem law_VecOrder (a b c : Vec) : FnF Try.prog 3 [a.v, b.v, c.v] (.bool true) := by
  refine fnF_of Try.func3 rfl rfl rfl ?_
  simp only [envOf]
  repeat' (first
    | refine DW_cond rfl (fun hb => ?_) (fun hb => ?_)
    | refine DW_seq ?_
    | refine DW_region ?_
    | refine DW_draw ?_
    | refine dnilP ?_
    | refine dnilD (by kernel_rfl) ?_
    | refine then_normal ?_
    | refine then_exit ?_
    | refine then_ret ?_
    | refine DW_block ?_
    | refine blk_normal ?_
    | refine blk_ret ?_
    | refine blk_hit rfl ?_
    | refine blk_miss rfl ?_
    | refine loop_exit ?_
    | refine loop_ret ?_
    | refine DW_ret ?_
    | refine DW_exit ?_
    | refine DW_skip ?_
    | refine DW_cond_t rfl ?_
    | refine DW_cond_f rfl ?_
    | (apply dp rfl; case h => first | exact S_call alive5 rfl | exact S_call (vec_Compare a b) rfl | exact S_call (vec_Compare b a) rfl | exact S_call (vec_Compare b c) rfl | exact S_call (vec_Compare a c) rfl | exact M_d rfl | exact M_p rfl | exact M_o rfl | exact M_n rfl | exact M_r rfl | exact M_a rfl | exact M_m rfl | exact A_d rfl | exact A_p rfl | exact A_o rfl | exact A_n rfl | exact A_r rfl | exact A_a rfl | exact A_m rfl | exact S_load_rp rfl rfl | exact S_load_ptr rfl rfl rfl | exact S_load_ptrs rfl rfl rfl | exact S_fieldAddr_rp rfl rfl | exact S_fieldAddr_ptr rfl rfl | exact S_fieldAddr_rptr rfl rfl rfl | exact S_field rfl rfl | exact S_lss rfl rfl | exact S_leq rfl rfl | exact S_gtr rfl rfl | exact S_geq rfl rfl | exact S_eql rfl rfl | exact S_neq rfl rfl | exact S_not rfl | exact S_pick_and rfl rfl rfl | exact S_pick_or rfl rfl rfl | exact I_add rfl rfl (by simp only [InK]; omega) | exact I_add rfl rfl (by simp only [InK]; simp at hg; omega) | exact S_add rfl rfl | exact I_sub rfl rfl (by simp only [InK]; omega) | exact I_sub rfl rfl (by simp only [InK]; simp at hg; omega) | exact S_sub rfl rfl | exact I_mul rfl rfl (by simp only [InK]; omega) | exact S_mul rfl rfl | exact S_quo rfl rfl (by decide) | exact S_rem rfl rfl (by decide) | exact S_len_slice rfl | exact S_len_own rfl rfl | exact S_len_str rfl | exact S_len_nil rfl | exact S_extract rfl rfl | exact I_toInt rfl (by simp only [InK]; omega) | exact W_toInt rfl | exact S_eqlb (BoolI.out) rfl rfl | exact S_neqb (BoolI.out) rfl rfl | exact S_eqls rfl rfl | exact S_eqlA rfl rfl rfl rfl rfl | exact S_neqA rfl rfl rfl rfl rfl | exact S_neqs rfl rfl | exact S_and rfl rfl | exact S_or rfl rfl | exact S_xor rfl rfl | exact S_andNot rfl rfl | exact S_shl rfl rfl (by omega) | exact S_shr rfl rfl (by omega) | exact S_nilCheck_ptr rfl | exact S_nilCheck_rp rfl | exact S_nilCheck_fn rfl | exact S_build rfl | exact S_lit rfl rfl rfl rfl | exact S_min rfl rfl | exact S_max rfl rfl)
    | (apply dpMay rfl rfl (by first | exact fun _ => trivial | exact fun h => ⟨h, trivial⟩ | exact fun h => ⟨h, h, trivial⟩ | exact fun h => ⟨h, h, h, trivial⟩ | exact fun h => ⟨h, h, h, h, trivial⟩); case h => (intro hg; first | exact S_call alive5 rfl | exact S_call (vec_Compare a b) rfl | exact S_call (vec_Compare b a) rfl | exact S_call (vec_Compare b c) rfl | exact S_call (vec_Compare a c) rfl | exact M_d rfl | exact M_p rfl | exact M_o rfl | exact M_n rfl | exact M_r rfl | exact M_a rfl | exact M_m rfl | exact A_d rfl | exact A_p rfl | exact A_o rfl | exact A_n rfl | exact A_r rfl | exact A_a rfl | exact A_m rfl | exact S_load_rp rfl rfl | exact S_load_ptr rfl rfl rfl | exact S_load_ptrs rfl rfl rfl | exact S_fieldAddr_rp rfl rfl | exact S_fieldAddr_ptr rfl rfl | exact S_fieldAddr_rptr rfl rfl rfl | exact S_field rfl rfl | exact S_lss rfl rfl | exact S_leq rfl rfl | exact S_gtr rfl rfl | exact S_geq rfl rfl | exact S_eql rfl rfl | exact S_neq rfl rfl | exact S_not rfl | exact S_pick_and rfl rfl rfl | exact S_pick_or rfl rfl rfl | exact I_add rfl rfl (by simp only [InK]; omega) | exact I_add rfl rfl (by simp only [InK]; simp at hg; omega) | exact S_add rfl rfl | exact I_sub rfl rfl (by simp only [InK]; omega) | exact I_sub rfl rfl (by simp only [InK]; simp at hg; omega) | exact S_sub rfl rfl | exact I_mul rfl rfl (by simp only [InK]; omega) | exact S_mul rfl rfl | exact S_quo rfl rfl (by decide) | exact S_rem rfl rfl (by decide) | exact S_len_slice rfl | exact S_len_own rfl rfl | exact S_len_str rfl | exact S_len_nil rfl | exact S_extract rfl rfl | exact I_toInt rfl (by simp only [InK]; omega) | exact W_toInt rfl | exact S_eqlb (BoolI.out) rfl rfl | exact S_neqb (BoolI.out) rfl rfl | exact S_eqls rfl rfl | exact S_eqlA rfl rfl rfl rfl rfl | exact S_neqA rfl rfl rfl rfl rfl | exact S_neqs rfl rfl | exact S_and rfl rfl | exact S_or rfl rfl | exact S_xor rfl rfl | exact S_andNot rfl rfl | exact S_shl rfl rfl (by omega) | exact S_shr rfl rfl (by omega) | exact S_nilCheck_ptr rfl | exact S_nilCheck_rp rfl | exact S_nilCheck_fn rfl | exact S_build rfl | exact S_lit rfl rfl rfl rfl | exact S_min rfl rfl | exact S_max rfl rfl))
    | refine dpickAnd rfl rfl rfl rfl rfl ?_ | refine dpickOr rfl rfl rfl rfl rfl ?_
    | (apply dt rfl; case h => first | exact S_call alive5 rfl | exact S_call (vec_Compare a b) rfl | exact S_call (vec_Compare b a) rfl | exact S_call (vec_Compare b c) rfl | exact S_call (vec_Compare a c) rfl | exact S_alloc _ rfl | exact S_box _ rfl rfl)
    | (apply ds; case h => first | exact S_call alive5 rfl | exact S_call (vec_Compare a b) rfl | exact S_call (vec_Compare b a) rfl | exact S_call (vec_Compare b c) rfl | exact S_call (vec_Compare a c) rfl | exact S_store rfl rfl rfl rfl rfl rfl)
    | (apply dm rfl; case h => first | exact S_call alive5 rfl | exact S_call (vec_Compare a b) rfl | exact S_call (vec_Compare b a) rfl | exact S_call (vec_Compare b c) rfl | exact S_call (vec_Compare a c) rfl | exact M_d rfl)
    | fail)
  · simp at hb
  · exfalso
    have e1 : a.cmp b < 0 ↔ 0 < b.cmp a := by rw [Vec.cmp_lt, Vec.cmp_gt]; omega
    have e2 : a.cmp b = 0 ↔ (a.root = b.root ∧ a.cost = b.cost ∧ a.bridge = b.bridge ∧ a.port = b.port) := Vec.cmp_eq
    have e3 : b.cmp a = 0 ↔ a.cmp b = 0 := by rw [Vec.cmp_eq, Vec.cmp_eq]; omega
    simp only [decide_eq_decide.2 e1, decide_eq_decide.2 e3, decide_eq_decide.2 e2, Bool.decide_and, bne_self_eq_false, Bool.or_self, Bool.false_eq_true] at hb
  · refine ret1 rfl (.inl rfl) ?_
    have e : a.cmp b < 0 ∧ b.cmp c < 0 → a.cmp c < 0 := by simp only [Vec.cmp_lt]; omega
    by_cases h : a.cmp b < 0 ∧ b.cmp c < 0
    · simp [h, e h]
    · simp; omega

theorem Vec.over_some {a : Vec} {x : Int} (h : (a.over x).isSome = true) : a.over x = some ⟨a.root, a.cost + x, a.bridge, a.port⟩ ∧ 0 ≤ x ∧ x ≤ 1000000000 ∧ 0 ≤ a.cost ∧ a.cost + x ≤ 1000000000 := by
  unfold Vec.over maxCost at *
  split at h
  · cases h
  · rename_i hn
    rw [if_neg hn]
    exact ⟨rfl, by omega, by omega, by omega, by omega⟩
theorem Vec.over_in {a : Vec} {x : Int} (h : 0 ≤ x) (h1 : 0 ≤ a.cost) (h2 : a.cost + x ≤ 1000000000) : a.over x = some ⟨a.root, a.cost + x, a.bridge, a.port⟩ := by
  unfold Vec.over maxCost
  rw [if_neg (by omega)]
theorem cmpI_add {a b x : Int} : cmpI (a + x) (b + x) = cmpI a b := by
  unfold cmpI; (repeat' split) <;> omega

theorem law_VecOver (a b : Vec) (x y : Int) : FnF Try.prog 4 [a.v, b.v, .int .i64 x, .int .i64 y] (.bool true) := by
  refine fnF_of Try.func4 rfl rfl rfl ?_
  simp only [envOf]
  repeat' (first
    | refine DW_cond rfl (fun hb => ?_) (fun hb => ?_)
    | refine DW_seq ?_
    | refine DW_region ?_
    | refine DW_draw ?_
    | refine dnilP ?_
    | refine dnilD (by kernel_rfl) ?_
    | refine then_normal ?_
    | refine then_exit ?_
    | refine then_ret ?_
    | refine DW_block ?_
    | refine blk_normal ?_
    | refine blk_ret ?_
    | refine blk_hit rfl ?_
    | refine blk_miss rfl ?_
    | refine loop_exit ?_
    | refine loop_ret ?_
    | refine DW_ret ?_
    | refine DW_exit ?_
    | refine DW_skip ?_
    | refine DW_cond_t rfl ?_
    | refine DW_cond_f rfl ?_
    | (apply dp rfl; case h => first | exact S_call alive5 rfl | exact S_call (vec_Over a x) rfl | exact S_call (vec_Over b x) rfl | exact S_call (vec_Compare ((a.over x).getD .zero) a) rfl | exact S_call (vec_Compare a b) rfl | exact S_call (vec_Compare ((a.over x).getD .zero) ((b.over x).getD .zero)) rfl | exact S_call (vec_Over ((a.over x).getD .zero) y) rfl | exact S_add rfl rfl | exact S_call (vec_Over a (IntKind.i64.wrap (x + y))) rfl | exact M_d rfl | exact M_p rfl | exact M_o rfl | exact M_n rfl | exact M_r rfl | exact M_a rfl | exact M_m rfl | exact A_d rfl | exact A_p rfl | exact A_o rfl | exact A_n rfl | exact A_r rfl | exact A_a rfl | exact A_m rfl | exact S_load_rp rfl rfl | exact S_load_ptr rfl rfl rfl | exact S_load_ptrs rfl rfl rfl | exact S_fieldAddr_rp rfl rfl | exact S_fieldAddr_ptr rfl rfl | exact S_fieldAddr_rptr rfl rfl rfl | exact S_field rfl rfl | exact S_lss rfl rfl | exact S_leq rfl rfl | exact S_gtr rfl rfl | exact S_geq rfl rfl | exact S_eql rfl rfl | exact S_neq rfl rfl | exact S_not rfl | exact S_pick_and rfl rfl rfl | exact S_pick_or rfl rfl rfl | exact I_add rfl rfl (by simp only [InK]; omega) | exact I_add rfl rfl (by simp only [InK]; simp at hg; omega) | exact S_add rfl rfl | exact I_sub rfl rfl (by simp only [InK]; omega) | exact I_sub rfl rfl (by simp only [InK]; simp at hg; omega) | exact S_sub rfl rfl | exact I_mul rfl rfl (by simp only [InK]; omega) | exact S_mul rfl rfl | exact S_quo rfl rfl (by decide) | exact S_rem rfl rfl (by decide) | exact S_len_slice rfl | exact S_len_own rfl rfl | exact S_len_str rfl | exact S_len_nil rfl | exact S_extract rfl rfl | exact I_toInt rfl (by simp only [InK]; omega) | exact W_toInt rfl | exact S_eqlb (BoolI.out) rfl rfl | exact S_neqb (BoolI.out) rfl rfl | exact S_eqls rfl rfl | exact S_eqlA rfl rfl rfl rfl rfl | exact S_neqA rfl rfl rfl rfl rfl | exact S_neqs rfl rfl | exact S_and rfl rfl | exact S_or rfl rfl | exact S_xor rfl rfl | exact S_andNot rfl rfl | exact S_shl rfl rfl (by omega) | exact S_shr rfl rfl (by omega) | exact S_nilCheck_ptr rfl | exact S_nilCheck_rp rfl | exact S_nilCheck_fn rfl | exact S_build rfl | exact S_lit rfl rfl rfl rfl | exact S_min rfl rfl | exact S_max rfl rfl)
    | (apply dpMay rfl rfl (by first | exact fun _ => trivial | exact fun h => ⟨h, trivial⟩ | exact fun h => ⟨h, h, trivial⟩ | exact fun h => ⟨h, h, h, trivial⟩ | exact fun h => ⟨h, h, h, h, trivial⟩); case h => (intro hg; first | exact S_call alive5 rfl | exact S_call (vec_Over a x) rfl | exact S_call (vec_Over b x) rfl | exact S_call (vec_Compare ((a.over x).getD .zero) a) rfl | exact S_call (vec_Compare a b) rfl | exact S_call (vec_Compare ((a.over x).getD .zero) ((b.over x).getD .zero)) rfl | exact S_call (vec_Over ((a.over x).getD .zero) y) rfl | exact S_add rfl rfl | exact S_call (vec_Over a (IntKind.i64.wrap (x + y))) rfl | exact M_d rfl | exact M_p rfl | exact M_o rfl | exact M_n rfl | exact M_r rfl | exact M_a rfl | exact M_m rfl | exact A_d rfl | exact A_p rfl | exact A_o rfl | exact A_n rfl | exact A_r rfl | exact A_a rfl | exact A_m rfl | exact S_load_rp rfl rfl | exact S_load_ptr rfl rfl rfl | exact S_load_ptrs rfl rfl rfl | exact S_fieldAddr_rp rfl rfl | exact S_fieldAddr_ptr rfl rfl | exact S_fieldAddr_rptr rfl rfl rfl | exact S_field rfl rfl | exact S_lss rfl rfl | exact S_leq rfl rfl | exact S_gtr rfl rfl | exact S_geq rfl rfl | exact S_eql rfl rfl | exact S_neq rfl rfl | exact S_not rfl | exact S_pick_and rfl rfl rfl | exact S_pick_or rfl rfl rfl | exact I_add rfl rfl (by simp only [InK]; omega) | exact I_add rfl rfl (by simp only [InK]; simp at hg; omega) | exact S_add rfl rfl | exact I_sub rfl rfl (by simp only [InK]; omega) | exact I_sub rfl rfl (by simp only [InK]; simp at hg; omega) | exact S_sub rfl rfl | exact I_mul rfl rfl (by simp only [InK]; omega) | exact S_mul rfl rfl | exact S_quo rfl rfl (by decide) | exact S_rem rfl rfl (by decide) | exact S_len_slice rfl | exact S_len_own rfl rfl | exact S_len_str rfl | exact S_len_nil rfl | exact S_extract rfl rfl | exact I_toInt rfl (by simp only [InK]; omega) | exact W_toInt rfl | exact S_eqlb (BoolI.out) rfl rfl | exact S_neqb (BoolI.out) rfl rfl | exact S_eqls rfl rfl | exact S_eqlA rfl rfl rfl rfl rfl | exact S_neqA rfl rfl rfl rfl rfl | exact S_neqs rfl rfl | exact S_and rfl rfl | exact S_or rfl rfl | exact S_xor rfl rfl | exact S_andNot rfl rfl | exact S_shl rfl rfl (by omega) | exact S_shr rfl rfl (by omega) | exact S_nilCheck_ptr rfl | exact S_nilCheck_rp rfl | exact S_nilCheck_fn rfl | exact S_build rfl | exact S_lit rfl rfl rfl rfl | exact S_min rfl rfl | exact S_max rfl rfl))
    | refine dpickAnd rfl rfl rfl rfl rfl ?_ | refine dpickOr rfl rfl rfl rfl rfl ?_
    | (apply dt rfl; case h => first | exact S_call alive5 rfl | exact S_call (vec_Over a x) rfl | exact S_call (vec_Over b x) rfl | exact S_call (vec_Compare ((a.over x).getD .zero) a) rfl | exact S_call (vec_Compare a b) rfl | exact S_call (vec_Compare ((a.over x).getD .zero) ((b.over x).getD .zero)) rfl | exact S_call (vec_Over ((a.over x).getD .zero) y) rfl | exact S_add rfl rfl | exact S_call (vec_Over a (IntKind.i64.wrap (x + y))) rfl | exact S_alloc _ rfl | exact S_box _ rfl rfl)
    | (apply ds; case h => first | exact S_call alive5 rfl | exact S_call (vec_Over a x) rfl | exact S_call (vec_Over b x) rfl | exact S_call (vec_Compare ((a.over x).getD .zero) a) rfl | exact S_call (vec_Compare a b) rfl | exact S_call (vec_Compare ((a.over x).getD .zero) ((b.over x).getD .zero)) rfl | exact S_call (vec_Over ((a.over x).getD .zero) y) rfl | exact S_add rfl rfl | exact S_call (vec_Over a (IntKind.i64.wrap (x + y))) rfl | exact S_store rfl rfl rfl rfl rfl rfl)
    | (apply dm rfl; case h => first | exact S_call alive5 rfl | exact S_call (vec_Over a x) rfl | exact S_call (vec_Over b x) rfl | exact S_call (vec_Compare ((a.over x).getD .zero) a) rfl | exact S_call (vec_Compare a b) rfl | exact S_call (vec_Compare ((a.over x).getD .zero) ((b.over x).getD .zero)) rfl | exact S_call (vec_Over ((a.over x).getD .zero) y) rfl | exact S_add rfl rfl | exact S_call (vec_Over a (IntKind.i64.wrap (x + y))) rfl | exact M_d rfl)
    | fail)
  · simp at hb
  · exact ret1 rfl (.inl rfl) rfl
  · exfalso
    rename_i h1 h2
    simp at h2
    obtain ⟨ea, x0, x1, c0, c1⟩ := Vec.over_some h2.1
    obtain ⟨eb, _⟩ := Vec.over_some h2.2
    rw [ea, eb] at hb
    have e : a.cmp b = Vec.cmp ⟨a.root, a.cost + x, a.bridge, a.port⟩ ⟨b.root, b.cost + x, b.bridge, b.port⟩ := by simp only [Vec.cmp, cmpI_add]
    have e2 : 0 < x → 0 < Vec.cmp ⟨a.root, a.cost + x, a.bridge, a.port⟩ a := fun h => Vec.cmp_gt.2 (.inr ⟨rfl, .inl (by simp only; omega)⟩)
    simp only [Option.getD_some, ← e, ne_eq, not_true_eq_false, decide_false, Bool.or_false, Bool.and_eq_true, decide_eq_true_eq] at hb
    have := e2 hb.1
    omega
  · exact ret1 rfl (.inl rfl) rfl
  · refine ret1 rfl (.inl rfl) ?_
    rename_i h1 h2 h3
    simp at h2 hb
    obtain ⟨ea, x0, x1, c0, c1⟩ := Vec.over_some h2.1
    rw [ea] at hb ⊢
    simp only [Option.getD_some] at hb ⊢
    obtain ⟨ev, y0, y1, d0, d1⟩ := Vec.over_some hb.1
    simp only at d0 d1
    have ew : IntKind.i64.wrap (x + y) = x + y := wrap_in (by simp only [InK]; omega)
    have eo : a.over (x + y) = some ⟨a.root, a.cost + (x + y), a.bridge, a.port⟩ := Vec.over_in (by omega) (by omega) (by omega)
    simp [ew, ev, eo]
    omega
end Go.Proofs.Ytcdeielnkmjfhaa
