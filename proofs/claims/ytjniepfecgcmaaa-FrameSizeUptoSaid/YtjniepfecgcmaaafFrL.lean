/- The laws of chapter 2: FrameTells, FrameTurns, FrameTags, FrameSize. -/
import Derived.Test.YtjniepfecgcmaaafFrM
import Derived.Test.YtjniepfecgcmaaadFrq
namespace Go.Proofs.Ytjniepfecgcmaaa
open Go.RowKit
attribute [local irreducible] SStep DW DWin DOps thenQ inBlk loopQ retQ retQG FnF FnG Wk IntKind.wrap IntKind.andI IntKind.orI IntKind.xorI IntKind.andNotI IntKind.shlI IntKind.shrI beBytes byteAt beNum Frame.wrong Frame.bytes Frame.read Frame.same

def Frame.outB (f : Frame) : List UInt8 := if f.wrong = 0 then f.bytes else []
def Frame.pF (b : List UInt8) : Frame := match Frame.read b with | none => .zero | some f => if f.wrong = 0 then f else .zero
def Frame.pE (b : List UInt8) : Int := match Frame.read b with | none => 2 | some f => f.wrong
theorem Frame.out_eq (f : Frame) : f.out = .tuple [.slice (f.outB.map byteV), .int .i64 f.wrong] := by
  unfold Frame.out Frame.outB
  by_cases h : f.wrong = 0 <;> simp [h]
theorem Frame.parse_eq (b : List UInt8) : Frame.parse b = .tuple [(Frame.pF b).v, .int .i64 (Frame.pE b)] := by
  unfold Frame.parse Frame.pF Frame.pE
  cases Frame.read b with
  | none => rfl
  | some f => by_cases h : f.wrong = 0 <;> simp [h]
theorem Frame.zero_ok : Frame.zero.ok := by constructor <;> decide
theorem Frame.pF_ok {b : List UInt8} (hb : b.length ≤ 1048576) : (Frame.pF b).ok := by
  unfold Frame.pF
  cases h : Frame.read b with
  | none => exact Frame.zero_ok
  | some f =>
    simp only
    split
    · exact Frame.read_ok hb h
    · exact Frame.zero_ok
theorem Frame.outB_len (f : Frame) : f.outB.length ≤ 1518 := by
  unfold Frame.outB
  split
  · rename_i h
    obtain ⟨_, _, _, _, _, _, _, r8⟩ := Frame.right h
    rw [f.bytes_len]
    split <;> omega
  · simp
theorem Frame.outB_back {f : Frame} (hf : f.ok) (hw : f.wrong = 0) : Frame.pF f.outB = f.back ∧ Frame.pE f.outB = 0 := by
  unfold Frame.pF Frame.pE Frame.outB
  rw [if_pos hw, Frame.read_bytes f hf hw]
  simp only [Frame.back_wrong, hw, if_true, and_self]
theorem Frame.pE_zero {b : List UInt8} (h : Frame.pE b = 0) : (Frame.pF b).wrong = 0 ∧ (Frame.pF b).outB = b := by
  unfold Frame.pE at h
  unfold Frame.pF Frame.outB
  cases hr : Frame.read b with
  | none => rw [hr] at h; cases h
  | some f =>
    rw [hr] at h
    simp only at h
    simp only [h, if_true, true_and]
    exact Frame.bytes_read hr h
theorem Frame.pE_not {b : List UInt8} (h : ¬ Frame.pE b = 0) : Frame.pF b = .zero := by
  unfold Frame.pE at h
  unfold Frame.pF
  cases hr : Frame.read b with
  | none => rfl
  | some f =>
    rw [hr] at h
    simp only at h
    simp only [h, if_false]
theorem Frame.same_self (f : Frame) : f.same f = true := by unfold Frame.same; cases f.tagged <;> simp

theorem fBytes (f : Frame) (hf : f.ok) : FnF Try.prog 25 [f.v] (.tuple [.slice (f.outB.map byteV), .int .i64 f.wrong]) := Frame.out_eq f ▸ frame_Bytes f hf
theorem rBytes (f : Frame) (hf : f.ok) : FnF Try.prog 26 [f.v] (.tuple [.slice (f.outB.map byteV), .int .i64 f.wrong]) := Frame.out_eq f ▸ ref2_Bytes f hf
theorem fParse (b : List UInt8) (hb : b.length ≤ 1048576) : FnF Try.prog 27 [.slice (b.map byteV)] (.tuple [(Frame.pF b).v, .int .i64 (Frame.pE b)]) := Frame.parse_eq b ▸ frame_Parse b hb
theorem rParse (b : List UInt8) (hb : b.length ≤ 1048576) : FnG Try.prog 28 [.dat false (.slice (b.map byteV))] [] (.dat false (.tuple [(Frame.pF b).v, .int .i64 (Frame.pE b)])) [] := Frame.parse_eq b ▸ ref2_Parse b hb

theorem law_FrameTells (f : Frame) (b : List UInt8) (hf : f.ok) (hb : b.length ≤ 1048576) : FnF Try.prog 6 [f.v, .slice (b.map byteV)] (.bool true) := by
  refine fnF_of Try.func6 rfl rfl rfl ?_
  simp only [envOf]
  have hsame := (Frame.pF b).same_self
  have hok := Frame.pF_ok hb
  repeat' (first
    | refine DW_seq ?_
    | refine DW_region ?_
    | refine DW_draw ?_
    | refine dnilP ?_
    | refine dnilD (by kernel_rfl) ?_
    | refine then_normal ?_
    | refine then_exit ?_
    | refine then_ret ?_
    | refine DW_block ?_
    | refine blk_normal ?_
    | refine blk_ret ?_
    | refine blk_hit rfl ?_
    | refine blk_miss rfl ?_
    | refine loop_exit ?_
    | refine loop_ret ?_
    | refine DW_ret ?_
    | refine DW_exit ?_
    | refine DW_skip ?_
    | refine DW_cond_t rfl ?_
    | refine DW_cond_f rfl ?_
    | (apply dpC rfl; case h => first | exact S_call (frame_Wrong f hf) rfl | exact S_call (ref2_Wrong f hf) rfl | exact S_call (fBytes f hf) rfl | exact S_call (rBytes f hf) rfl | exact S_call (fParse b hb) rfl | exact S_callGD (rParse b hb) rfl | exact S_call (ref2_Same _ _ hok hok) rfl | exact S_len_slice rfl | exact S_len_own rfl rfl | exact S_len_str rfl | exact S_len_nil rfl | exact S_min rfl rfl | exact S_max rfl rfl)
    | (apply dp rfl; case h => first | exact as_bool (S_neq rfl rfl) (ne_self _) | exact as_bool (S_eql rfl rfl) (eq_self _) | exact as_bool (S_neqs rfl rfl) (ne_self _) | exact S_bs Try.underlying5 Try.underlying9 rfl | exact M_d rfl | exact M_p rfl | exact M_o rfl | exact M_n rfl | exact M_r rfl | exact M_a rfl | exact M_m rfl | exact A_d rfl | exact A_p rfl | exact A_o rfl | exact A_n rfl | exact A_r rfl | exact A_a rfl | exact A_m rfl | exact S_load_rp rfl rfl | exact S_load_ptr rfl rfl rfl | exact S_load_ptrs rfl rfl rfl | exact S_fieldAddr_rp rfl rfl | exact S_fieldAddr_ptr rfl rfl | exact S_fieldAddr_rptr rfl rfl rfl | exact S_field rfl rfl | exact S_lss rfl rfl | exact S_leq rfl rfl | exact S_gtr rfl rfl | exact S_geq rfl rfl | exact S_eql rfl rfl | exact S_neq rfl rfl | exact S_not rfl | exact S_pick_T rfl rfl | exact S_pick_F rfl rfl | exact S_pick_and rfl rfl rfl | exact S_pick_or rfl rfl rfl | exact I_add rfl rfl (by simp only [InK]; omega) | exact I_add rfl rfl (by simp only [InK]; simp at hg; omega) | exact S_add rfl rfl | exact I_sub rfl rfl (by simp only [InK]; omega) | exact I_sub rfl rfl (by simp only [InK]; simp at hg; omega) | exact S_sub rfl rfl | exact I_mul rfl rfl (by simp only [InK]; omega) | exact S_mul rfl rfl | exact S_quo rfl rfl (by decide) | exact S_rem rfl rfl (by decide) | exact S_extract rfl rfl | exact I_toInt rfl (by simp only [InK]; omega) | exact W_toInt rfl | exact S_eqlb (BoolI.out) rfl rfl | exact S_neqb (BoolI.out) rfl rfl | exact S_eqls rfl rfl | exact S_eqlA rfl rfl rfl rfl rfl | exact S_neqA rfl rfl rfl rfl rfl | exact S_neqs rfl rfl | exact S_and rfl rfl | exact S_or rfl rfl | exact S_xor rfl rfl | exact S_andNot rfl rfl | exact S_shl rfl rfl (by omega) | exact S_shr rfl rfl (by omega) | exact S_nilCheck_ptr rfl | exact S_nilCheck_rp rfl | exact S_nilCheck_fn rfl | exact S_build rfl | exact S_lit rfl rfl rfl rfl | exact S_load_rptr rfl rfl rfl rfl | exact S_field_aggd rfl rfl | exact S_makeFunc rfl | exact S_eqNilT rfl | exact S_ix_slice rfl rfl (by decide) rfl rfl | exact S_ix_arr_ptr rfl rfl (by decide) (by decide) | exact S_index_aggd rfl rfl (by decide) (by decide) rfl)
    | refine dpOff rfl rfl ?_
    | (apply dpOn rfl rfl; case h => first | exact as_bool (S_neq rfl rfl) (ne_self _) | exact as_bool (S_eql rfl rfl) (eq_self _) | exact as_bool (S_neqs rfl rfl) (ne_self _) | exact S_bs Try.underlying5 Try.underlying9 rfl | exact S_call (frame_Wrong f hf) rfl | exact S_call (ref2_Wrong f hf) rfl | exact S_call (fBytes f hf) rfl | exact S_call (rBytes f hf) rfl | exact S_call (fParse b hb) rfl | exact S_callGD (rParse b hb) rfl | exact S_call (ref2_Same _ _ hok hok) rfl | exact M_d rfl | exact M_p rfl | exact M_o rfl | exact M_n rfl | exact M_r rfl | exact M_a rfl | exact M_m rfl | exact A_d rfl | exact A_p rfl | exact A_o rfl | exact A_n rfl | exact A_r rfl | exact A_a rfl | exact A_m rfl | exact S_load_rp rfl rfl | exact S_load_ptr rfl rfl rfl | exact S_load_ptrs rfl rfl rfl | exact S_fieldAddr_rp rfl rfl | exact S_fieldAddr_ptr rfl rfl | exact S_fieldAddr_rptr rfl rfl rfl | exact S_field rfl rfl | exact S_lss rfl rfl | exact S_leq rfl rfl | exact S_gtr rfl rfl | exact S_geq rfl rfl | exact S_eql rfl rfl | exact S_neq rfl rfl | exact S_not rfl | exact S_pick_T rfl rfl | exact S_pick_F rfl rfl | exact S_pick_and rfl rfl rfl | exact S_pick_or rfl rfl rfl | exact I_add rfl rfl (by simp only [InK]; omega) | exact I_add rfl rfl (by simp only [InK]; simp at hg; omega) | exact S_add rfl rfl | exact I_sub rfl rfl (by simp only [InK]; omega) | exact I_sub rfl rfl (by simp only [InK]; simp at hg; omega) | exact S_sub rfl rfl | exact I_mul rfl rfl (by simp only [InK]; omega) | exact S_mul rfl rfl | exact S_quo rfl rfl (by decide) | exact S_rem rfl rfl (by decide) | exact S_len_slice rfl | exact S_len_own rfl rfl | exact S_len_str rfl | exact S_len_nil rfl | exact S_extract rfl rfl | exact I_toInt rfl (by simp only [InK]; omega) | exact W_toInt rfl | exact S_eqlb (BoolI.out) rfl rfl | exact S_neqb (BoolI.out) rfl rfl | exact S_eqls rfl rfl | exact S_eqlA rfl rfl rfl rfl rfl | exact S_neqA rfl rfl rfl rfl rfl | exact S_neqs rfl rfl | exact S_and rfl rfl | exact S_or rfl rfl | exact S_xor rfl rfl | exact S_andNot rfl rfl | exact S_shl rfl rfl (by omega) | exact S_shr rfl rfl (by omega) | exact S_nilCheck_ptr rfl | exact S_nilCheck_rp rfl | exact S_nilCheck_fn rfl | exact S_build rfl | exact S_lit rfl rfl rfl rfl | exact S_min rfl rfl | exact S_max rfl rfl | exact S_load_rptr rfl rfl rfl rfl | exact S_field_aggd rfl rfl | exact S_makeFunc rfl | exact S_eqNilT rfl | exact S_ix_slice rfl rfl (by decide) rfl rfl | exact S_ix_arr_ptr rfl rfl (by decide) (by decide) | exact S_index_aggd rfl rfl (by decide) (by decide) rfl)
    | (apply dpMay rfl rfl (by first | exact fun _ => trivial | exact fun h => ⟨h, trivial⟩ | exact fun h => ⟨h, h, trivial⟩ | exact fun h => ⟨h, h, h, trivial⟩ | exact fun h => ⟨h, h, h, h, trivial⟩); case h => (intro hg; first | exact as_bool (S_neq rfl rfl) (ne_self _) | exact as_bool (S_eql rfl rfl) (eq_self _) | exact as_bool (S_neqs rfl rfl) (ne_self _) | exact S_bs Try.underlying5 Try.underlying9 rfl | exact S_call (frame_Wrong f hf) rfl | exact S_call (ref2_Wrong f hf) rfl | exact S_call (fBytes f hf) rfl | exact S_call (rBytes f hf) rfl | exact S_call (fParse b hb) rfl | exact S_callGD (rParse b hb) rfl | exact S_call (ref2_Same _ _ hok hok) rfl | exact M_d rfl | exact M_p rfl | exact M_o rfl | exact M_n rfl | exact M_r rfl | exact M_a rfl | exact M_m rfl | exact A_d rfl | exact A_p rfl | exact A_o rfl | exact A_n rfl | exact A_r rfl | exact A_a rfl | exact A_m rfl | exact S_load_rp rfl rfl | exact S_load_ptr rfl rfl rfl | exact S_load_ptrs rfl rfl rfl | exact S_fieldAddr_rp rfl rfl | exact S_fieldAddr_ptr rfl rfl | exact S_fieldAddr_rptr rfl rfl rfl | exact S_field rfl rfl | exact S_lss rfl rfl | exact S_leq rfl rfl | exact S_gtr rfl rfl | exact S_geq rfl rfl | exact S_eql rfl rfl | exact S_neq rfl rfl | exact S_not rfl | exact S_pick_T rfl rfl | exact S_pick_F rfl rfl | exact S_pick_and rfl rfl rfl | exact S_pick_or rfl rfl rfl | exact I_add rfl rfl (by simp only [InK]; omega) | exact I_add rfl rfl (by simp only [InK]; simp at hg; omega) | exact S_add rfl rfl | exact I_sub rfl rfl (by simp only [InK]; omega) | exact I_sub rfl rfl (by simp only [InK]; simp at hg; omega) | exact S_sub rfl rfl | exact I_mul rfl rfl (by simp only [InK]; omega) | exact S_mul rfl rfl | exact S_quo rfl rfl (by decide) | exact S_rem rfl rfl (by decide) | exact S_len_slice rfl | exact S_len_own rfl rfl | exact S_len_str rfl | exact S_len_nil rfl | exact S_extract rfl rfl | exact I_toInt rfl (by simp only [InK]; omega) | exact W_toInt rfl | exact S_eqlb (BoolI.out) rfl rfl | exact S_neqb (BoolI.out) rfl rfl | exact S_eqls rfl rfl | exact S_eqlA rfl rfl rfl rfl rfl | exact S_neqA rfl rfl rfl rfl rfl | exact S_neqs rfl rfl | exact S_and rfl rfl | exact S_or rfl rfl | exact S_xor rfl rfl | exact S_andNot rfl rfl | exact S_shl rfl rfl (by omega) | exact S_shr rfl rfl (by omega) | exact S_nilCheck_ptr rfl | exact S_nilCheck_rp rfl | exact S_nilCheck_fn rfl | exact S_build rfl | exact S_lit rfl rfl rfl rfl | exact S_min rfl rfl | exact S_max rfl rfl | exact S_load_rptr rfl rfl rfl rfl | exact S_field_aggd rfl rfl | exact S_makeFunc rfl | exact S_eqNilT rfl | exact S_ix_slice rfl rfl (by decide) rfl rfl | exact S_ix_arr_ptr rfl rfl (by decide) (by decide) | exact S_index_aggd rfl rfl (by decide) (by decide) rfl))
    | refine dpickAnd rfl rfl rfl rfl rfl ?_ | refine dpickOr rfl rfl rfl rfl rfl ?_
    | (apply dt rfl; case h => first | exact as_bool (S_neq rfl rfl) (ne_self _) | exact as_bool (S_eql rfl rfl) (eq_self _) | exact as_bool (S_neqs rfl rfl) (ne_self _) | exact S_bs Try.underlying5 Try.underlying9 rfl | exact S_alloc _ rfl | exact S_box _ rfl rfl)
    | (apply ds; case h => first | exact as_bool (S_neq rfl rfl) (ne_self _) | exact as_bool (S_eql rfl rfl) (eq_self _) | exact as_bool (S_neqs rfl rfl) (ne_self _) | exact S_bs Try.underlying5 Try.underlying9 rfl | exact S_store rfl rfl rfl rfl rfl rfl)
    | (apply dm rfl; case h => first | exact as_bool (S_neq rfl rfl) (ne_self _) | exact as_bool (S_eql rfl rfl) (eq_self _) | exact as_bool (S_neqs rfl rfl) (ne_self _) | exact S_bs Try.underlying5 Try.underlying9 rfl | exact M_d rfl)
    | fail)
  exact ret1 rfl (.inl rfl) (by rw [hsame])

def frame0 : Frame := ⟨5, 6, true, 0, false, 7, 2048, []⟩
theorem frame0_ok : frame0.ok := by constructor <;> decide
theorem frame0_right : frame0.wrong = 0 := by decide +kernel
theorem alive2 : FnF Try.prog 30 [] (.bool true) := by
  refine fnF_of Try.func30 rfl rfl rfl ?_
  simp only [envOf]
  have h1 := fBytes frame0 frame0_ok
  have h2 := fParse frame0.outB (by have := frame0.outB_len; omega)
  have hl : (frame0.outB.map byteV).length = 18 := by decide +kernel
  obtain ⟨e1, e2⟩ := Frame.outB_back frame0_ok frame0_right
  have hv : decide (frame0.back.vid = 7) = true := by decide
  rw [frame0_right] at h1
  rw [e1, e2] at h2
  generalize frame0.outB = x at h1 h2 hl
  have hl' : decide (((x.map byteV).length : Int) = 18) = true := by rw [hl]; rfl
  repeat' (first
    | refine DW_seq ?_
    | refine DW_region ?_
    | refine DW_draw ?_
    | refine dnilP ?_
    | refine dnilD (by kernel_rfl) ?_
    | refine then_normal ?_
    | refine then_exit ?_
    | refine then_ret ?_
    | refine DW_block ?_
    | refine blk_normal ?_
    | refine blk_ret ?_
    | refine blk_hit rfl ?_
    | refine blk_miss rfl ?_
    | refine loop_exit ?_
    | refine loop_ret ?_
    | refine DW_ret ?_
    | refine DW_exit ?_
    | refine DW_skip ?_
    | refine DW_cond_t rfl ?_
    | refine DW_cond_f rfl ?_
    | (apply dpC rfl; case h => first | exact S_call h1 rfl | exact S_call h2 rfl | exact S_len_slice rfl | exact S_len_own rfl rfl | exact S_len_str rfl | exact S_len_nil rfl | exact S_min rfl rfl | exact S_max rfl rfl)
    | (apply dp rfl; case h => first | exact as_bool (S_eql rfl rfl) hv | exact as_bool (S_eql rfl rfl) (eq_self _) | exact as_bool (S_eql rfl rfl) hl' | exact M_d rfl | exact M_p rfl | exact M_o rfl | exact M_n rfl | exact M_r rfl | exact M_a rfl | exact M_m rfl | exact A_d rfl | exact A_p rfl | exact A_o rfl | exact A_n rfl | exact A_r rfl | exact A_a rfl | exact A_m rfl | exact S_load_rp rfl rfl | exact S_load_ptr rfl rfl rfl | exact S_load_ptrs rfl rfl rfl | exact S_fieldAddr_rp rfl rfl | exact S_fieldAddr_ptr rfl rfl | exact S_fieldAddr_rptr rfl rfl rfl | exact S_field rfl rfl | exact S_lss rfl rfl | exact S_leq rfl rfl | exact S_gtr rfl rfl | exact S_geq rfl rfl | exact S_eql rfl rfl | exact S_neq rfl rfl | exact S_not rfl | exact S_pick_T rfl rfl | exact S_pick_F rfl rfl | exact S_pick_and rfl rfl rfl | exact S_pick_or rfl rfl rfl | exact I_add rfl rfl (by simp only [InK]; omega) | exact I_add rfl rfl (by simp only [InK]; simp at hg; omega) | exact S_add rfl rfl | exact I_sub rfl rfl (by simp only [InK]; omega) | exact I_sub rfl rfl (by simp only [InK]; simp at hg; omega) | exact S_sub rfl rfl | exact I_mul rfl rfl (by simp only [InK]; omega) | exact S_mul rfl rfl | exact S_quo rfl rfl (by decide) | exact S_rem rfl rfl (by decide) | exact S_extract rfl rfl | exact I_toInt rfl (by simp only [InK]; omega) | exact W_toInt rfl | exact S_eqlb (BoolI.out) rfl rfl | exact S_neqb (BoolI.out) rfl rfl | exact S_eqls rfl rfl | exact S_eqlA rfl rfl rfl rfl rfl | exact S_neqA rfl rfl rfl rfl rfl | exact S_neqs rfl rfl | exact S_and rfl rfl | exact S_or rfl rfl | exact S_xor rfl rfl | exact S_andNot rfl rfl | exact S_shl rfl rfl (by omega) | exact S_shr rfl rfl (by omega) | exact S_nilCheck_ptr rfl | exact S_nilCheck_rp rfl | exact S_nilCheck_fn rfl | exact S_build rfl | exact S_lit rfl rfl rfl rfl | exact S_load_rptr rfl rfl rfl rfl | exact S_field_aggd rfl rfl | exact S_makeFunc rfl | exact S_eqNilT rfl | exact S_ix_slice rfl rfl (by decide) rfl rfl | exact S_ix_arr_ptr rfl rfl (by decide) (by decide) | exact S_index_aggd rfl rfl (by decide) (by decide) rfl)
    | refine dpOff rfl rfl ?_
    | (apply dpOn rfl rfl; case h => first | exact as_bool (S_eql rfl rfl) hv | exact as_bool (S_eql rfl rfl) (eq_self _) | exact as_bool (S_eql rfl rfl) hl' | exact S_call h1 rfl | exact S_call h2 rfl | exact M_d rfl | exact M_p rfl | exact M_o rfl | exact M_n rfl | exact M_r rfl | exact M_a rfl | exact M_m rfl | exact A_d rfl | exact A_p rfl | exact A_o rfl | exact A_n rfl | exact A_r rfl | exact A_a rfl | exact A_m rfl | exact S_load_rp rfl rfl | exact S_load_ptr rfl rfl rfl | exact S_load_ptrs rfl rfl rfl | exact S_fieldAddr_rp rfl rfl | exact S_fieldAddr_ptr rfl rfl | exact S_fieldAddr_rptr rfl rfl rfl | exact S_field rfl rfl | exact S_lss rfl rfl | exact S_leq rfl rfl | exact S_gtr rfl rfl | exact S_geq rfl rfl | exact S_eql rfl rfl | exact S_neq rfl rfl | exact S_not rfl | exact S_pick_T rfl rfl | exact S_pick_F rfl rfl | exact S_pick_and rfl rfl rfl | exact S_pick_or rfl rfl rfl | exact I_add rfl rfl (by simp only [InK]; omega) | exact I_add rfl rfl (by simp only [InK]; simp at hg; omega) | exact S_add rfl rfl | exact I_sub rfl rfl (by simp only [InK]; omega) | exact I_sub rfl rfl (by simp only [InK]; simp at hg; omega) | exact S_sub rfl rfl | exact I_mul rfl rfl (by simp only [InK]; omega) | exact S_mul rfl rfl | exact S_quo rfl rfl (by decide) | exact S_rem rfl rfl (by decide) | exact S_len_slice rfl | exact S_len_own rfl rfl | exact S_len_str rfl | exact S_len_nil rfl | exact S_extract rfl rfl | exact I_toInt rfl (by simp only [InK]; omega) | exact W_toInt rfl | exact S_eqlb (BoolI.out) rfl rfl | exact S_neqb (BoolI.out) rfl rfl | exact S_eqls rfl rfl | exact S_eqlA rfl rfl rfl rfl rfl | exact S_neqA rfl rfl rfl rfl rfl | exact S_neqs rfl rfl | exact S_and rfl rfl | exact S_or rfl rfl | exact S_xor rfl rfl | exact S_andNot rfl rfl | exact S_shl rfl rfl (by omega) | exact S_shr rfl rfl (by omega) | exact S_nilCheck_ptr rfl | exact S_nilCheck_rp rfl | exact S_nilCheck_fn rfl | exact S_build rfl | exact S_lit rfl rfl rfl rfl | exact S_min rfl rfl | exact S_max rfl rfl | exact S_load_rptr rfl rfl rfl rfl | exact S_field_aggd rfl rfl | exact S_makeFunc rfl | exact S_eqNilT rfl | exact S_ix_slice rfl rfl (by decide) rfl rfl | exact S_ix_arr_ptr rfl rfl (by decide) (by decide) | exact S_index_aggd rfl rfl (by decide) (by decide) rfl)
    | (apply dpMay rfl rfl (by first | exact fun _ => trivial | exact fun h => ⟨h, trivial⟩ | exact fun h => ⟨h, h, trivial⟩ | exact fun h => ⟨h, h, h, trivial⟩ | exact fun h => ⟨h, h, h, h, trivial⟩); case h => (intro hg; first | exact as_bool (S_eql rfl rfl) hv | exact as_bool (S_eql rfl rfl) (eq_self _) | exact as_bool (S_eql rfl rfl) hl' | exact S_call h1 rfl | exact S_call h2 rfl | exact M_d rfl | exact M_p rfl | exact M_o rfl | exact M_n rfl | exact M_r rfl | exact M_a rfl | exact M_m rfl | exact A_d rfl | exact A_p rfl | exact A_o rfl | exact A_n rfl | exact A_r rfl | exact A_a rfl | exact A_m rfl | exact S_load_rp rfl rfl | exact S_load_ptr rfl rfl rfl | exact S_load_ptrs rfl rfl rfl | exact S_fieldAddr_rp rfl rfl | exact S_fieldAddr_ptr rfl rfl | exact S_fieldAddr_rptr rfl rfl rfl | exact S_field rfl rfl | exact S_lss rfl rfl | exact S_leq rfl rfl | exact S_gtr rfl rfl | exact S_geq rfl rfl | exact S_eql rfl rfl | exact S_neq rfl rfl | exact S_not rfl | exact S_pick_T rfl rfl | exact S_pick_F rfl rfl | exact S_pick_and rfl rfl rfl | exact S_pick_or rfl rfl rfl | exact I_add rfl rfl (by simp only [InK]; omega) | exact I_add rfl rfl (by simp only [InK]; simp at hg; omega) | exact S_add rfl rfl | exact I_sub rfl rfl (by simp only [InK]; omega) | exact I_sub rfl rfl (by simp only [InK]; simp at hg; omega) | exact S_sub rfl rfl | exact I_mul rfl rfl (by simp only [InK]; omega) | exact S_mul rfl rfl | exact S_quo rfl rfl (by decide) | exact S_rem rfl rfl (by decide) | exact S_len_slice rfl | exact S_len_own rfl rfl | exact S_len_str rfl | exact S_len_nil rfl | exact S_extract rfl rfl | exact I_toInt rfl (by simp only [InK]; omega) | exact W_toInt rfl | exact S_eqlb (BoolI.out) rfl rfl | exact S_neqb (BoolI.out) rfl rfl | exact S_eqls rfl rfl | exact S_eqlA rfl rfl rfl rfl rfl | exact S_neqA rfl rfl rfl rfl rfl | exact S_neqs rfl rfl | exact S_and rfl rfl | exact S_or rfl rfl | exact S_xor rfl rfl | exact S_andNot rfl rfl | exact S_shl rfl rfl (by omega) | exact S_shr rfl rfl (by omega) | exact S_nilCheck_ptr rfl | exact S_nilCheck_rp rfl | exact S_nilCheck_fn rfl | exact S_build rfl | exact S_lit rfl rfl rfl rfl | exact S_min rfl rfl | exact S_max rfl rfl | exact S_load_rptr rfl rfl rfl rfl | exact S_field_aggd rfl rfl | exact S_makeFunc rfl | exact S_eqNilT rfl | exact S_ix_slice rfl rfl (by decide) rfl rfl | exact S_ix_arr_ptr rfl rfl (by decide) (by decide) | exact S_index_aggd rfl rfl (by decide) (by decide) rfl))
    | refine dpickAnd rfl rfl rfl rfl rfl ?_ | refine dpickOr rfl rfl rfl rfl rfl ?_
    | (apply dt rfl; case h => first | exact as_bool (S_eql rfl rfl) hv | exact as_bool (S_eql rfl rfl) (eq_self _) | exact as_bool (S_eql rfl rfl) hl' | exact S_alloc _ rfl | exact S_box _ rfl rfl)
    | (apply ds; case h => first | exact as_bool (S_eql rfl rfl) hv | exact as_bool (S_eql rfl rfl) (eq_self _) | exact as_bool (S_eql rfl rfl) hl' | exact S_store rfl rfl rfl rfl rfl rfl)
    | (apply dm rfl; case h => first | exact as_bool (S_eql rfl rfl) hv | exact as_bool (S_eql rfl rfl) (eq_self _) | exact as_bool (S_eql rfl rfl) hl' | exact M_d rfl)
    | fail)
  exact ret1 rfl (.inl rfl) rfl

set_option maxHeartbeats 1000000 in
theorem law_FrameTurns (f : Frame) (b : List UInt8) (hf : f.ok) (hb : b.length ≤ 1048576) : FnF Try.prog 7 [f.v, .slice (b.map byteV)] (.bool true) := by
  refine fnF_of Try.func7 rfl rfl rfl ?_
  simp only [envOf]
  have h1 := fBytes f hf
  have h2 := fParse f.outB (by have := f.outB_len; omega)
  have h3 := fParse b hb
  have h4 := Frame.pF_ok hb
  have hzz : Frame.zero.same Frame.zero = true := Frame.same_self _
  by_cases hw : f.wrong = 0
  · obtain ⟨e1, e2⟩ := Frame.outB_back hf hw
    rw [e1, e2] at h2
    rw [hw] at h1
    have hbk := ref2_Same f f.back hf (e1 ▸ Frame.pF_ok (by have := f.outB_len; omega))
    rw [f.back_same.1] at hbk
    by_cases hp : Frame.pE b = 0
    · obtain ⟨k1, k2⟩ := Frame.pE_zero hp
      have h5 := fBytes _ h4
      rw [k1, k2] at h5
      rw [hp] at h3
      repeat' (first
    | refine DW_seq ?_
    | refine DW_region ?_
    | refine DW_draw ?_
    | refine dnilP ?_
    | refine dnilD (by kernel_rfl) ?_
    | refine then_normal ?_
    | refine then_exit ?_
    | refine then_ret ?_
    | refine DW_block ?_
    | refine blk_normal ?_
    | refine blk_ret ?_
    | refine blk_hit rfl ?_
    | refine blk_miss rfl ?_
    | refine loop_exit ?_
    | refine loop_ret ?_
    | refine DW_ret ?_
    | refine DW_exit ?_
    | refine DW_skip ?_
    | refine DW_cond_t rfl ?_
    | refine DW_cond_f rfl ?_
    | (apply dpC rfl; case h => first | exact S_call alive2 rfl | exact S_call h1 rfl | exact S_call h3 rfl | exact S_call h2 rfl | exact S_call hbk rfl | exact S_call h5 rfl | exact S_len_slice rfl | exact S_len_own rfl rfl | exact S_len_str rfl | exact S_len_nil rfl | exact S_min rfl rfl | exact S_max rfl rfl)
    | (apply dp rfl; case h => first | exact as_bool (b := false) (S_not rfl) rfl | exact as_bool (S_neq rfl rfl) (ne_self _) | exact as_bool (S_eql rfl rfl) (eq_self _) | exact S_bs Try.underlying5 Try.underlying9 rfl | exact as_bool (S_eqls rfl rfl) (eq_self _) | exact M_d rfl | exact M_p rfl | exact M_o rfl | exact M_n rfl | exact M_r rfl | exact M_a rfl | exact M_m rfl | exact A_d rfl | exact A_p rfl | exact A_o rfl | exact A_n rfl | exact A_r rfl | exact A_a rfl | exact A_m rfl | exact S_load_rp rfl rfl | exact S_load_ptr rfl rfl rfl | exact S_load_ptrs rfl rfl rfl | exact S_fieldAddr_rp rfl rfl | exact S_fieldAddr_ptr rfl rfl | exact S_fieldAddr_rptr rfl rfl rfl | exact S_field rfl rfl | exact S_lss rfl rfl | exact S_leq rfl rfl | exact S_gtr rfl rfl | exact S_geq rfl rfl | exact S_eql rfl rfl | exact S_neq rfl rfl | exact S_not rfl | exact S_pick_T rfl rfl | exact S_pick_F rfl rfl | exact S_pick_and rfl rfl rfl | exact S_pick_or rfl rfl rfl | exact I_add rfl rfl (by simp only [InK]; omega) | exact I_add rfl rfl (by simp only [InK]; simp at hg; omega) | exact S_add rfl rfl | exact I_sub rfl rfl (by simp only [InK]; omega) | exact I_sub rfl rfl (by simp only [InK]; simp at hg; omega) | exact S_sub rfl rfl | exact I_mul rfl rfl (by simp only [InK]; omega) | exact S_mul rfl rfl | exact S_quo rfl rfl (by decide) | exact S_rem rfl rfl (by decide) | exact S_extract rfl rfl | exact I_toInt rfl (by simp only [InK]; omega) | exact W_toInt rfl | exact S_eqlb (BoolI.out) rfl rfl | exact S_neqb (BoolI.out) rfl rfl | exact S_eqls rfl rfl | exact S_eqlA rfl rfl rfl rfl rfl | exact S_neqA rfl rfl rfl rfl rfl | exact S_neqs rfl rfl | exact S_and rfl rfl | exact S_or rfl rfl | exact S_xor rfl rfl | exact S_andNot rfl rfl | exact S_shl rfl rfl (by omega) | exact S_shr rfl rfl (by omega) | exact S_nilCheck_ptr rfl | exact S_nilCheck_rp rfl | exact S_nilCheck_fn rfl | exact S_build rfl | exact S_lit rfl rfl rfl rfl | exact S_load_rptr rfl rfl rfl rfl | exact S_field_aggd rfl rfl | exact S_makeFunc rfl | exact S_eqNilT rfl | exact S_ix_slice rfl rfl (by decide) rfl rfl | exact S_ix_arr_ptr rfl rfl (by decide) (by decide) | exact S_index_aggd rfl rfl (by decide) (by decide) rfl)
    | refine dpOff rfl rfl ?_
    | (apply dpOn rfl rfl; case h => first | exact as_bool (b := false) (S_not rfl) rfl | exact as_bool (S_neq rfl rfl) (ne_self _) | exact as_bool (S_eql rfl rfl) (eq_self _) | exact S_bs Try.underlying5 Try.underlying9 rfl | exact as_bool (S_eqls rfl rfl) (eq_self _) | exact S_call alive2 rfl | exact S_call h1 rfl | exact S_call h3 rfl | exact S_call h2 rfl | exact S_call hbk rfl | exact S_call h5 rfl | exact M_d rfl | exact M_p rfl | exact M_o rfl | exact M_n rfl | exact M_r rfl | exact M_a rfl | exact M_m rfl | exact A_d rfl | exact A_p rfl | exact A_o rfl | exact A_n rfl | exact A_r rfl | exact A_a rfl | exact A_m rfl | exact S_load_rp rfl rfl | exact S_load_ptr rfl rfl rfl | exact S_load_ptrs rfl rfl rfl | exact S_fieldAddr_rp rfl rfl | exact S_fieldAddr_ptr rfl rfl | exact S_fieldAddr_rptr rfl rfl rfl | exact S_field rfl rfl | exact S_lss rfl rfl | exact S_leq rfl rfl | exact S_gtr rfl rfl | exact S_geq rfl rfl | exact S_eql rfl rfl | exact S_neq rfl rfl | exact S_not rfl | exact S_pick_T rfl rfl | exact S_pick_F rfl rfl | exact S_pick_and rfl rfl rfl | exact S_pick_or rfl rfl rfl | exact I_add rfl rfl (by simp only [InK]; omega) | exact I_add rfl rfl (by simp only [InK]; simp at hg; omega) | exact S_add rfl rfl | exact I_sub rfl rfl (by simp only [InK]; omega) | exact I_sub rfl rfl (by simp only [InK]; simp at hg; omega) | exact S_sub rfl rfl | exact I_mul rfl rfl (by simp only [InK]; omega) | exact S_mul rfl rfl | exact S_quo rfl rfl (by decide) | exact S_rem rfl rfl (by decide) | exact S_len_slice rfl | exact S_len_own rfl rfl | exact S_len_str rfl | exact S_len_nil rfl | exact S_extract rfl rfl | exact I_toInt rfl (by simp only [InK]; omega) | exact W_toInt rfl | exact S_eqlb (BoolI.out) rfl rfl | exact S_neqb (BoolI.out) rfl rfl | exact S_eqls rfl rfl | exact S_eqlA rfl rfl rfl rfl rfl | exact S_neqA rfl rfl rfl rfl rfl | exact S_neqs rfl rfl | exact S_and rfl rfl | exact S_or rfl rfl | exact S_xor rfl rfl | exact S_andNot rfl rfl | exact S_shl rfl rfl (by omega) | exact S_shr rfl rfl (by omega) | exact S_nilCheck_ptr rfl | exact S_nilCheck_rp rfl | exact S_nilCheck_fn rfl | exact S_build rfl | exact S_lit rfl rfl rfl rfl | exact S_min rfl rfl | exact S_max rfl rfl | exact S_load_rptr rfl rfl rfl rfl | exact S_field_aggd rfl rfl | exact S_makeFunc rfl | exact S_eqNilT rfl | exact S_ix_slice rfl rfl (by decide) rfl rfl | exact S_ix_arr_ptr rfl rfl (by decide) (by decide) | exact S_index_aggd rfl rfl (by decide) (by decide) rfl)
    | (apply dpMay rfl rfl (by first | exact fun _ => trivial | exact fun h => ⟨h, trivial⟩ | exact fun h => ⟨h, h, trivial⟩ | exact fun h => ⟨h, h, h, trivial⟩ | exact fun h => ⟨h, h, h, h, trivial⟩); case h => (intro hg; first | exact as_bool (b := false) (S_not rfl) rfl | exact as_bool (S_neq rfl rfl) (ne_self _) | exact as_bool (S_eql rfl rfl) (eq_self _) | exact S_bs Try.underlying5 Try.underlying9 rfl | exact as_bool (S_eqls rfl rfl) (eq_self _) | exact S_call alive2 rfl | exact S_call h1 rfl | exact S_call h3 rfl | exact S_call h2 rfl | exact S_call hbk rfl | exact S_call h5 rfl | exact M_d rfl | exact M_p rfl | exact M_o rfl | exact M_n rfl | exact M_r rfl | exact M_a rfl | exact M_m rfl | exact A_d rfl | exact A_p rfl | exact A_o rfl | exact A_n rfl | exact A_r rfl | exact A_a rfl | exact A_m rfl | exact S_load_rp rfl rfl | exact S_load_ptr rfl rfl rfl | exact S_load_ptrs rfl rfl rfl | exact S_fieldAddr_rp rfl rfl | exact S_fieldAddr_ptr rfl rfl | exact S_fieldAddr_rptr rfl rfl rfl | exact S_field rfl rfl | exact S_lss rfl rfl | exact S_leq rfl rfl | exact S_gtr rfl rfl | exact S_geq rfl rfl | exact S_eql rfl rfl | exact S_neq rfl rfl | exact S_not rfl | exact S_pick_T rfl rfl | exact S_pick_F rfl rfl | exact S_pick_and rfl rfl rfl | exact S_pick_or rfl rfl rfl | exact I_add rfl rfl (by simp only [InK]; omega) | exact I_add rfl rfl (by simp only [InK]; simp at hg; omega) | exact S_add rfl rfl | exact I_sub rfl rfl (by simp only [InK]; omega) | exact I_sub rfl rfl (by simp only [InK]; simp at hg; omega) | exact S_sub rfl rfl | exact I_mul rfl rfl (by simp only [InK]; omega) | exact S_mul rfl rfl | exact S_quo rfl rfl (by decide) | exact S_rem rfl rfl (by decide) | exact S_len_slice rfl | exact S_len_own rfl rfl | exact S_len_str rfl | exact S_len_nil rfl | exact S_extract rfl rfl | exact I_toInt rfl (by simp only [InK]; omega) | exact W_toInt rfl | exact S_eqlb (BoolI.out) rfl rfl | exact S_neqb (BoolI.out) rfl rfl | exact S_eqls rfl rfl | exact S_eqlA rfl rfl rfl rfl rfl | exact S_neqA rfl rfl rfl rfl rfl | exact S_neqs rfl rfl | exact S_and rfl rfl | exact S_or rfl rfl | exact S_xor rfl rfl | exact S_andNot rfl rfl | exact S_shl rfl rfl (by omega) | exact S_shr rfl rfl (by omega) | exact S_nilCheck_ptr rfl | exact S_nilCheck_rp rfl | exact S_nilCheck_fn rfl | exact S_build rfl | exact S_lit rfl rfl rfl rfl | exact S_min rfl rfl | exact S_max rfl rfl | exact S_load_rptr rfl rfl rfl rfl | exact S_field_aggd rfl rfl | exact S_makeFunc rfl | exact S_eqNilT rfl | exact S_ix_slice rfl rfl (by decide) rfl rfl | exact S_ix_arr_ptr rfl rfl (by decide) (by decide) | exact S_index_aggd rfl rfl (by decide) (by decide) rfl))
    | refine dpickAnd rfl rfl rfl rfl rfl ?_ | refine dpickOr rfl rfl rfl rfl rfl ?_
    | (apply dt rfl; case h => first | exact as_bool (b := false) (S_not rfl) rfl | exact as_bool (S_neq rfl rfl) (ne_self _) | exact as_bool (S_eql rfl rfl) (eq_self _) | exact S_bs Try.underlying5 Try.underlying9 rfl | exact as_bool (S_eqls rfl rfl) (eq_self _) | exact S_alloc _ rfl | exact S_box _ rfl rfl)
    | (apply ds; case h => first | exact as_bool (b := false) (S_not rfl) rfl | exact as_bool (S_neq rfl rfl) (ne_self _) | exact as_bool (S_eql rfl rfl) (eq_self _) | exact S_bs Try.underlying5 Try.underlying9 rfl | exact as_bool (S_eqls rfl rfl) (eq_self _) | exact S_store rfl rfl rfl rfl rfl rfl)
    | (apply dm rfl; case h => first | exact as_bool (b := false) (S_not rfl) rfl | exact as_bool (S_neq rfl rfl) (ne_self _) | exact as_bool (S_eql rfl rfl) (eq_self _) | exact S_bs Try.underlying5 Try.underlying9 rfl | exact as_bool (S_eqls rfl rfl) (eq_self _) | exact M_d rfl)
    | fail)
      exact ret1 rfl (.inl rfl) rfl
    · rw [Frame.pE_not hp] at h3
      have h6 := ref2_Same _ _ Frame.zero_ok Frame.zero_ok
      rw [hzz] at h6
      repeat' (first
    | refine DW_seq ?_
    | refine DW_region ?_
    | refine DW_draw ?_
    | refine dnilP ?_
    | refine dnilD (by kernel_rfl) ?_
    | refine then_normal ?_
    | refine then_exit ?_
    | refine then_ret ?_
    | refine DW_block ?_
    | refine blk_normal ?_
    | refine blk_ret ?_
    | refine blk_hit rfl ?_
    | refine blk_miss rfl ?_
    | refine loop_exit ?_
    | refine loop_ret ?_
    | refine DW_ret ?_
    | refine DW_exit ?_
    | refine DW_skip ?_
    | refine DW_cond_t rfl ?_
    | refine DW_cond_f rfl ?_
    | (apply dpC rfl; case h => first | exact S_call alive2 rfl | exact S_call h1 rfl | exact S_call h3 rfl | exact S_call h2 rfl | exact S_call hbk rfl | exact S_call h6 rfl | exact S_len_slice rfl | exact S_len_own rfl rfl | exact S_len_str rfl | exact S_len_nil rfl | exact S_min rfl rfl | exact S_max rfl rfl)
    | (apply dp rfl; case h => first | exact as_bool (b := false) (S_not rfl) rfl | exact as_bool (S_neq rfl rfl) (ne_self _) | exact as_bool (S_eql rfl rfl) (eq_self _) | exact as_bool (S_neq rfl rfl) (decide_eq_true hp) | exact M_d rfl | exact M_p rfl | exact M_o rfl | exact M_n rfl | exact M_r rfl | exact M_a rfl | exact M_m rfl | exact A_d rfl | exact A_p rfl | exact A_o rfl | exact A_n rfl | exact A_r rfl | exact A_a rfl | exact A_m rfl | exact S_load_rp rfl rfl | exact S_load_ptr rfl rfl rfl | exact S_load_ptrs rfl rfl rfl | exact S_fieldAddr_rp rfl rfl | exact S_fieldAddr_ptr rfl rfl | exact S_fieldAddr_rptr rfl rfl rfl | exact S_field rfl rfl | exact S_lss rfl rfl | exact S_leq rfl rfl | exact S_gtr rfl rfl | exact S_geq rfl rfl | exact S_eql rfl rfl | exact S_neq rfl rfl | exact S_not rfl | exact S_pick_T rfl rfl | exact S_pick_F rfl rfl | exact S_pick_and rfl rfl rfl | exact S_pick_or rfl rfl rfl | exact I_add rfl rfl (by simp only [InK]; omega) | exact I_add rfl rfl (by simp only [InK]; simp at hg; omega) | exact S_add rfl rfl | exact I_sub rfl rfl (by simp only [InK]; omega) | exact I_sub rfl rfl (by simp only [InK]; simp at hg; omega) | exact S_sub rfl rfl | exact I_mul rfl rfl (by simp only [InK]; omega) | exact S_mul rfl rfl | exact S_quo rfl rfl (by decide) | exact S_rem rfl rfl (by decide) | exact S_extract rfl rfl | exact I_toInt rfl (by simp only [InK]; omega) | exact W_toInt rfl | exact S_eqlb (BoolI.out) rfl rfl | exact S_neqb (BoolI.out) rfl rfl | exact S_eqls rfl rfl | exact S_eqlA rfl rfl rfl rfl rfl | exact S_neqA rfl rfl rfl rfl rfl | exact S_neqs rfl rfl | exact S_and rfl rfl | exact S_or rfl rfl | exact S_xor rfl rfl | exact S_andNot rfl rfl | exact S_shl rfl rfl (by omega) | exact S_shr rfl rfl (by omega) | exact S_nilCheck_ptr rfl | exact S_nilCheck_rp rfl | exact S_nilCheck_fn rfl | exact S_build rfl | exact S_lit rfl rfl rfl rfl | exact S_load_rptr rfl rfl rfl rfl | exact S_field_aggd rfl rfl | exact S_makeFunc rfl | exact S_eqNilT rfl | exact S_ix_slice rfl rfl (by decide) rfl rfl | exact S_ix_arr_ptr rfl rfl (by decide) (by decide) | exact S_index_aggd rfl rfl (by decide) (by decide) rfl)
    | refine dpOff rfl rfl ?_
    | (apply dpOn rfl rfl; case h => first | exact as_bool (b := false) (S_not rfl) rfl | exact as_bool (S_neq rfl rfl) (ne_self _) | exact as_bool (S_eql rfl rfl) (eq_self _) | exact as_bool (S_neq rfl rfl) (decide_eq_true hp) | exact S_call alive2 rfl | exact S_call h1 rfl | exact S_call h3 rfl | exact S_call h2 rfl | exact S_call hbk rfl | exact S_call h6 rfl | exact M_d rfl | exact M_p rfl | exact M_o rfl | exact M_n rfl | exact M_r rfl | exact M_a rfl | exact M_m rfl | exact A_d rfl | exact A_p rfl | exact A_o rfl | exact A_n rfl | exact A_r rfl | exact A_a rfl | exact A_m rfl | exact S_load_rp rfl rfl | exact S_load_ptr rfl rfl rfl | exact S_load_ptrs rfl rfl rfl | exact S_fieldAddr_rp rfl rfl | exact S_fieldAddr_ptr rfl rfl | exact S_fieldAddr_rptr rfl rfl rfl | exact S_field rfl rfl | exact S_lss rfl rfl | exact S_leq rfl rfl | exact S_gtr rfl rfl | exact S_geq rfl rfl | exact S_eql rfl rfl | exact S_neq rfl rfl | exact S_not rfl | exact S_pick_T rfl rfl | exact S_pick_F rfl rfl | exact S_pick_and rfl rfl rfl | exact S_pick_or rfl rfl rfl | exact I_add rfl rfl (by simp only [InK]; omega) | exact I_add rfl rfl (by simp only [InK]; simp at hg; omega) | exact S_add rfl rfl | exact I_sub rfl rfl (by simp only [InK]; omega) | exact I_sub rfl rfl (by simp only [InK]; simp at hg; omega) | exact S_sub rfl rfl | exact I_mul rfl rfl (by simp only [InK]; omega) | exact S_mul rfl rfl | exact S_quo rfl rfl (by decide) | exact S_rem rfl rfl (by decide) | exact S_len_slice rfl | exact S_len_own rfl rfl | exact S_len_str rfl | exact S_len_nil rfl | exact S_extract rfl rfl | exact I_toInt rfl (by simp only [InK]; omega) | exact W_toInt rfl | exact S_eqlb (BoolI.out) rfl rfl | exact S_neqb (BoolI.out) rfl rfl | exact S_eqls rfl rfl | exact S_eqlA rfl rfl rfl rfl rfl | exact S_neqA rfl rfl rfl rfl rfl | exact S_neqs rfl rfl | exact S_and rfl rfl | exact S_or rfl rfl | exact S_xor rfl rfl | exact S_andNot rfl rfl | exact S_shl rfl rfl (by omega) | exact S_shr rfl rfl (by omega) | exact S_nilCheck_ptr rfl | exact S_nilCheck_rp rfl | exact S_nilCheck_fn rfl | exact S_build rfl | exact S_lit rfl rfl rfl rfl | exact S_min rfl rfl | exact S_max rfl rfl | exact S_load_rptr rfl rfl rfl rfl | exact S_field_aggd rfl rfl | exact S_makeFunc rfl | exact S_eqNilT rfl | exact S_ix_slice rfl rfl (by decide) rfl rfl | exact S_ix_arr_ptr rfl rfl (by decide) (by decide) | exact S_index_aggd rfl rfl (by decide) (by decide) rfl)
    | (apply dpMay rfl rfl (by first | exact fun _ => trivial | exact fun h => ⟨h, trivial⟩ | exact fun h => ⟨h, h, trivial⟩ | exact fun h => ⟨h, h, h, trivial⟩ | exact fun h => ⟨h, h, h, h, trivial⟩); case h => (intro hg; first | exact as_bool (b := false) (S_not rfl) rfl | exact as_bool (S_neq rfl rfl) (ne_self _) | exact as_bool (S_eql rfl rfl) (eq_self _) | exact as_bool (S_neq rfl rfl) (decide_eq_true hp) | exact S_call alive2 rfl | exact S_call h1 rfl | exact S_call h3 rfl | exact S_call h2 rfl | exact S_call hbk rfl | exact S_call h6 rfl | exact M_d rfl | exact M_p rfl | exact M_o rfl | exact M_n rfl | exact M_r rfl | exact M_a rfl | exact M_m rfl | exact A_d rfl | exact A_p rfl | exact A_o rfl | exact A_n rfl | exact A_r rfl | exact A_a rfl | exact A_m rfl | exact S_load_rp rfl rfl | exact S_load_ptr rfl rfl rfl | exact S_load_ptrs rfl rfl rfl | exact S_fieldAddr_rp rfl rfl | exact S_fieldAddr_ptr rfl rfl | exact S_fieldAddr_rptr rfl rfl rfl | exact S_field rfl rfl | exact S_lss rfl rfl | exact S_leq rfl rfl | exact S_gtr rfl rfl | exact S_geq rfl rfl | exact S_eql rfl rfl | exact S_neq rfl rfl | exact S_not rfl | exact S_pick_T rfl rfl | exact S_pick_F rfl rfl | exact S_pick_and rfl rfl rfl | exact S_pick_or rfl rfl rfl | exact I_add rfl rfl (by simp only [InK]; omega) | exact I_add rfl rfl (by simp only [InK]; simp at hg; omega) | exact S_add rfl rfl | exact I_sub rfl rfl (by simp only [InK]; omega) | exact I_sub rfl rfl (by simp only [InK]; simp at hg; omega) | exact S_sub rfl rfl | exact I_mul rfl rfl (by simp only [InK]; omega) | exact S_mul rfl rfl | exact S_quo rfl rfl (by decide) | exact S_rem rfl rfl (by decide) | exact S_len_slice rfl | exact S_len_own rfl rfl | exact S_len_str rfl | exact S_len_nil rfl | exact S_extract rfl rfl | exact I_toInt rfl (by simp only [InK]; omega) | exact W_toInt rfl | exact S_eqlb (BoolI.out) rfl rfl | exact S_neqb (BoolI.out) rfl rfl | exact S_eqls rfl rfl | exact S_eqlA rfl rfl rfl rfl rfl | exact S_neqA rfl rfl rfl rfl rfl | exact S_neqs rfl rfl | exact S_and rfl rfl | exact S_or rfl rfl | exact S_xor rfl rfl | exact S_andNot rfl rfl | exact S_shl rfl rfl (by omega) | exact S_shr rfl rfl (by omega) | exact S_nilCheck_ptr rfl | exact S_nilCheck_rp rfl | exact S_nilCheck_fn rfl | exact S_build rfl | exact S_lit rfl rfl rfl rfl | exact S_min rfl rfl | exact S_max rfl rfl | exact S_load_rptr rfl rfl rfl rfl | exact S_field_aggd rfl rfl | exact S_makeFunc rfl | exact S_eqNilT rfl | exact S_ix_slice rfl rfl (by decide) rfl rfl | exact S_ix_arr_ptr rfl rfl (by decide) (by decide) | exact S_index_aggd rfl rfl (by decide) (by decide) rfl))
    | refine dpickAnd rfl rfl rfl rfl rfl ?_ | refine dpickOr rfl rfl rfl rfl rfl ?_
    | (apply dt rfl; case h => first | exact as_bool (b := false) (S_not rfl) rfl | exact as_bool (S_neq rfl rfl) (ne_self _) | exact as_bool (S_eql rfl rfl) (eq_self _) | exact as_bool (S_neq rfl rfl) (decide_eq_true hp) | exact S_alloc _ rfl | exact S_box _ rfl rfl)
    | (apply ds; case h => first | exact as_bool (b := false) (S_not rfl) rfl | exact as_bool (S_neq rfl rfl) (ne_self _) | exact as_bool (S_eql rfl rfl) (eq_self _) | exact as_bool (S_neq rfl rfl) (decide_eq_true hp) | exact S_store rfl rfl rfl rfl rfl rfl)
    | (apply dm rfl; case h => first | exact as_bool (b := false) (S_not rfl) rfl | exact as_bool (S_neq rfl rfl) (ne_self _) | exact as_bool (S_eql rfl rfl) (eq_self _) | exact as_bool (S_neq rfl rfl) (decide_eq_true hp) | exact M_d rfl)
    | fail)
      exact ret1 rfl (.inl rfl) rfl
  · by_cases hp : Frame.pE b = 0
    · obtain ⟨k1, k2⟩ := Frame.pE_zero hp
      have h5 := fBytes _ h4
      rw [k1, k2] at h5
      rw [hp] at h3
      repeat' (first
    | refine DW_seq ?_
    | refine DW_region ?_
    | refine DW_draw ?_
    | refine dnilP ?_
    | refine dnilD (by kernel_rfl) ?_
    | refine then_normal ?_
    | refine then_exit ?_
    | refine then_ret ?_
    | refine DW_block ?_
    | refine blk_normal ?_
    | refine blk_ret ?_
    | refine blk_hit rfl ?_
    | refine blk_miss rfl ?_
    | refine loop_exit ?_
    | refine loop_ret ?_
    | refine DW_ret ?_
    | refine DW_exit ?_
    | refine DW_skip ?_
    | refine DW_cond_t rfl ?_
    | refine DW_cond_f rfl ?_
    | (apply dpC rfl; case h => first | exact S_call alive2 rfl | exact S_call h1 rfl | exact S_call h3 rfl | exact S_call h5 rfl | exact S_len_slice rfl | exact S_len_own rfl rfl | exact S_len_str rfl | exact S_len_nil rfl | exact S_min rfl rfl | exact S_max rfl rfl)
    | (apply dp rfl; case h => first | exact as_bool (S_eql rfl rfl) (decide_eq_false hw) | exact as_bool (b := false) (S_not rfl) rfl | exact as_bool (S_neq rfl rfl) (ne_self _) | exact as_bool (S_eql rfl rfl) (eq_self _) | exact S_bs Try.underlying5 Try.underlying9 rfl | exact as_bool (S_eqls rfl rfl) (eq_self _) | exact M_d rfl | exact M_p rfl | exact M_o rfl | exact M_n rfl | exact M_r rfl | exact M_a rfl | exact M_m rfl | exact A_d rfl | exact A_p rfl | exact A_o rfl | exact A_n rfl | exact A_r rfl | exact A_a rfl | exact A_m rfl | exact S_load_rp rfl rfl | exact S_load_ptr rfl rfl rfl | exact S_load_ptrs rfl rfl rfl | exact S_fieldAddr_rp rfl rfl | exact S_fieldAddr_ptr rfl rfl | exact S_fieldAddr_rptr rfl rfl rfl | exact S_field rfl rfl | exact S_lss rfl rfl | exact S_leq rfl rfl | exact S_gtr rfl rfl | exact S_geq rfl rfl | exact S_eql rfl rfl | exact S_neq rfl rfl | exact S_not rfl | exact S_pick_T rfl rfl | exact S_pick_F rfl rfl | exact S_pick_and rfl rfl rfl | exact S_pick_or rfl rfl rfl | exact I_add rfl rfl (by simp only [InK]; omega) | exact I_add rfl rfl (by simp only [InK]; simp at hg; omega) | exact S_add rfl rfl | exact I_sub rfl rfl (by simp only [InK]; omega) | exact I_sub rfl rfl (by simp only [InK]; simp at hg; omega) | exact S_sub rfl rfl | exact I_mul rfl rfl (by simp only [InK]; omega) | exact S_mul rfl rfl | exact S_quo rfl rfl (by decide) | exact S_rem rfl rfl (by decide) | exact S_extract rfl rfl | exact I_toInt rfl (by simp only [InK]; omega) | exact W_toInt rfl | exact S_eqlb (BoolI.out) rfl rfl | exact S_neqb (BoolI.out) rfl rfl | exact S_eqls rfl rfl | exact S_eqlA rfl rfl rfl rfl rfl | exact S_neqA rfl rfl rfl rfl rfl | exact S_neqs rfl rfl | exact S_and rfl rfl | exact S_or rfl rfl | exact S_xor rfl rfl | exact S_andNot rfl rfl | exact S_shl rfl rfl (by omega) | exact S_shr rfl rfl (by omega) | exact S_nilCheck_ptr rfl | exact S_nilCheck_rp rfl | exact S_nilCheck_fn rfl | exact S_build rfl | exact S_lit rfl rfl rfl rfl | exact S_load_rptr rfl rfl rfl rfl | exact S_field_aggd rfl rfl | exact S_makeFunc rfl | exact S_eqNilT rfl | exact S_ix_slice rfl rfl (by decide) rfl rfl | exact S_ix_arr_ptr rfl rfl (by decide) (by decide) | exact S_index_aggd rfl rfl (by decide) (by decide) rfl)
    | refine dpOff rfl rfl ?_
    | (apply dpOn rfl rfl; case h => first | exact as_bool (S_eql rfl rfl) (decide_eq_false hw) | exact as_bool (b := false) (S_not rfl) rfl | exact as_bool (S_neq rfl rfl) (ne_self _) | exact as_bool (S_eql rfl rfl) (eq_self _) | exact S_bs Try.underlying5 Try.underlying9 rfl | exact as_bool (S_eqls rfl rfl) (eq_self _) | exact S_call alive2 rfl | exact S_call h1 rfl | exact S_call h3 rfl | exact S_call h5 rfl | exact M_d rfl | exact M_p rfl | exact M_o rfl | exact M_n rfl | exact M_r rfl | exact M_a rfl | exact M_m rfl | exact A_d rfl | exact A_p rfl | exact A_o rfl | exact A_n rfl | exact A_r rfl | exact A_a rfl | exact A_m rfl | exact S_load_rp rfl rfl | exact S_load_ptr rfl rfl rfl | exact S_load_ptrs rfl rfl rfl | exact S_fieldAddr_rp rfl rfl | exact S_fieldAddr_ptr rfl rfl | exact S_fieldAddr_rptr rfl rfl rfl | exact S_field rfl rfl | exact S_lss rfl rfl | exact S_leq rfl rfl | exact S_gtr rfl rfl | exact S_geq rfl rfl | exact S_eql rfl rfl | exact S_neq rfl rfl | exact S_not rfl | exact S_pick_T rfl rfl | exact S_pick_F rfl rfl | exact S_pick_and rfl rfl rfl | exact S_pick_or rfl rfl rfl | exact I_add rfl rfl (by simp only [InK]; omega) | exact I_add rfl rfl (by simp only [InK]; simp at hg; omega) | exact S_add rfl rfl | exact I_sub rfl rfl (by simp only [InK]; omega) | exact I_sub rfl rfl (by simp only [InK]; simp at hg; omega) | exact S_sub rfl rfl | exact I_mul rfl rfl (by simp only [InK]; omega) | exact S_mul rfl rfl | exact S_quo rfl rfl (by decide) | exact S_rem rfl rfl (by decide) | exact S_len_slice rfl | exact S_len_own rfl rfl | exact S_len_str rfl | exact S_len_nil rfl | exact S_extract rfl rfl | exact I_toInt rfl (by simp only [InK]; omega) | exact W_toInt rfl | exact S_eqlb (BoolI.out) rfl rfl | exact S_neqb (BoolI.out) rfl rfl | exact S_eqls rfl rfl | exact S_eqlA rfl rfl rfl rfl rfl | exact S_neqA rfl rfl rfl rfl rfl | exact S_neqs rfl rfl | exact S_and rfl rfl | exact S_or rfl rfl | exact S_xor rfl rfl | exact S_andNot rfl rfl | exact S_shl rfl rfl (by omega) | exact S_shr rfl rfl (by omega) | exact S_nilCheck_ptr rfl | exact S_nilCheck_rp rfl | exact S_nilCheck_fn rfl | exact S_build rfl | exact S_lit rfl rfl rfl rfl | exact S_min rfl rfl | exact S_max rfl rfl | exact S_load_rptr rfl rfl rfl rfl | exact S_field_aggd rfl rfl | exact S_makeFunc rfl | exact S_eqNilT rfl | exact S_ix_slice rfl rfl (by decide) rfl rfl | exact S_ix_arr_ptr rfl rfl (by decide) (by decide) | exact S_index_aggd rfl rfl (by decide) (by decide) rfl)
    | (apply dpMay rfl rfl (by first | exact fun _ => trivial | exact fun h => ⟨h, trivial⟩ | exact fun h => ⟨h, h, trivial⟩ | exact fun h => ⟨h, h, h, trivial⟩ | exact fun h => ⟨h, h, h, h, trivial⟩); case h => (intro hg; first | exact as_bool (S_eql rfl rfl) (decide_eq_false hw) | exact as_bool (b := false) (S_not rfl) rfl | exact as_bool (S_neq rfl rfl) (ne_self _) | exact as_bool (S_eql rfl rfl) (eq_self _) | exact S_bs Try.underlying5 Try.underlying9 rfl | exact as_bool (S_eqls rfl rfl) (eq_self _) | exact S_call alive2 rfl | exact S_call h1 rfl | exact S_call h3 rfl | exact S_call h5 rfl | exact M_d rfl | exact M_p rfl | exact M_o rfl | exact M_n rfl | exact M_r rfl | exact M_a rfl | exact M_m rfl | exact A_d rfl | exact A_p rfl | exact A_o rfl | exact A_n rfl | exact A_r rfl | exact A_a rfl | exact A_m rfl | exact S_load_rp rfl rfl | exact S_load_ptr rfl rfl rfl | exact S_load_ptrs rfl rfl rfl | exact S_fieldAddr_rp rfl rfl | exact S_fieldAddr_ptr rfl rfl | exact S_fieldAddr_rptr rfl rfl rfl | exact S_field rfl rfl | exact S_lss rfl rfl | exact S_leq rfl rfl | exact S_gtr rfl rfl | exact S_geq rfl rfl | exact S_eql rfl rfl | exact S_neq rfl rfl | exact S_not rfl | exact S_pick_T rfl rfl | exact S_pick_F rfl rfl | exact S_pick_and rfl rfl rfl | exact S_pick_or rfl rfl rfl | exact I_add rfl rfl (by simp only [InK]; omega) | exact I_add rfl rfl (by simp only [InK]; simp at hg; omega) | exact S_add rfl rfl | exact I_sub rfl rfl (by simp only [InK]; omega) | exact I_sub rfl rfl (by simp only [InK]; simp at hg; omega) | exact S_sub rfl rfl | exact I_mul rfl rfl (by simp only [InK]; omega) | exact S_mul rfl rfl | exact S_quo rfl rfl (by decide) | exact S_rem rfl rfl (by decide) | exact S_len_slice rfl | exact S_len_own rfl rfl | exact S_len_str rfl | exact S_len_nil rfl | exact S_extract rfl rfl | exact I_toInt rfl (by simp only [InK]; omega) | exact W_toInt rfl | exact S_eqlb (BoolI.out) rfl rfl | exact S_neqb (BoolI.out) rfl rfl | exact S_eqls rfl rfl | exact S_eqlA rfl rfl rfl rfl rfl | exact S_neqA rfl rfl rfl rfl rfl | exact S_neqs rfl rfl | exact S_and rfl rfl | exact S_or rfl rfl | exact S_xor rfl rfl | exact S_andNot rfl rfl | exact S_shl rfl rfl (by omega) | exact S_shr rfl rfl (by omega) | exact S_nilCheck_ptr rfl | exact S_nilCheck_rp rfl | exact S_nilCheck_fn rfl | exact S_build rfl | exact S_lit rfl rfl rfl rfl | exact S_min rfl rfl | exact S_max rfl rfl | exact S_load_rptr rfl rfl rfl rfl | exact S_field_aggd rfl rfl | exact S_makeFunc rfl | exact S_eqNilT rfl | exact S_ix_slice rfl rfl (by decide) rfl rfl | exact S_ix_arr_ptr rfl rfl (by decide) (by decide) | exact S_index_aggd rfl rfl (by decide) (by decide) rfl))
    | refine dpickAnd rfl rfl rfl rfl rfl ?_ | refine dpickOr rfl rfl rfl rfl rfl ?_
    | (apply dt rfl; case h => first | exact as_bool (S_eql rfl rfl) (decide_eq_false hw) | exact as_bool (b := false) (S_not rfl) rfl | exact as_bool (S_neq rfl rfl) (ne_self _) | exact as_bool (S_eql rfl rfl) (eq_self _) | exact S_bs Try.underlying5 Try.underlying9 rfl | exact as_bool (S_eqls rfl rfl) (eq_self _) | exact S_alloc _ rfl | exact S_box _ rfl rfl)
    | (apply ds; case h => first | exact as_bool (S_eql rfl rfl) (decide_eq_false hw) | exact as_bool (b := false) (S_not rfl) rfl | exact as_bool (S_neq rfl rfl) (ne_self _) | exact as_bool (S_eql rfl rfl) (eq_self _) | exact S_bs Try.underlying5 Try.underlying9 rfl | exact as_bool (S_eqls rfl rfl) (eq_self _) | exact S_store rfl rfl rfl rfl rfl rfl)
    | (apply dm rfl; case h => first | exact as_bool (S_eql rfl rfl) (decide_eq_false hw) | exact as_bool (b := false) (S_not rfl) rfl | exact as_bool (S_neq rfl rfl) (ne_self _) | exact as_bool (S_eql rfl rfl) (eq_self _) | exact S_bs Try.underlying5 Try.underlying9 rfl | exact as_bool (S_eqls rfl rfl) (eq_self _) | exact M_d rfl)
    | fail)
      exact ret1 rfl (.inl rfl) rfl
    · rw [Frame.pE_not hp] at h3
      have h6 := ref2_Same _ _ Frame.zero_ok Frame.zero_ok
      rw [hzz] at h6
      repeat' (first
    | refine DW_seq ?_
    | refine DW_region ?_
    | refine DW_draw ?_
    | refine dnilP ?_
    | refine dnilD (by kernel_rfl) ?_
    | refine then_normal ?_
    | refine then_exit ?_
    | refine then_ret ?_
    | refine DW_block ?_
    | refine blk_normal ?_
    | refine blk_ret ?_
    | refine blk_hit rfl ?_
    | refine blk_miss rfl ?_
    | refine loop_exit ?_
    | refine loop_ret ?_
    | refine DW_ret ?_
    | refine DW_exit ?_
    | refine DW_skip ?_
    | refine DW_cond_t rfl ?_
    | refine DW_cond_f rfl ?_
    | (apply dpC rfl; case h => first | exact S_call alive2 rfl | exact S_call h1 rfl | exact S_call h3 rfl | exact S_call h6 rfl | exact S_len_slice rfl | exact S_len_own rfl rfl | exact S_len_str rfl | exact S_len_nil rfl | exact S_min rfl rfl | exact S_max rfl rfl)
    | (apply dp rfl; case h => first | exact as_bool (S_eql rfl rfl) (decide_eq_false hw) | exact as_bool (b := false) (S_not rfl) rfl | exact as_bool (S_neq rfl rfl) (ne_self _) | exact as_bool (S_eql rfl rfl) (eq_self _) | exact as_bool (S_neq rfl rfl) (decide_eq_true hp) | exact M_d rfl | exact M_p rfl | exact M_o rfl | exact M_n rfl | exact M_r rfl | exact M_a rfl | exact M_m rfl | exact A_d rfl | exact A_p rfl | exact A_o rfl | exact A_n rfl | exact A_r rfl | exact A_a rfl | exact A_m rfl | exact S_load_rp rfl rfl | exact S_load_ptr rfl rfl rfl | exact S_load_ptrs rfl rfl rfl | exact S_fieldAddr_rp rfl rfl | exact S_fieldAddr_ptr rfl rfl | exact S_fieldAddr_rptr rfl rfl rfl | exact S_field rfl rfl | exact S_lss rfl rfl | exact S_leq rfl rfl | exact S_gtr rfl rfl | exact S_geq rfl rfl | exact S_eql rfl rfl | exact S_neq rfl rfl | exact S_not rfl | exact S_pick_T rfl rfl | exact S_pick_F rfl rfl | exact S_pick_and rfl rfl rfl | exact S_pick_or rfl rfl rfl | exact I_add rfl rfl (by simp only [InK]; omega) | exact I_add rfl rfl (by simp only [InK]; simp at hg; omega) | exact S_add rfl rfl | exact I_sub rfl rfl (by simp only [InK]; omega) | exact I_sub rfl rfl (by simp only [InK]; simp at hg; omega) | exact S_sub rfl rfl | exact I_mul rfl rfl (by simp only [InK]; omega) | exact S_mul rfl rfl | exact S_quo rfl rfl (by decide) | exact S_rem rfl rfl (by decide) | exact S_extract rfl rfl | exact I_toInt rfl (by simp only [InK]; omega) | exact W_toInt rfl | exact S_eqlb (BoolI.out) rfl rfl | exact S_neqb (BoolI.out) rfl rfl | exact S_eqls rfl rfl | exact S_eqlA rfl rfl rfl rfl rfl | exact S_neqA rfl rfl rfl rfl rfl | exact S_neqs rfl rfl | exact S_and rfl rfl | exact S_or rfl rfl | exact S_xor rfl rfl | exact S_andNot rfl rfl | exact S_shl rfl rfl (by omega) | exact S_shr rfl rfl (by omega) | exact S_nilCheck_ptr rfl | exact S_nilCheck_rp rfl | exact S_nilCheck_fn rfl | exact S_build rfl | exact S_lit rfl rfl rfl rfl | exact S_load_rptr rfl rfl rfl rfl | exact S_field_aggd rfl rfl | exact S_makeFunc rfl | exact S_eqNilT rfl | exact S_ix_slice rfl rfl (by decide) rfl rfl | exact S_ix_arr_ptr rfl rfl (by decide) (by decide) | exact S_index_aggd rfl rfl (by decide) (by decide) rfl)
    | refine dpOff rfl rfl ?_
    | (apply dpOn rfl rfl; case h => first | exact as_bool (S_eql rfl rfl) (decide_eq_false hw) | exact as_bool (b := false) (S_not rfl) rfl | exact as_bool (S_neq rfl rfl) (ne_self _) | exact as_bool (S_eql rfl rfl) (eq_self _) | exact as_bool (S_neq rfl rfl) (decide_eq_true hp) | exact S_call alive2 rfl | exact S_call h1 rfl | exact S_call h3 rfl | exact S_call h6 rfl | exact M_d rfl | exact M_p rfl | exact M_o rfl | exact M_n rfl | exact M_r rfl | exact M_a rfl | exact M_m rfl | exact A_d rfl | exact A_p rfl | exact A_o rfl | exact A_n rfl | exact A_r rfl | exact A_a rfl | exact A_m rfl | exact S_load_rp rfl rfl | exact S_load_ptr rfl rfl rfl | exact S_load_ptrs rfl rfl rfl | exact S_fieldAddr_rp rfl rfl | exact S_fieldAddr_ptr rfl rfl | exact S_fieldAddr_rptr rfl rfl rfl | exact S_field rfl rfl | exact S_lss rfl rfl | exact S_leq rfl rfl | exact S_gtr rfl rfl | exact S_geq rfl rfl | exact S_eql rfl rfl | exact S_neq rfl rfl | exact S_not rfl | exact S_pick_T rfl rfl | exact S_pick_F rfl rfl | exact S_pick_and rfl rfl rfl | exact S_pick_or rfl rfl rfl | exact I_add rfl rfl (by simp only [InK]; omega) | exact I_add rfl rfl (by simp only [InK]; simp at hg; omega) | exact S_add rfl rfl | exact I_sub rfl rfl (by simp only [InK]; omega) | exact I_sub rfl rfl (by simp only [InK]; simp at hg; omega) | exact S_sub rfl rfl | exact I_mul rfl rfl (by simp only [InK]; omega) | exact S_mul rfl rfl | exact S_quo rfl rfl (by decide) | exact S_rem rfl rfl (by decide) | exact S_len_slice rfl | exact S_len_own rfl rfl | exact S_len_str rfl | exact S_len_nil rfl | exact S_extract rfl rfl | exact I_toInt rfl (by simp only [InK]; omega) | exact W_toInt rfl | exact S_eqlb (BoolI.out) rfl rfl | exact S_neqb (BoolI.out) rfl rfl | exact S_eqls rfl rfl | exact S_eqlA rfl rfl rfl rfl rfl | exact S_neqA rfl rfl rfl rfl rfl | exact S_neqs rfl rfl | exact S_and rfl rfl | exact S_or rfl rfl | exact S_xor rfl rfl | exact S_andNot rfl rfl | exact S_shl rfl rfl (by omega) | exact S_shr rfl rfl (by omega) | exact S_nilCheck_ptr rfl | exact S_nilCheck_rp rfl | exact S_nilCheck_fn rfl | exact S_build rfl | exact S_lit rfl rfl rfl rfl | exact S_min rfl rfl | exact S_max rfl rfl | exact S_load_rptr rfl rfl rfl rfl | exact S_field_aggd rfl rfl | exact S_makeFunc rfl | exact S_eqNilT rfl | exact S_ix_slice rfl rfl (by decide) rfl rfl | exact S_ix_arr_ptr rfl rfl (by decide) (by decide) | exact S_index_aggd rfl rfl (by decide) (by decide) rfl)
    | (apply dpMay rfl rfl (by first | exact fun _ => trivial | exact fun h => ⟨h, trivial⟩ | exact fun h => ⟨h, h, trivial⟩ | exact fun h => ⟨h, h, h, trivial⟩ | exact fun h => ⟨h, h, h, h, trivial⟩); case h => (intro hg; first | exact as_bool (S_eql rfl rfl) (decide_eq_false hw) | exact as_bool (b := false) (S_not rfl) rfl | exact as_bool (S_neq rfl rfl) (ne_self _) | exact as_bool (S_eql rfl rfl) (eq_self _) | exact as_bool (S_neq rfl rfl) (decide_eq_true hp) | exact S_call alive2 rfl | exact S_call h1 rfl | exact S_call h3 rfl | exact S_call h6 rfl | exact M_d rfl | exact M_p rfl | exact M_o rfl | exact M_n rfl | exact M_r rfl | exact M_a rfl | exact M_m rfl | exact A_d rfl | exact A_p rfl | exact A_o rfl | exact A_n rfl | exact A_r rfl | exact A_a rfl | exact A_m rfl | exact S_load_rp rfl rfl | exact S_load_ptr rfl rfl rfl | exact S_load_ptrs rfl rfl rfl | exact S_fieldAddr_rp rfl rfl | exact S_fieldAddr_ptr rfl rfl | exact S_fieldAddr_rptr rfl rfl rfl | exact S_field rfl rfl | exact S_lss rfl rfl | exact S_leq rfl rfl | exact S_gtr rfl rfl | exact S_geq rfl rfl | exact S_eql rfl rfl | exact S_neq rfl rfl | exact S_not rfl | exact S_pick_T rfl rfl | exact S_pick_F rfl rfl | exact S_pick_and rfl rfl rfl | exact S_pick_or rfl rfl rfl | exact I_add rfl rfl (by simp only [InK]; omega) | exact I_add rfl rfl (by simp only [InK]; simp at hg; omega) | exact S_add rfl rfl | exact I_sub rfl rfl (by simp only [InK]; omega) | exact I_sub rfl rfl (by simp only [InK]; simp at hg; omega) | exact S_sub rfl rfl | exact I_mul rfl rfl (by simp only [InK]; omega) | exact S_mul rfl rfl | exact S_quo rfl rfl (by decide) | exact S_rem rfl rfl (by decide) | exact S_len_slice rfl | exact S_len_own rfl rfl | exact S_len_str rfl | exact S_len_nil rfl | exact S_extract rfl rfl | exact I_toInt rfl (by simp only [InK]; omega) | exact W_toInt rfl | exact S_eqlb (BoolI.out) rfl rfl | exact S_neqb (BoolI.out) rfl rfl | exact S_eqls rfl rfl | exact S_eqlA rfl rfl rfl rfl rfl | exact S_neqA rfl rfl rfl rfl rfl | exact S_neqs rfl rfl | exact S_and rfl rfl | exact S_or rfl rfl | exact S_xor rfl rfl | exact S_andNot rfl rfl | exact S_shl rfl rfl (by omega) | exact S_shr rfl rfl (by omega) | exact S_nilCheck_ptr rfl | exact S_nilCheck_rp rfl | exact S_nilCheck_fn rfl | exact S_build rfl | exact S_lit rfl rfl rfl rfl | exact S_min rfl rfl | exact S_max rfl rfl | exact S_load_rptr rfl rfl rfl rfl | exact S_field_aggd rfl rfl | exact S_makeFunc rfl | exact S_eqNilT rfl | exact S_ix_slice rfl rfl (by decide) rfl rfl | exact S_ix_arr_ptr rfl rfl (by decide) (by decide) | exact S_index_aggd rfl rfl (by decide) (by decide) rfl))
    | refine dpickAnd rfl rfl rfl rfl rfl ?_ | refine dpickOr rfl rfl rfl rfl rfl ?_
    | (apply dt rfl; case h => first | exact as_bool (S_eql rfl rfl) (decide_eq_false hw) | exact as_bool (b := false) (S_not rfl) rfl | exact as_bool (S_neq rfl rfl) (ne_self _) | exact as_bool (S_eql rfl rfl) (eq_self _) | exact as_bool (S_neq rfl rfl) (decide_eq_true hp) | exact S_alloc _ rfl | exact S_box _ rfl rfl)
    | (apply ds; case h => first | exact as_bool (S_eql rfl rfl) (decide_eq_false hw) | exact as_bool (b := false) (S_not rfl) rfl | exact as_bool (S_neq rfl rfl) (ne_self _) | exact as_bool (S_eql rfl rfl) (eq_self _) | exact as_bool (S_neq rfl rfl) (decide_eq_true hp) | exact S_store rfl rfl rfl rfl rfl rfl)
    | (apply dm rfl; case h => first | exact as_bool (S_eql rfl rfl) (decide_eq_false hw) | exact as_bool (b := false) (S_not rfl) rfl | exact as_bool (S_neq rfl rfl) (ne_self _) | exact as_bool (S_eql rfl rfl) (eq_self _) | exact as_bool (S_neq rfl rfl) (decide_eq_true hp) | exact M_d rfl)
    | fail)
      exact ret1 rfl (.inl rfl) rfl
end Go.Proofs.Ytjniepfecgcmaaa
