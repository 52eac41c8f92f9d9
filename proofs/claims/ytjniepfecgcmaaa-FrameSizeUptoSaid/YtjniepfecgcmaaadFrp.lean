/- Contracts: Parse of frames. -/
import Derived.Test.YtjniepfecgcmaaadFrm
namespace Go.Proofs.Ytjniepfecgcmaaa
open Go.RowKit
attribute [local irreducible] SStep DW DWin DOps thenQ inBlk loopQ retQ retQG FnF FnG Wk IntKind.wrap IntKind.andI IntKind.orI IntKind.xorI IntKind.andNotI IntKind.shlI IntKind.shrI beBytes byteAt beNum

def Frame.read (b : List UInt8) : Option Frame :=
  if b.length < 14 then none else
  if beNum ((b.drop 12).take 2) = 33024 then
    if b.length < 18 then none else
    some ⟨beNum (b.take 6), beNum ((b.drop 6).take 6), true, beNum ((b.drop 14).take 4) / 65536 / 8192, decide (beNum ((b.drop 14).take 4) / 65536 / 4096 % 2 = 1), beNum ((b.drop 14).take 4) / 65536 % 4096, beNum ((b.drop 14).take 4) % 65536, b.drop 18⟩
  else some ⟨beNum (b.take 6), beNum ((b.drop 6).take 6), false, 0, false, 0, beNum ((b.drop 12).take 2), b.drop 14⟩
def Frame.parse (b : List UInt8) : V := match Frame.read b with
  | none => .tuple [Frame.zero.v, .int .i64 2]
  | some f => if f.wrong = 0 then .tuple [f.v, .int .i64 0] else .tuple [Frame.zero.v, .int .i64 f.wrong]
theorem beNum_small : ∀ (l : List UInt8), (l.length ≤ 2 → beNum l < 65536) ∧ (l.length ≤ 4 → beNum l < 4294967296) := fun l => by
  unfold beNum
  match l with
  | [] => simp
  | [a] => have := a.toNat_lt; simp; omega
  | [a, b] => have := a.toNat_lt; have := b.toNat_lt; simp; omega
  | [a, b, c] => have := a.toNat_lt; have := b.toNat_lt; have := c.toNat_lt; simp; omega
  | [a, b, c, d] => have := a.toNat_lt; have := b.toNat_lt; have := c.toNat_lt; have := d.toNat_lt; simp; omega
  | a :: b :: c :: d :: e :: r => simp
theorem Frame.read_ok {b : List UInt8} {f : Frame} (hb : b.length ≤ 1048576) (h : Frame.read b = some f) : f.ok := by
  have h1 := beNum_range (b.take 6)
  have h2 := beNum_range ((b.drop 6).take 6)
  have h3 := beNum_range ((b.drop 12).take 2)
  have h4 := beNum_range ((b.drop 14).take 4)
  have h5 := (beNum_small ((b.drop 14).take 4)).2 (by simp; omega)
  have h6 := (beNum_small ((b.drop 12).take 2)).1 (by simp; omega)
  unfold Frame.read at h
  split at h
  · cases h
  · split at h
    · split at h
      · cases h
      · injection h with h
        subst h
        constructor <;> simp only <;> first | omega | (simp; omega)
    · injection h with h
      subst h
      constructor <;> simp only <;> first | omega | (simp; omega)

theorem Frame.ok.nil {f : Frame} (h : f.ok) : Frame.ok { f with data := [] } := ⟨h.d0, h.d1, h.s0, h.s1, h.p0, h.p1, h.v0, h.v1, h.t0, h.t1, by simp⟩
theorem and_mask {a : Int} (h : 0 ≤ a) (h2 : a ≤ 18446744073709551615) : IntKind.u64.andI a 4095 = a % 4096 ∧ IntKind.u64.andI a 65535 = a % 65536 := by
  have hb : IntKind.u64.bits = 64 := rfl
  have key : ∀ (k : Nat), k ≤ 16 → (BitVec.ofInt 64 a &&& BitVec.ofInt 64 ((2 ^ k - 1 : Nat) : Int)).toNat = a.toNat % 2 ^ k := fun k hk => by
    have h1 : 2 ^ k ≤ 2 ^ 16 := Nat.pow_le_pow_right (by decide) hk
    have h2' : 1 ≤ 2 ^ k := Nat.one_le_two_pow
    rw [BitVec.toNat_and, ofInt_toNat64 h (by omega), ofInt_toNat64 (by omega) (by omega)]
    rw [Int.toNat_natCast, Nat.and_two_pow_sub_one_eq_mod]
  unfold IntKind.andI
  rw [hb]
  have k1 := key 12 (by decide)
  have k2 := key 16 (by decide)
  simp only [show ((2 ^ 12 - 1 : Nat) : Int) = 4095 from rfl] at k1
  simp only [show ((2 ^ 16 - 1 : Nat) : Int) = 65535 from rfl] at k2
  rw [k1, k2, wrap_u64, wrap_u64]
  omega
theorem shr_c {a : Int} : IntKind.u64.shrI a 16 = a / 65536 ∧ IntKind.u64.shrI a 13 = a / 8192 ∧ IntKind.u64.shrI a 12 = a / 4096 := by
  unfold IntKind.shrI
  have e1 : (2 : Int) ^ (min (16 : Int).toNat IntKind.u64.bits) = 65536 := by decide
  have e2 : (2 : Int) ^ (min (13 : Int).toNat IntKind.u64.bits) = 8192 := by decide
  have e3 : (2 : Int) ^ (min (12 : Int).toNat IntKind.u64.bits) = 4096 := by decide
  rw [e1, e2, e3, Int.fdiv_eq_ediv_of_nonneg _ (by decide), Int.fdiv_eq_ediv_of_nonneg _ (by decide), Int.fdiv_eq_ediv_of_nonneg _ (by decide)]
  exact ⟨rfl, rfl, rfl⟩

set_option maxHeartbeats 4000000 in
theorem frame_Parse (b : List UInt8) (hb : b.length ≤ 1048576) : FnF Try.prog 27 [.slice (b.map byteV)] (Frame.parse b) := by
  refine fnF_of Try.func27 rfl rfl rfl ?_
  simp only [envOf]
  by_cases h6 : b.length < 6
  · have hr : Frame.read b = none := by unfold Frame.read; rw [if_pos (by omega)]
    repeat' (first
    | refine DW_loopU ?_
    | refine DWin_step ?_
    | refine DW_seq ?_
    | refine DW_region ?_
    | refine DW_draw ?_
    | refine dnilP ?_
    | refine dnilD (by kernel_rfl) ?_
    | refine then_normal ?_
    | refine then_exit ?_
    | refine then_ret ?_
    | refine DW_block ?_
    | refine blk_normal ?_
    | refine blk_ret ?_
    | refine blk_hit rfl ?_
    | refine blk_miss rfl ?_
    | refine loop_exit ?_
    | refine loop_ret ?_
    | refine DW_ret ?_
    | refine DW_exit ?_
    | refine DW_skip ?_
    | refine DW_cond_t rfl ?_
    | refine DW_cond_f rfl ?_
    | (apply dpC rfl; case h => first | exact S_callGD (frame_take_no b 6 (by omega) h6 (by decide)) rfl | exact S_len_slice rfl | exact S_len_own rfl rfl | exact S_len_str rfl | exact S_len_nil rfl | exact S_min rfl rfl | exact S_max rfl rfl)
    | (apply dp rfl; case h => first | exact M_d rfl | exact M_p rfl | exact M_o rfl | exact M_n rfl | exact M_r rfl | exact M_a rfl | exact M_m rfl | exact A_d rfl | exact A_p rfl | exact A_o rfl | exact A_n rfl | exact A_r rfl | exact A_a rfl | exact A_m rfl | exact S_load_rp rfl rfl | exact S_load_ptr rfl rfl rfl | exact S_load_ptrs rfl rfl rfl | exact S_fieldAddr_rp rfl rfl | exact S_fieldAddr_ptr rfl rfl | exact S_fieldAddr_rptr rfl rfl rfl | exact S_field rfl rfl | exact S_lss rfl rfl | exact S_leq rfl rfl | exact S_gtr rfl rfl | exact S_geq rfl rfl | exact S_eql rfl rfl | exact S_neq rfl rfl | exact S_not rfl | exact S_pick_T rfl rfl | exact S_pick_F rfl rfl | exact S_pick_and rfl rfl rfl | exact S_pick_or rfl rfl rfl | exact I_add rfl rfl (by simp only [InK]; omega) | exact I_add rfl rfl (by simp only [InK]; simp at hg; omega) | exact S_add rfl rfl | exact I_sub rfl rfl (by simp only [InK]; omega) | exact I_sub rfl rfl (by simp only [InK]; simp at hg; omega) | exact S_sub rfl rfl | exact I_mul rfl rfl (by simp only [InK]; omega) | exact S_mul rfl rfl | exact S_quo rfl rfl (by decide) | exact S_rem rfl rfl (by decide) | exact S_extract rfl rfl | exact I_toInt rfl (by simp only [InK]; omega) | exact W_toInt rfl | exact S_eqlb (BoolI.out) rfl rfl | exact S_neqb (BoolI.out) rfl rfl | exact S_eqls rfl rfl | exact S_eqlA rfl rfl rfl rfl rfl | exact S_neqA rfl rfl rfl rfl rfl | exact S_neqs rfl rfl | exact S_and rfl rfl | exact S_or rfl rfl | exact S_xor rfl rfl | exact S_andNot rfl rfl | exact S_shl rfl rfl (by omega) | exact S_shr rfl rfl (by omega) | exact S_nilCheck_ptr rfl | exact S_nilCheck_rp rfl | exact S_nilCheck_fn rfl | exact S_build rfl | exact S_lit rfl rfl rfl rfl | exact S_load_rptr rfl rfl rfl rfl | exact S_field_aggd rfl rfl | exact S_makeFunc rfl | exact S_eqNilT rfl | exact S_ix_slice rfl rfl (by decide) rfl rfl | exact S_ix_arr_ptr rfl rfl (by decide) (by decide) | exact S_index_aggd rfl rfl (by decide) (by decide) rfl)
    | refine dpOff rfl rfl ?_
    | (apply dpOn rfl rfl; case h => first | exact S_callGD (frame_take_no b 6 (by omega) h6 (by decide)) rfl | exact M_d rfl | exact M_p rfl | exact M_o rfl | exact M_n rfl | exact M_r rfl | exact M_a rfl | exact M_m rfl | exact A_d rfl | exact A_p rfl | exact A_o rfl | exact A_n rfl | exact A_r rfl | exact A_a rfl | exact A_m rfl | exact S_load_rp rfl rfl | exact S_load_ptr rfl rfl rfl | exact S_load_ptrs rfl rfl rfl | exact S_fieldAddr_rp rfl rfl | exact S_fieldAddr_ptr rfl rfl | exact S_fieldAddr_rptr rfl rfl rfl | exact S_field rfl rfl | exact S_lss rfl rfl | exact S_leq rfl rfl | exact S_gtr rfl rfl | exact S_geq rfl rfl | exact S_eql rfl rfl | exact S_neq rfl rfl | exact S_not rfl | exact S_pick_T rfl rfl | exact S_pick_F rfl rfl | exact S_pick_and rfl rfl rfl | exact S_pick_or rfl rfl rfl | exact I_add rfl rfl (by simp only [InK]; omega) | exact I_add rfl rfl (by simp only [InK]; simp at hg; omega) | exact S_add rfl rfl | exact I_sub rfl rfl (by simp only [InK]; omega) | exact I_sub rfl rfl (by simp only [InK]; simp at hg; omega) | exact S_sub rfl rfl | exact I_mul rfl rfl (by simp only [InK]; omega) | exact S_mul rfl rfl | exact S_quo rfl rfl (by decide) | exact S_rem rfl rfl (by decide) | exact S_len_slice rfl | exact S_len_own rfl rfl | exact S_len_str rfl | exact S_len_nil rfl | exact S_extract rfl rfl | exact I_toInt rfl (by simp only [InK]; omega) | exact W_toInt rfl | exact S_eqlb (BoolI.out) rfl rfl | exact S_neqb (BoolI.out) rfl rfl | exact S_eqls rfl rfl | exact S_eqlA rfl rfl rfl rfl rfl | exact S_neqA rfl rfl rfl rfl rfl | exact S_neqs rfl rfl | exact S_and rfl rfl | exact S_or rfl rfl | exact S_xor rfl rfl | exact S_andNot rfl rfl | exact S_shl rfl rfl (by omega) | exact S_shr rfl rfl (by omega) | exact S_nilCheck_ptr rfl | exact S_nilCheck_rp rfl | exact S_nilCheck_fn rfl | exact S_build rfl | exact S_lit rfl rfl rfl rfl | exact S_min rfl rfl | exact S_max rfl rfl | exact S_load_rptr rfl rfl rfl rfl | exact S_field_aggd rfl rfl | exact S_makeFunc rfl | exact S_eqNilT rfl | exact S_ix_slice rfl rfl (by decide) rfl rfl | exact S_ix_arr_ptr rfl rfl (by decide) (by decide) | exact S_index_aggd rfl rfl (by decide) (by decide) rfl)
    | (apply dpMay rfl rfl (by first | exact fun _ => trivial | exact fun h => ⟨h, trivial⟩ | exact fun h => ⟨h, h, trivial⟩ | exact fun h => ⟨h, h, h, trivial⟩ | exact fun h => ⟨h, h, h, h, trivial⟩); case h => (intro hg; first | exact S_callGD (frame_take_no b 6 (by omega) h6 (by decide)) rfl | exact M_d rfl | exact M_p rfl | exact M_o rfl | exact M_n rfl | exact M_r rfl | exact M_a rfl | exact M_m rfl | exact A_d rfl | exact A_p rfl | exact A_o rfl | exact A_n rfl | exact A_r rfl | exact A_a rfl | exact A_m rfl | exact S_load_rp rfl rfl | exact S_load_ptr rfl rfl rfl | exact S_load_ptrs rfl rfl rfl | exact S_fieldAddr_rp rfl rfl | exact S_fieldAddr_ptr rfl rfl | exact S_fieldAddr_rptr rfl rfl rfl | exact S_field rfl rfl | exact S_lss rfl rfl | exact S_leq rfl rfl | exact S_gtr rfl rfl | exact S_geq rfl rfl | exact S_eql rfl rfl | exact S_neq rfl rfl | exact S_not rfl | exact S_pick_T rfl rfl | exact S_pick_F rfl rfl | exact S_pick_and rfl rfl rfl | exact S_pick_or rfl rfl rfl | exact I_add rfl rfl (by simp only [InK]; omega) | exact I_add rfl rfl (by simp only [InK]; simp at hg; omega) | exact S_add rfl rfl | exact I_sub rfl rfl (by simp only [InK]; omega) | exact I_sub rfl rfl (by simp only [InK]; simp at hg; omega) | exact S_sub rfl rfl | exact I_mul rfl rfl (by simp only [InK]; omega) | exact S_mul rfl rfl | exact S_quo rfl rfl (by decide) | exact S_rem rfl rfl (by decide) | exact S_len_slice rfl | exact S_len_own rfl rfl | exact S_len_str rfl | exact S_len_nil rfl | exact S_extract rfl rfl | exact I_toInt rfl (by simp only [InK]; omega) | exact W_toInt rfl | exact S_eqlb (BoolI.out) rfl rfl | exact S_neqb (BoolI.out) rfl rfl | exact S_eqls rfl rfl | exact S_eqlA rfl rfl rfl rfl rfl | exact S_neqA rfl rfl rfl rfl rfl | exact S_neqs rfl rfl | exact S_and rfl rfl | exact S_or rfl rfl | exact S_xor rfl rfl | exact S_andNot rfl rfl | exact S_shl rfl rfl (by omega) | exact S_shr rfl rfl (by omega) | exact S_nilCheck_ptr rfl | exact S_nilCheck_rp rfl | exact S_nilCheck_fn rfl | exact S_build rfl | exact S_lit rfl rfl rfl rfl | exact S_min rfl rfl | exact S_max rfl rfl | exact S_load_rptr rfl rfl rfl rfl | exact S_field_aggd rfl rfl | exact S_makeFunc rfl | exact S_eqNilT rfl | exact S_ix_slice rfl rfl (by decide) rfl rfl | exact S_ix_arr_ptr rfl rfl (by decide) (by decide) | exact S_index_aggd rfl rfl (by decide) (by decide) rfl))
    | refine dpickAnd rfl rfl rfl rfl rfl ?_ | refine dpickOr rfl rfl rfl rfl rfl ?_
    | (apply dt rfl; case h => first | exact S_alloc _ rfl | exact S_box _ rfl rfl)
    | (apply ds; case h => first | exact S_store rfl rfl rfl rfl rfl rfl)
    | (apply dm rfl; case h => first | exact M_d rfl)
    | fail)
    refine retN (.cellA inferInstance rfl rfl rfl rfl (by first | exact .inl rfl | exact .inr (flat_of rfl)) (.tmp rfl (.inr (.int _ _)) .nil)) ?_
    simp only [Frame.parse, hr]; rfl
  by_cases h12 : b.length < 12
  · have hr : Frame.read b = none := by unfold Frame.read; rw [if_pos (by omega)]
    repeat' (first
    | refine DW_loopU ?_
    | refine DWin_step ?_
    | refine DW_seq ?_
    | refine DW_region ?_
    | refine DW_draw ?_
    | refine dnilP ?_
    | refine dnilD (by kernel_rfl) ?_
    | refine then_normal ?_
    | refine then_exit ?_
    | refine then_ret ?_
    | refine DW_block ?_
    | refine blk_normal ?_
    | refine blk_ret ?_
    | refine blk_hit rfl ?_
    | refine blk_miss rfl ?_
    | refine loop_exit ?_
    | refine loop_ret ?_
    | refine DW_ret ?_
    | refine DW_exit ?_
    | refine DW_skip ?_
    | refine DW_cond_t rfl ?_
    | refine DW_cond_f rfl ?_
    | (apply dpC rfl; case h => first | exact S_callGD (frame_take_ok b 6 (by omega) (by omega)) rfl | exact S_callGD (frame_take_no (b.drop 6) 6 (by simp; omega) (by simp; omega) (by decide)) rfl | exact S_len_slice rfl | exact S_len_own rfl rfl | exact S_len_str rfl | exact S_len_nil rfl | exact S_min rfl rfl | exact S_max rfl rfl)
    | (apply dp rfl; case h => first | exact M_d rfl | exact M_p rfl | exact M_o rfl | exact M_n rfl | exact M_r rfl | exact M_a rfl | exact M_m rfl | exact A_d rfl | exact A_p rfl | exact A_o rfl | exact A_n rfl | exact A_r rfl | exact A_a rfl | exact A_m rfl | exact S_load_rp rfl rfl | exact S_load_ptr rfl rfl rfl | exact S_load_ptrs rfl rfl rfl | exact S_fieldAddr_rp rfl rfl | exact S_fieldAddr_ptr rfl rfl | exact S_fieldAddr_rptr rfl rfl rfl | exact S_field rfl rfl | exact S_lss rfl rfl | exact S_leq rfl rfl | exact S_gtr rfl rfl | exact S_geq rfl rfl | exact S_eql rfl rfl | exact S_neq rfl rfl | exact S_not rfl | exact S_pick_T rfl rfl | exact S_pick_F rfl rfl | exact S_pick_and rfl rfl rfl | exact S_pick_or rfl rfl rfl | exact I_add rfl rfl (by simp only [InK]; omega) | exact I_add rfl rfl (by simp only [InK]; simp at hg; omega) | exact S_add rfl rfl | exact I_sub rfl rfl (by simp only [InK]; omega) | exact I_sub rfl rfl (by simp only [InK]; simp at hg; omega) | exact S_sub rfl rfl | exact I_mul rfl rfl (by simp only [InK]; omega) | exact S_mul rfl rfl | exact S_quo rfl rfl (by decide) | exact S_rem rfl rfl (by decide) | exact S_extract rfl rfl | exact I_toInt rfl (by simp only [InK]; omega) | exact W_toInt rfl | exact S_eqlb (BoolI.out) rfl rfl | exact S_neqb (BoolI.out) rfl rfl | exact S_eqls rfl rfl | exact S_eqlA rfl rfl rfl rfl rfl | exact S_neqA rfl rfl rfl rfl rfl | exact S_neqs rfl rfl | exact S_and rfl rfl | exact S_or rfl rfl | exact S_xor rfl rfl | exact S_andNot rfl rfl | exact S_shl rfl rfl (by omega) | exact S_shr rfl rfl (by omega) | exact S_nilCheck_ptr rfl | exact S_nilCheck_rp rfl | exact S_nilCheck_fn rfl | exact S_build rfl | exact S_lit rfl rfl rfl rfl | exact S_load_rptr rfl rfl rfl rfl | exact S_field_aggd rfl rfl | exact S_makeFunc rfl | exact S_eqNilT rfl | exact S_ix_slice rfl rfl (by decide) rfl rfl | exact S_ix_arr_ptr rfl rfl (by decide) (by decide) | exact S_index_aggd rfl rfl (by decide) (by decide) rfl)
    | refine dpOff rfl rfl ?_
    | (apply dpOn rfl rfl; case h => first | exact S_callGD (frame_take_ok b 6 (by omega) (by omega)) rfl | exact S_callGD (frame_take_no (b.drop 6) 6 (by simp; omega) (by simp; omega) (by decide)) rfl | exact M_d rfl | exact M_p rfl | exact M_o rfl | exact M_n rfl | exact M_r rfl | exact M_a rfl | exact M_m rfl | exact A_d rfl | exact A_p rfl | exact A_o rfl | exact A_n rfl | exact A_r rfl | exact A_a rfl | exact A_m rfl | exact S_load_rp rfl rfl | exact S_load_ptr rfl rfl rfl | exact S_load_ptrs rfl rfl rfl | exact S_fieldAddr_rp rfl rfl | exact S_fieldAddr_ptr rfl rfl | exact S_fieldAddr_rptr rfl rfl rfl | exact S_field rfl rfl | exact S_lss rfl rfl | exact S_leq rfl rfl | exact S_gtr rfl rfl | exact S_geq rfl rfl | exact S_eql rfl rfl | exact S_neq rfl rfl | exact S_not rfl | exact S_pick_T rfl rfl | exact S_pick_F rfl rfl | exact S_pick_and rfl rfl rfl | exact S_pick_or rfl rfl rfl | exact I_add rfl rfl (by simp only [InK]; omega) | exact I_add rfl rfl (by simp only [InK]; simp at hg; omega) | exact S_add rfl rfl | exact I_sub rfl rfl (by simp only [InK]; omega) | exact I_sub rfl rfl (by simp only [InK]; simp at hg; omega) | exact S_sub rfl rfl | exact I_mul rfl rfl (by simp only [InK]; omega) | exact S_mul rfl rfl | exact S_quo rfl rfl (by decide) | exact S_rem rfl rfl (by decide) | exact S_len_slice rfl | exact S_len_own rfl rfl | exact S_len_str rfl | exact S_len_nil rfl | exact S_extract rfl rfl | exact I_toInt rfl (by simp only [InK]; omega) | exact W_toInt rfl | exact S_eqlb (BoolI.out) rfl rfl | exact S_neqb (BoolI.out) rfl rfl | exact S_eqls rfl rfl | exact S_eqlA rfl rfl rfl rfl rfl | exact S_neqA rfl rfl rfl rfl rfl | exact S_neqs rfl rfl | exact S_and rfl rfl | exact S_or rfl rfl | exact S_xor rfl rfl | exact S_andNot rfl rfl | exact S_shl rfl rfl (by omega) | exact S_shr rfl rfl (by omega) | exact S_nilCheck_ptr rfl | exact S_nilCheck_rp rfl | exact S_nilCheck_fn rfl | exact S_build rfl | exact S_lit rfl rfl rfl rfl | exact S_min rfl rfl | exact S_max rfl rfl | exact S_load_rptr rfl rfl rfl rfl | exact S_field_aggd rfl rfl | exact S_makeFunc rfl | exact S_eqNilT rfl | exact S_ix_slice rfl rfl (by decide) rfl rfl | exact S_ix_arr_ptr rfl rfl (by decide) (by decide) | exact S_index_aggd rfl rfl (by decide) (by decide) rfl)
    | (apply dpMay rfl rfl (by first | exact fun _ => trivial | exact fun h => ⟨h, trivial⟩ | exact fun h => ⟨h, h, trivial⟩ | exact fun h => ⟨h, h, h, trivial⟩ | exact fun h => ⟨h, h, h, h, trivial⟩); case h => (intro hg; first | exact S_callGD (frame_take_ok b 6 (by omega) (by omega)) rfl | exact S_callGD (frame_take_no (b.drop 6) 6 (by simp; omega) (by simp; omega) (by decide)) rfl | exact M_d rfl | exact M_p rfl | exact M_o rfl | exact M_n rfl | exact M_r rfl | exact M_a rfl | exact M_m rfl | exact A_d rfl | exact A_p rfl | exact A_o rfl | exact A_n rfl | exact A_r rfl | exact A_a rfl | exact A_m rfl | exact S_load_rp rfl rfl | exact S_load_ptr rfl rfl rfl | exact S_load_ptrs rfl rfl rfl | exact S_fieldAddr_rp rfl rfl | exact S_fieldAddr_ptr rfl rfl | exact S_fieldAddr_rptr rfl rfl rfl | exact S_field rfl rfl | exact S_lss rfl rfl | exact S_leq rfl rfl | exact S_gtr rfl rfl | exact S_geq rfl rfl | exact S_eql rfl rfl | exact S_neq rfl rfl | exact S_not rfl | exact S_pick_T rfl rfl | exact S_pick_F rfl rfl | exact S_pick_and rfl rfl rfl | exact S_pick_or rfl rfl rfl | exact I_add rfl rfl (by simp only [InK]; omega) | exact I_add rfl rfl (by simp only [InK]; simp at hg; omega) | exact S_add rfl rfl | exact I_sub rfl rfl (by simp only [InK]; omega) | exact I_sub rfl rfl (by simp only [InK]; simp at hg; omega) | exact S_sub rfl rfl | exact I_mul rfl rfl (by simp only [InK]; omega) | exact S_mul rfl rfl | exact S_quo rfl rfl (by decide) | exact S_rem rfl rfl (by decide) | exact S_len_slice rfl | exact S_len_own rfl rfl | exact S_len_str rfl | exact S_len_nil rfl | exact S_extract rfl rfl | exact I_toInt rfl (by simp only [InK]; omega) | exact W_toInt rfl | exact S_eqlb (BoolI.out) rfl rfl | exact S_neqb (BoolI.out) rfl rfl | exact S_eqls rfl rfl | exact S_eqlA rfl rfl rfl rfl rfl | exact S_neqA rfl rfl rfl rfl rfl | exact S_neqs rfl rfl | exact S_and rfl rfl | exact S_or rfl rfl | exact S_xor rfl rfl | exact S_andNot rfl rfl | exact S_shl rfl rfl (by omega) | exact S_shr rfl rfl (by omega) | exact S_nilCheck_ptr rfl | exact S_nilCheck_rp rfl | exact S_nilCheck_fn rfl | exact S_build rfl | exact S_lit rfl rfl rfl rfl | exact S_min rfl rfl | exact S_max rfl rfl | exact S_load_rptr rfl rfl rfl rfl | exact S_field_aggd rfl rfl | exact S_makeFunc rfl | exact S_eqNilT rfl | exact S_ix_slice rfl rfl (by decide) rfl rfl | exact S_ix_arr_ptr rfl rfl (by decide) (by decide) | exact S_index_aggd rfl rfl (by decide) (by decide) rfl))
    | refine dpickAnd rfl rfl rfl rfl rfl ?_ | refine dpickOr rfl rfl rfl rfl rfl ?_
    | (apply dt rfl; case h => first | exact S_alloc _ rfl | exact S_box _ rfl rfl)
    | (apply ds; case h => first | exact S_store rfl rfl rfl rfl rfl rfl)
    | (apply dm rfl; case h => first | exact M_d rfl)
    | fail)
    refine retN (.cellA inferInstance rfl rfl rfl rfl (by first | exact .inl rfl | exact .inr (flat_of rfl)) (.tmp rfl (.inr (.int _ _)) .nil)) ?_
    simp only [Frame.parse, hr]; rfl
  by_cases h14 : b.length < 14
  · have hr : Frame.read b = none := by unfold Frame.read; rw [if_pos (by omega)]
    repeat' (first
    | refine DW_loopU ?_
    | refine DWin_step ?_
    | refine DW_seq ?_
    | refine DW_region ?_
    | refine DW_draw ?_
    | refine dnilP ?_
    | refine dnilD (by kernel_rfl) ?_
    | refine then_normal ?_
    | refine then_exit ?_
    | refine then_ret ?_
    | refine DW_block ?_
    | refine blk_normal ?_
    | refine blk_ret ?_
    | refine blk_hit rfl ?_
    | refine blk_miss rfl ?_
    | refine loop_exit ?_
    | refine loop_ret ?_
    | refine DW_ret ?_
    | refine DW_exit ?_
    | refine DW_skip ?_
    | refine DW_cond_t rfl ?_
    | refine DW_cond_f rfl ?_
    | (apply dpC rfl; case h => first | exact S_callGD (frame_take_ok b 6 (by omega) (by omega)) rfl | exact S_callGD (frame_take_ok (b.drop 6) 6 (by simp; omega) (by simp; omega)) rfl | exact S_callGD (frame_take_no ((b.drop 6).drop 6) 2 (by simp; omega) (by simp; omega) (by decide)) rfl | exact S_len_slice rfl | exact S_len_own rfl rfl | exact S_len_str rfl | exact S_len_nil rfl | exact S_min rfl rfl | exact S_max rfl rfl)
    | (apply dp rfl; case h => first | exact M_d rfl | exact M_p rfl | exact M_o rfl | exact M_n rfl | exact M_r rfl | exact M_a rfl | exact M_m rfl | exact A_d rfl | exact A_p rfl | exact A_o rfl | exact A_n rfl | exact A_r rfl | exact A_a rfl | exact A_m rfl | exact S_load_rp rfl rfl | exact S_load_ptr rfl rfl rfl | exact S_load_ptrs rfl rfl rfl | exact S_fieldAddr_rp rfl rfl | exact S_fieldAddr_ptr rfl rfl | exact S_fieldAddr_rptr rfl rfl rfl | exact S_field rfl rfl | exact S_lss rfl rfl | exact S_leq rfl rfl | exact S_gtr rfl rfl | exact S_geq rfl rfl | exact S_eql rfl rfl | exact S_neq rfl rfl | exact S_not rfl | exact S_pick_T rfl rfl | exact S_pick_F rfl rfl | exact S_pick_and rfl rfl rfl | exact S_pick_or rfl rfl rfl | exact I_add rfl rfl (by simp only [InK]; omega) | exact I_add rfl rfl (by simp only [InK]; simp at hg; omega) | exact S_add rfl rfl | exact I_sub rfl rfl (by simp only [InK]; omega) | exact I_sub rfl rfl (by simp only [InK]; simp at hg; omega) | exact S_sub rfl rfl | exact I_mul rfl rfl (by simp only [InK]; omega) | exact S_mul rfl rfl | exact S_quo rfl rfl (by decide) | exact S_rem rfl rfl (by decide) | exact S_extract rfl rfl | exact I_toInt rfl (by simp only [InK]; omega) | exact W_toInt rfl | exact S_eqlb (BoolI.out) rfl rfl | exact S_neqb (BoolI.out) rfl rfl | exact S_eqls rfl rfl | exact S_eqlA rfl rfl rfl rfl rfl | exact S_neqA rfl rfl rfl rfl rfl | exact S_neqs rfl rfl | exact S_and rfl rfl | exact S_or rfl rfl | exact S_xor rfl rfl | exact S_andNot rfl rfl | exact S_shl rfl rfl (by omega) | exact S_shr rfl rfl (by omega) | exact S_nilCheck_ptr rfl | exact S_nilCheck_rp rfl | exact S_nilCheck_fn rfl | exact S_build rfl | exact S_lit rfl rfl rfl rfl | exact S_load_rptr rfl rfl rfl rfl | exact S_field_aggd rfl rfl | exact S_makeFunc rfl | exact S_eqNilT rfl | exact S_ix_slice rfl rfl (by decide) rfl rfl | exact S_ix_arr_ptr rfl rfl (by decide) (by decide) | exact S_index_aggd rfl rfl (by decide) (by decide) rfl)
    | refine dpOff rfl rfl ?_
    | (apply dpOn rfl rfl; case h => first | exact S_callGD (frame_take_ok b 6 (by omega) (by omega)) rfl | exact S_callGD (frame_take_ok (b.drop 6) 6 (by simp; omega) (by simp; omega)) rfl | exact S_callGD (frame_take_no ((b.drop 6).drop 6) 2 (by simp; omega) (by simp; omega) (by decide)) rfl | exact M_d rfl | exact M_p rfl | exact M_o rfl | exact M_n rfl | exact M_r rfl | exact M_a rfl | exact M_m rfl | exact A_d rfl | exact A_p rfl | exact A_o rfl | exact A_n rfl | exact A_r rfl | exact A_a rfl | exact A_m rfl | exact S_load_rp rfl rfl | exact S_load_ptr rfl rfl rfl | exact S_load_ptrs rfl rfl rfl | exact S_fieldAddr_rp rfl rfl | exact S_fieldAddr_ptr rfl rfl | exact S_fieldAddr_rptr rfl rfl rfl | exact S_field rfl rfl | exact S_lss rfl rfl | exact S_leq rfl rfl | exact S_gtr rfl rfl | exact S_geq rfl rfl | exact S_eql rfl rfl | exact S_neq rfl rfl | exact S_not rfl | exact S_pick_T rfl rfl | exact S_pick_F rfl rfl | exact S_pick_and rfl rfl rfl | exact S_pick_or rfl rfl rfl | exact I_add rfl rfl (by simp only [InK]; omega) | exact I_add rfl rfl (by simp only [InK]; simp at hg; omega) | exact S_add rfl rfl | exact I_sub rfl rfl (by simp only [InK]; omega) | exact I_sub rfl rfl (by simp only [InK]; simp at hg; omega) | exact S_sub rfl rfl | exact I_mul rfl rfl (by simp only [InK]; omega) | exact S_mul rfl rfl | exact S_quo rfl rfl (by decide) | exact S_rem rfl rfl (by decide) | exact S_len_slice rfl | exact S_len_own rfl rfl | exact S_len_str rfl | exact S_len_nil rfl | exact S_extract rfl rfl | exact I_toInt rfl (by simp only [InK]; omega) | exact W_toInt rfl | exact S_eqlb (BoolI.out) rfl rfl | exact S_neqb (BoolI.out) rfl rfl | exact S_eqls rfl rfl | exact S_eqlA rfl rfl rfl rfl rfl | exact S_neqA rfl rfl rfl rfl rfl | exact S_neqs rfl rfl | exact S_and rfl rfl | exact S_or rfl rfl | exact S_xor rfl rfl | exact S_andNot rfl rfl | exact S_shl rfl rfl (by omega) | exact S_shr rfl rfl (by omega) | exact S_nilCheck_ptr rfl | exact S_nilCheck_rp rfl | exact S_nilCheck_fn rfl | exact S_build rfl | exact S_lit rfl rfl rfl rfl | exact S_min rfl rfl | exact S_max rfl rfl | exact S_load_rptr rfl rfl rfl rfl | exact S_field_aggd rfl rfl | exact S_makeFunc rfl | exact S_eqNilT rfl | exact S_ix_slice rfl rfl (by decide) rfl rfl | exact S_ix_arr_ptr rfl rfl (by decide) (by decide) | exact S_index_aggd rfl rfl (by decide) (by decide) rfl)
    | (apply dpMay rfl rfl (by first | exact fun _ => trivial | exact fun h => ⟨h, trivial⟩ | exact fun h => ⟨h, h, trivial⟩ | exact fun h => ⟨h, h, h, trivial⟩ | exact fun h => ⟨h, h, h, h, trivial⟩); case h => (intro hg; first | exact S_callGD (frame_take_ok b 6 (by omega) (by omega)) rfl | exact S_callGD (frame_take_ok (b.drop 6) 6 (by simp; omega) (by simp; omega)) rfl | exact S_callGD (frame_take_no ((b.drop 6).drop 6) 2 (by simp; omega) (by simp; omega) (by decide)) rfl | exact M_d rfl | exact M_p rfl | exact M_o rfl | exact M_n rfl | exact M_r rfl | exact M_a rfl | exact M_m rfl | exact A_d rfl | exact A_p rfl | exact A_o rfl | exact A_n rfl | exact A_r rfl | exact A_a rfl | exact A_m rfl | exact S_load_rp rfl rfl | exact S_load_ptr rfl rfl rfl | exact S_load_ptrs rfl rfl rfl | exact S_fieldAddr_rp rfl rfl | exact S_fieldAddr_ptr rfl rfl | exact S_fieldAddr_rptr rfl rfl rfl | exact S_field rfl rfl | exact S_lss rfl rfl | exact S_leq rfl rfl | exact S_gtr rfl rfl | exact S_geq rfl rfl | exact S_eql rfl rfl | exact S_neq rfl rfl | exact S_not rfl | exact S_pick_T rfl rfl | exact S_pick_F rfl rfl | exact S_pick_and rfl rfl rfl | exact S_pick_or rfl rfl rfl | exact I_add rfl rfl (by simp only [InK]; omega) | exact I_add rfl rfl (by simp only [InK]; simp at hg; omega) | exact S_add rfl rfl | exact I_sub rfl rfl (by simp only [InK]; omega) | exact I_sub rfl rfl (by simp only [InK]; simp at hg; omega) | exact S_sub rfl rfl | exact I_mul rfl rfl (by simp only [InK]; omega) | exact S_mul rfl rfl | exact S_quo rfl rfl (by decide) | exact S_rem rfl rfl (by decide) | exact S_len_slice rfl | exact S_len_own rfl rfl | exact S_len_str rfl | exact S_len_nil rfl | exact S_extract rfl rfl | exact I_toInt rfl (by simp only [InK]; omega) | exact W_toInt rfl | exact S_eqlb (BoolI.out) rfl rfl | exact S_neqb (BoolI.out) rfl rfl | exact S_eqls rfl rfl | exact S_eqlA rfl rfl rfl rfl rfl | exact S_neqA rfl rfl rfl rfl rfl | exact S_neqs rfl rfl | exact S_and rfl rfl | exact S_or rfl rfl | exact S_xor rfl rfl | exact S_andNot rfl rfl | exact S_shl rfl rfl (by omega) | exact S_shr rfl rfl (by omega) | exact S_nilCheck_ptr rfl | exact S_nilCheck_rp rfl | exact S_nilCheck_fn rfl | exact S_build rfl | exact S_lit rfl rfl rfl rfl | exact S_min rfl rfl | exact S_max rfl rfl | exact S_load_rptr rfl rfl rfl rfl | exact S_field_aggd rfl rfl | exact S_makeFunc rfl | exact S_eqNilT rfl | exact S_ix_slice rfl rfl (by decide) rfl rfl | exact S_ix_arr_ptr rfl rfl (by decide) (by decide) | exact S_index_aggd rfl rfl (by decide) (by decide) rfl))
    | refine dpickAnd rfl rfl rfl rfl rfl ?_ | refine dpickOr rfl rfl rfl rfl rfl ?_
    | (apply dt rfl; case h => first | exact S_alloc _ rfl | exact S_box _ rfl rfl)
    | (apply ds; case h => first | exact S_store rfl rfl rfl rfl rfl rfl)
    | (apply dm rfl; case h => first | exact M_d rfl)
    | fail)
    refine retN (.cellA inferInstance rfl rfl rfl rfl (by first | exact .inl rfl | exact .inr (flat_of rfl)) (.tmp rfl (.inr (.int _ _)) .nil)) ?_
    simp only [Frame.parse, hr]; rfl
  have hn0 := beNum_range (((b.drop 6).drop 6).take 2)
  have hn1 := (beNum_small (((b.drop 6).drop 6).take 2)).1 (by simp; omega)
  by_cases ht : beNum (((b.drop 6).drop 6).take 2) = 33024
  · by_cases h18 : b.length < 18
    · have hr : Frame.read b = none := by
        unfold Frame.read
        rw [if_neg (by omega), if_pos (by simpa [List.drop_drop] using ht), if_pos h18]
      repeat' (first
    | refine DW_loopU ?_
    | refine DWin_step ?_
    | (apply DW_true rfl; case hb => exact decide_eq_true ht)
    | refine DW_seq ?_
    | refine DW_region ?_
    | refine DW_draw ?_
    | refine dnilP ?_
    | refine dnilD (by kernel_rfl) ?_
    | refine then_normal ?_
    | refine then_exit ?_
    | refine then_ret ?_
    | refine DW_block ?_
    | refine blk_normal ?_
    | refine blk_ret ?_
    | refine blk_hit rfl ?_
    | refine blk_miss rfl ?_
    | refine loop_exit ?_
    | refine loop_ret ?_
    | refine DW_ret ?_
    | refine DW_exit ?_
    | refine DW_skip ?_
    | refine DW_cond_t rfl ?_
    | refine DW_cond_f rfl ?_
    | (apply dpC rfl; case h => first | exact S_callGD (frame_take_ok b 6 (by omega) (by omega)) rfl | exact S_callGD (frame_take_ok (b.drop 6) 6 (by simp; omega) (by simp; omega)) rfl | exact S_callGD (frame_take_ok ((b.drop 6).drop 6) 2 (by simp; omega) (by simp; omega)) rfl | exact S_callGD (frame_take_no (((b.drop 6).drop 6).drop 2) 4 (by simp; omega) (by simp; omega) (by decide)) rfl | exact S_len_slice rfl | exact S_len_own rfl rfl | exact S_len_str rfl | exact S_len_nil rfl | exact S_min rfl rfl | exact S_max rfl rfl)
    | (apply dp rfl; case h => first | exact M_d rfl | exact M_p rfl | exact M_o rfl | exact M_n rfl | exact M_r rfl | exact M_a rfl | exact M_m rfl | exact A_d rfl | exact A_p rfl | exact A_o rfl | exact A_n rfl | exact A_r rfl | exact A_a rfl | exact A_m rfl | exact S_load_rp rfl rfl | exact S_load_ptr rfl rfl rfl | exact S_load_ptrs rfl rfl rfl | exact S_fieldAddr_rp rfl rfl | exact S_fieldAddr_ptr rfl rfl | exact S_fieldAddr_rptr rfl rfl rfl | exact S_field rfl rfl | exact S_lss rfl rfl | exact S_leq rfl rfl | exact S_gtr rfl rfl | exact S_geq rfl rfl | exact S_eql rfl rfl | exact S_neq rfl rfl | exact S_not rfl | exact S_pick_T rfl rfl | exact S_pick_F rfl rfl | exact S_pick_and rfl rfl rfl | exact S_pick_or rfl rfl rfl | exact I_add rfl rfl (by simp only [InK]; omega) | exact I_add rfl rfl (by simp only [InK]; simp at hg; omega) | exact S_add rfl rfl | exact I_sub rfl rfl (by simp only [InK]; omega) | exact I_sub rfl rfl (by simp only [InK]; simp at hg; omega) | exact S_sub rfl rfl | exact I_mul rfl rfl (by simp only [InK]; omega) | exact S_mul rfl rfl | exact S_quo rfl rfl (by decide) | exact S_rem rfl rfl (by decide) | exact S_extract rfl rfl | exact I_toInt rfl (by simp only [InK]; omega) | exact W_toInt rfl | exact S_eqlb (BoolI.out) rfl rfl | exact S_neqb (BoolI.out) rfl rfl | exact S_eqls rfl rfl | exact S_eqlA rfl rfl rfl rfl rfl | exact S_neqA rfl rfl rfl rfl rfl | exact S_neqs rfl rfl | exact S_and rfl rfl | exact S_or rfl rfl | exact S_xor rfl rfl | exact S_andNot rfl rfl | exact S_shl rfl rfl (by omega) | exact S_shr rfl rfl (by omega) | exact S_nilCheck_ptr rfl | exact S_nilCheck_rp rfl | exact S_nilCheck_fn rfl | exact S_build rfl | exact S_lit rfl rfl rfl rfl | exact S_load_rptr rfl rfl rfl rfl | exact S_field_aggd rfl rfl | exact S_makeFunc rfl | exact S_eqNilT rfl | exact S_ix_slice rfl rfl (by decide) rfl rfl | exact S_ix_arr_ptr rfl rfl (by decide) (by decide) | exact S_index_aggd rfl rfl (by decide) (by decide) rfl)
    | refine dpOff rfl rfl ?_
    | (apply dpOn rfl rfl; case h => first | exact S_callGD (frame_take_ok b 6 (by omega) (by omega)) rfl | exact S_callGD (frame_take_ok (b.drop 6) 6 (by simp; omega) (by simp; omega)) rfl | exact S_callGD (frame_take_ok ((b.drop 6).drop 6) 2 (by simp; omega) (by simp; omega)) rfl | exact S_callGD (frame_take_no (((b.drop 6).drop 6).drop 2) 4 (by simp; omega) (by simp; omega) (by decide)) rfl | exact M_d rfl | exact M_p rfl | exact M_o rfl | exact M_n rfl | exact M_r rfl | exact M_a rfl | exact M_m rfl | exact A_d rfl | exact A_p rfl | exact A_o rfl | exact A_n rfl | exact A_r rfl | exact A_a rfl | exact A_m rfl | exact S_load_rp rfl rfl | exact S_load_ptr rfl rfl rfl | exact S_load_ptrs rfl rfl rfl | exact S_fieldAddr_rp rfl rfl | exact S_fieldAddr_ptr rfl rfl | exact S_fieldAddr_rptr rfl rfl rfl | exact S_field rfl rfl | exact S_lss rfl rfl | exact S_leq rfl rfl | exact S_gtr rfl rfl | exact S_geq rfl rfl | exact S_eql rfl rfl | exact S_neq rfl rfl | exact S_not rfl | exact S_pick_T rfl rfl | exact S_pick_F rfl rfl | exact S_pick_and rfl rfl rfl | exact S_pick_or rfl rfl rfl | exact I_add rfl rfl (by simp only [InK]; omega) | exact I_add rfl rfl (by simp only [InK]; simp at hg; omega) | exact S_add rfl rfl | exact I_sub rfl rfl (by simp only [InK]; omega) | exact I_sub rfl rfl (by simp only [InK]; simp at hg; omega) | exact S_sub rfl rfl | exact I_mul rfl rfl (by simp only [InK]; omega) | exact S_mul rfl rfl | exact S_quo rfl rfl (by decide) | exact S_rem rfl rfl (by decide) | exact S_len_slice rfl | exact S_len_own rfl rfl | exact S_len_str rfl | exact S_len_nil rfl | exact S_extract rfl rfl | exact I_toInt rfl (by simp only [InK]; omega) | exact W_toInt rfl | exact S_eqlb (BoolI.out) rfl rfl | exact S_neqb (BoolI.out) rfl rfl | exact S_eqls rfl rfl | exact S_eqlA rfl rfl rfl rfl rfl | exact S_neqA rfl rfl rfl rfl rfl | exact S_neqs rfl rfl | exact S_and rfl rfl | exact S_or rfl rfl | exact S_xor rfl rfl | exact S_andNot rfl rfl | exact S_shl rfl rfl (by omega) | exact S_shr rfl rfl (by omega) | exact S_nilCheck_ptr rfl | exact S_nilCheck_rp rfl | exact S_nilCheck_fn rfl | exact S_build rfl | exact S_lit rfl rfl rfl rfl | exact S_min rfl rfl | exact S_max rfl rfl | exact S_load_rptr rfl rfl rfl rfl | exact S_field_aggd rfl rfl | exact S_makeFunc rfl | exact S_eqNilT rfl | exact S_ix_slice rfl rfl (by decide) rfl rfl | exact S_ix_arr_ptr rfl rfl (by decide) (by decide) | exact S_index_aggd rfl rfl (by decide) (by decide) rfl)
    | (apply dpMay rfl rfl (by first | exact fun _ => trivial | exact fun h => ⟨h, trivial⟩ | exact fun h => ⟨h, h, trivial⟩ | exact fun h => ⟨h, h, h, trivial⟩ | exact fun h => ⟨h, h, h, h, trivial⟩); case h => (intro hg; first | exact S_callGD (frame_take_ok b 6 (by omega) (by omega)) rfl | exact S_callGD (frame_take_ok (b.drop 6) 6 (by simp; omega) (by simp; omega)) rfl | exact S_callGD (frame_take_ok ((b.drop 6).drop 6) 2 (by simp; omega) (by simp; omega)) rfl | exact S_callGD (frame_take_no (((b.drop 6).drop 6).drop 2) 4 (by simp; omega) (by simp; omega) (by decide)) rfl | exact M_d rfl | exact M_p rfl | exact M_o rfl | exact M_n rfl | exact M_r rfl | exact M_a rfl | exact M_m rfl | exact A_d rfl | exact A_p rfl | exact A_o rfl | exact A_n rfl | exact A_r rfl | exact A_a rfl | exact A_m rfl | exact S_load_rp rfl rfl | exact S_load_ptr rfl rfl rfl | exact S_load_ptrs rfl rfl rfl | exact S_fieldAddr_rp rfl rfl | exact S_fieldAddr_ptr rfl rfl | exact S_fieldAddr_rptr rfl rfl rfl | exact S_field rfl rfl | exact S_lss rfl rfl | exact S_leq rfl rfl | exact S_gtr rfl rfl | exact S_geq rfl rfl | exact S_eql rfl rfl | exact S_neq rfl rfl | exact S_not rfl | exact S_pick_T rfl rfl | exact S_pick_F rfl rfl | exact S_pick_and rfl rfl rfl | exact S_pick_or rfl rfl rfl | exact I_add rfl rfl (by simp only [InK]; omega) | exact I_add rfl rfl (by simp only [InK]; simp at hg; omega) | exact S_add rfl rfl | exact I_sub rfl rfl (by simp only [InK]; omega) | exact I_sub rfl rfl (by simp only [InK]; simp at hg; omega) | exact S_sub rfl rfl | exact I_mul rfl rfl (by simp only [InK]; omega) | exact S_mul rfl rfl | exact S_quo rfl rfl (by decide) | exact S_rem rfl rfl (by decide) | exact S_len_slice rfl | exact S_len_own rfl rfl | exact S_len_str rfl | exact S_len_nil rfl | exact S_extract rfl rfl | exact I_toInt rfl (by simp only [InK]; omega) | exact W_toInt rfl | exact S_eqlb (BoolI.out) rfl rfl | exact S_neqb (BoolI.out) rfl rfl | exact S_eqls rfl rfl | exact S_eqlA rfl rfl rfl rfl rfl | exact S_neqA rfl rfl rfl rfl rfl | exact S_neqs rfl rfl | exact S_and rfl rfl | exact S_or rfl rfl | exact S_xor rfl rfl | exact S_andNot rfl rfl | exact S_shl rfl rfl (by omega) | exact S_shr rfl rfl (by omega) | exact S_nilCheck_ptr rfl | exact S_nilCheck_rp rfl | exact S_nilCheck_fn rfl | exact S_build rfl | exact S_lit rfl rfl rfl rfl | exact S_min rfl rfl | exact S_max rfl rfl | exact S_load_rptr rfl rfl rfl rfl | exact S_field_aggd rfl rfl | exact S_makeFunc rfl | exact S_eqNilT rfl | exact S_ix_slice rfl rfl (by decide) rfl rfl | exact S_ix_arr_ptr rfl rfl (by decide) (by decide) | exact S_index_aggd rfl rfl (by decide) (by decide) rfl))
    | refine dpickAnd rfl rfl rfl rfl rfl ?_ | refine dpickOr rfl rfl rfl rfl rfl ?_
    | (apply dt rfl; case h => first | exact S_alloc _ rfl | exact S_box _ rfl rfl)
    | (apply ds; case h => first | exact S_store rfl rfl rfl rfl rfl rfl)
    | (apply dm rfl; case h => first | exact M_d rfl)
    | fail)
      refine retN (.cellA inferInstance rfl rfl rfl rfl (by first | exact .inl rfl | exact .inr (flat_of rfl)) (.tmp rfl (.inr (.int _ _)) .nil)) ?_
      simp only [Frame.parse, hr]; rfl
    · have hm0 := beNum_range ((((b.drop 6).drop 6).drop 2).take 4)
      have hm1 := (beNum_small ((((b.drop 6).drop 6).drop 2).take 4)).2 (by simp; omega)
      have hr : Frame.read b = some ⟨beNum (b.take 6), beNum ((b.drop 6).take 6), true, beNum ((((b.drop 6).drop 6).drop 2).take 4) / 65536 / 8192, decide (beNum ((((b.drop 6).drop 6).drop 2).take 4) / 65536 / 4096 % 2 = 1), beNum ((((b.drop 6).drop 6).drop 2).take 4) / 65536 % 4096, beNum ((((b.drop 6).drop 6).drop 2).take 4) % 65536, ((((b.drop 6).drop 6).drop 2).drop 4)⟩ := by
        unfold Frame.read
        rw [if_neg (by omega), if_pos (by simpa [List.drop_drop] using ht), if_neg h18]
        simp only [List.drop_drop]
      have hok := Frame.read_ok hb hr
      have t4 := frame_take_ok (((b.drop 6).drop 6).drop 2) 4 (by simp; omega) (by simp; omega)
      have hrl : ((((b.drop 6).drop 6).drop 2).drop 4).length ≤ 1048576 := by simp; omega
      generalize beNum ((((b.drop 6).drop 6).drop 2).take 4) = n at hm0 hm1 hr hok t4
      generalize (((b.drop 6).drop 6).drop 2).drop 4 = rest at hr hok t4 hrl
      have hok0 := Frame.ok.nil hok
      repeat' (first
    | (apply DW_true rfl; case hb => exact decide_eq_true ht)
    | refine DW_loopU ?_
    | refine DWin_step ?_
    | refine DW_seq ?_
    | refine DW_region ?_
    | refine DW_draw ?_
    | refine dnilP ?_
    | refine dnilD (by kernel_rfl) ?_
    | refine then_normal ?_
    | refine then_exit ?_
    | refine then_ret ?_
    | refine DW_block ?_
    | refine blk_normal ?_
    | refine blk_ret ?_
    | refine blk_hit rfl ?_
    | refine blk_miss rfl ?_
    | refine loop_exit ?_
    | refine loop_ret ?_
    | refine DW_ret ?_
    | refine DW_exit ?_
    | refine DW_skip ?_
    | refine DW_cond_t rfl ?_
    | refine DW_cond_f rfl ?_
    | refine DW_cond rfl (fun hb => ?_) (fun hb => ?_)
    | (apply dpC rfl; case h => first | exact S_callGD t4 rfl | exact S_callGD (frame_take_ok b 6 (by omega) (by omega)) rfl | exact S_callGD (frame_take_ok (b.drop 6) 6 (by simp; omega) (by simp; omega)) rfl | exact S_callGD (frame_take_ok ((b.drop 6).drop 6) 2 (by simp; omega) (by simp; omega)) rfl | exact S_appND (f := byteV) (bs := rest) (nf := true) rfl (.dat _ _) rfl (.inr inferInstance) rfl (by omega) | exact S_call (frame_Wrong _ hok) rfl | exact S_call (frame_Wrong _ hok0) rfl | exact S_len_slice rfl | exact S_len_own rfl rfl | exact S_len_str rfl | exact S_len_nil rfl | exact S_min rfl rfl | exact S_max rfl rfl)
    | (apply dp rfl; case h => first | exact as_int (S_shr rfl rfl (by decide)) shr_c.1 | exact as_int (S_shr rfl rfl (by decide)) shr_c.2.1 | exact as_int (S_shr rfl rfl (by decide)) shr_c.2.2 | exact as_int (S_and rfl rfl) (and_one (by omega) (by omega)) | exact as_int (S_and rfl rfl) (and_mask (by omega) (by omega)).1 | exact as_int (S_and rfl rfl) (and_mask (by omega) (by omega)).2 | exact M_d rfl | exact M_p rfl | exact M_o rfl | exact M_n rfl | exact M_r rfl | exact M_a rfl | exact M_m rfl | exact A_d rfl | exact A_p rfl | exact A_o rfl | exact A_n rfl | exact A_r rfl | exact A_a rfl | exact A_m rfl | exact S_load_rp rfl rfl | exact S_load_ptr rfl rfl rfl | exact S_load_ptrs rfl rfl rfl | exact S_fieldAddr_rp rfl rfl | exact S_fieldAddr_ptr rfl rfl | exact S_fieldAddr_rptr rfl rfl rfl | exact S_field rfl rfl | exact S_lss rfl rfl | exact S_leq rfl rfl | exact S_gtr rfl rfl | exact S_geq rfl rfl | exact S_eql rfl rfl | exact S_neq rfl rfl | exact S_not rfl | exact S_pick_T rfl rfl | exact S_pick_F rfl rfl | exact S_pick_and rfl rfl rfl | exact S_pick_or rfl rfl rfl | exact I_add rfl rfl (by simp only [InK]; omega) | exact I_add rfl rfl (by simp only [InK]; simp at hg; omega) | exact S_add rfl rfl | exact I_sub rfl rfl (by simp only [InK]; omega) | exact I_sub rfl rfl (by simp only [InK]; simp at hg; omega) | exact S_sub rfl rfl | exact I_mul rfl rfl (by simp only [InK]; omega) | exact S_mul rfl rfl | exact S_quo rfl rfl (by decide) | exact S_rem rfl rfl (by decide) | exact S_extract rfl rfl | exact I_toInt rfl (by simp only [InK]; omega) | exact W_toInt rfl | exact S_eqlb (BoolI.out) rfl rfl | exact S_neqb (BoolI.out) rfl rfl | exact S_eqls rfl rfl | exact S_eqlA rfl rfl rfl rfl rfl | exact S_neqA rfl rfl rfl rfl rfl | exact S_neqs rfl rfl | exact S_and rfl rfl | exact S_or rfl rfl | exact S_xor rfl rfl | exact S_andNot rfl rfl | exact S_shl rfl rfl (by omega) | exact S_shr rfl rfl (by omega) | exact S_nilCheck_ptr rfl | exact S_nilCheck_rp rfl | exact S_nilCheck_fn rfl | exact S_build rfl | exact S_lit rfl rfl rfl rfl | exact S_load_rptr rfl rfl rfl rfl | exact S_field_aggd rfl rfl | exact S_makeFunc rfl | exact S_eqNilT rfl | exact S_ix_slice rfl rfl (by decide) rfl rfl | exact S_ix_arr_ptr rfl rfl (by decide) (by decide) | exact S_index_aggd rfl rfl (by decide) (by decide) rfl)
    | refine dpOff rfl rfl ?_
    | (apply dpOn rfl rfl; case h => first | exact as_int (S_shr rfl rfl (by decide)) shr_c.1 | exact as_int (S_shr rfl rfl (by decide)) shr_c.2.1 | exact as_int (S_shr rfl rfl (by decide)) shr_c.2.2 | exact as_int (S_and rfl rfl) (and_one (by omega) (by omega)) | exact as_int (S_and rfl rfl) (and_mask (by omega) (by omega)).1 | exact as_int (S_and rfl rfl) (and_mask (by omega) (by omega)).2 | exact S_callGD t4 rfl | exact S_callGD (frame_take_ok b 6 (by omega) (by omega)) rfl | exact S_callGD (frame_take_ok (b.drop 6) 6 (by simp; omega) (by simp; omega)) rfl | exact S_callGD (frame_take_ok ((b.drop 6).drop 6) 2 (by simp; omega) (by simp; omega)) rfl | exact S_appND (f := byteV) (bs := rest) (nf := true) rfl (.dat _ _) rfl (.inr inferInstance) rfl (by omega) | exact S_call (frame_Wrong _ hok) rfl | exact S_call (frame_Wrong _ hok0) rfl | exact M_d rfl | exact M_p rfl | exact M_o rfl | exact M_n rfl | exact M_r rfl | exact M_a rfl | exact M_m rfl | exact A_d rfl | exact A_p rfl | exact A_o rfl | exact A_n rfl | exact A_r rfl | exact A_a rfl | exact A_m rfl | exact S_load_rp rfl rfl | exact S_load_ptr rfl rfl rfl | exact S_load_ptrs rfl rfl rfl | exact S_fieldAddr_rp rfl rfl | exact S_fieldAddr_ptr rfl rfl | exact S_fieldAddr_rptr rfl rfl rfl | exact S_field rfl rfl | exact S_lss rfl rfl | exact S_leq rfl rfl | exact S_gtr rfl rfl | exact S_geq rfl rfl | exact S_eql rfl rfl | exact S_neq rfl rfl | exact S_not rfl | exact S_pick_T rfl rfl | exact S_pick_F rfl rfl | exact S_pick_and rfl rfl rfl | exact S_pick_or rfl rfl rfl | exact I_add rfl rfl (by simp only [InK]; omega) | exact I_add rfl rfl (by simp only [InK]; simp at hg; omega) | exact S_add rfl rfl | exact I_sub rfl rfl (by simp only [InK]; omega) | exact I_sub rfl rfl (by simp only [InK]; simp at hg; omega) | exact S_sub rfl rfl | exact I_mul rfl rfl (by simp only [InK]; omega) | exact S_mul rfl rfl | exact S_quo rfl rfl (by decide) | exact S_rem rfl rfl (by decide) | exact S_len_slice rfl | exact S_len_own rfl rfl | exact S_len_str rfl | exact S_len_nil rfl | exact S_extract rfl rfl | exact I_toInt rfl (by simp only [InK]; omega) | exact W_toInt rfl | exact S_eqlb (BoolI.out) rfl rfl | exact S_neqb (BoolI.out) rfl rfl | exact S_eqls rfl rfl | exact S_eqlA rfl rfl rfl rfl rfl | exact S_neqA rfl rfl rfl rfl rfl | exact S_neqs rfl rfl | exact S_and rfl rfl | exact S_or rfl rfl | exact S_xor rfl rfl | exact S_andNot rfl rfl | exact S_shl rfl rfl (by omega) | exact S_shr rfl rfl (by omega) | exact S_nilCheck_ptr rfl | exact S_nilCheck_rp rfl | exact S_nilCheck_fn rfl | exact S_build rfl | exact S_lit rfl rfl rfl rfl | exact S_min rfl rfl | exact S_max rfl rfl | exact S_load_rptr rfl rfl rfl rfl | exact S_field_aggd rfl rfl | exact S_makeFunc rfl | exact S_eqNilT rfl | exact S_ix_slice rfl rfl (by decide) rfl rfl | exact S_ix_arr_ptr rfl rfl (by decide) (by decide) | exact S_index_aggd rfl rfl (by decide) (by decide) rfl)
    | (apply dpMay rfl rfl (by first | exact fun _ => trivial | exact fun h => ⟨h, trivial⟩ | exact fun h => ⟨h, h, trivial⟩ | exact fun h => ⟨h, h, h, trivial⟩ | exact fun h => ⟨h, h, h, h, trivial⟩); case h => (intro hg; first | exact as_int (S_shr rfl rfl (by decide)) shr_c.1 | exact as_int (S_shr rfl rfl (by decide)) shr_c.2.1 | exact as_int (S_shr rfl rfl (by decide)) shr_c.2.2 | exact as_int (S_and rfl rfl) (and_one (by omega) (by omega)) | exact as_int (S_and rfl rfl) (and_mask (by omega) (by omega)).1 | exact as_int (S_and rfl rfl) (and_mask (by omega) (by omega)).2 | exact S_callGD t4 rfl | exact S_callGD (frame_take_ok b 6 (by omega) (by omega)) rfl | exact S_callGD (frame_take_ok (b.drop 6) 6 (by simp; omega) (by simp; omega)) rfl | exact S_callGD (frame_take_ok ((b.drop 6).drop 6) 2 (by simp; omega) (by simp; omega)) rfl | exact S_appND (f := byteV) (bs := rest) (nf := true) rfl (.dat _ _) rfl (.inr inferInstance) rfl (by omega) | exact S_call (frame_Wrong _ hok) rfl | exact S_call (frame_Wrong _ hok0) rfl | exact M_d rfl | exact M_p rfl | exact M_o rfl | exact M_n rfl | exact M_r rfl | exact M_a rfl | exact M_m rfl | exact A_d rfl | exact A_p rfl | exact A_o rfl | exact A_n rfl | exact A_r rfl | exact A_a rfl | exact A_m rfl | exact S_load_rp rfl rfl | exact S_load_ptr rfl rfl rfl | exact S_load_ptrs rfl rfl rfl | exact S_fieldAddr_rp rfl rfl | exact S_fieldAddr_ptr rfl rfl | exact S_fieldAddr_rptr rfl rfl rfl | exact S_field rfl rfl | exact S_lss rfl rfl | exact S_leq rfl rfl | exact S_gtr rfl rfl | exact S_geq rfl rfl | exact S_eql rfl rfl | exact S_neq rfl rfl | exact S_not rfl | exact S_pick_T rfl rfl | exact S_pick_F rfl rfl | exact S_pick_and rfl rfl rfl | exact S_pick_or rfl rfl rfl | exact I_add rfl rfl (by simp only [InK]; omega) | exact I_add rfl rfl (by simp only [InK]; simp at hg; omega) | exact S_add rfl rfl | exact I_sub rfl rfl (by simp only [InK]; omega) | exact I_sub rfl rfl (by simp only [InK]; simp at hg; omega) | exact S_sub rfl rfl | exact I_mul rfl rfl (by simp only [InK]; omega) | exact S_mul rfl rfl | exact S_quo rfl rfl (by decide) | exact S_rem rfl rfl (by decide) | exact S_len_slice rfl | exact S_len_own rfl rfl | exact S_len_str rfl | exact S_len_nil rfl | exact S_extract rfl rfl | exact I_toInt rfl (by simp only [InK]; omega) | exact W_toInt rfl | exact S_eqlb (BoolI.out) rfl rfl | exact S_neqb (BoolI.out) rfl rfl | exact S_eqls rfl rfl | exact S_eqlA rfl rfl rfl rfl rfl | exact S_neqA rfl rfl rfl rfl rfl | exact S_neqs rfl rfl | exact S_and rfl rfl | exact S_or rfl rfl | exact S_xor rfl rfl | exact S_andNot rfl rfl | exact S_shl rfl rfl (by omega) | exact S_shr rfl rfl (by omega) | exact S_nilCheck_ptr rfl | exact S_nilCheck_rp rfl | exact S_nilCheck_fn rfl | exact S_build rfl | exact S_lit rfl rfl rfl rfl | exact S_min rfl rfl | exact S_max rfl rfl | exact S_load_rptr rfl rfl rfl rfl | exact S_field_aggd rfl rfl | exact S_makeFunc rfl | exact S_eqNilT rfl | exact S_ix_slice rfl rfl (by decide) rfl rfl | exact S_ix_arr_ptr rfl rfl (by decide) (by decide) | exact S_index_aggd rfl rfl (by decide) (by decide) rfl))
    | refine dpickAnd rfl rfl rfl rfl rfl ?_ | refine dpickOr rfl rfl rfl rfl rfl ?_
    | (apply dt rfl; case h => first | exact as_int (S_shr rfl rfl (by decide)) shr_c.1 | exact as_int (S_shr rfl rfl (by decide)) shr_c.2.1 | exact as_int (S_shr rfl rfl (by decide)) shr_c.2.2 | exact as_int (S_and rfl rfl) (and_one (by omega) (by omega)) | exact as_int (S_and rfl rfl) (and_mask (by omega) (by omega)).1 | exact as_int (S_and rfl rfl) (and_mask (by omega) (by omega)).2 | exact S_alloc _ rfl | exact S_box _ rfl rfl)
    | (apply ds; case h => first | exact as_int (S_shr rfl rfl (by decide)) shr_c.1 | exact as_int (S_shr rfl rfl (by decide)) shr_c.2.1 | exact as_int (S_shr rfl rfl (by decide)) shr_c.2.2 | exact as_int (S_and rfl rfl) (and_one (by omega) (by omega)) | exact as_int (S_and rfl rfl) (and_mask (by omega) (by omega)).1 | exact as_int (S_and rfl rfl) (and_mask (by omega) (by omega)).2 | exact S_store rfl rfl rfl rfl rfl rfl)
    | (apply dm rfl; case h => first | exact as_int (S_shr rfl rfl (by decide)) shr_c.1 | exact as_int (S_shr rfl rfl (by decide)) shr_c.2.1 | exact as_int (S_shr rfl rfl (by decide)) shr_c.2.2 | exact as_int (S_and rfl rfl) (and_one (by omega) (by omega)) | exact as_int (S_and rfl rfl) (and_mask (by omega) (by omega)).1 | exact as_int (S_and rfl rfl) (and_mask (by omega) (by omega)).2 | exact M_d rfl)
    | fail)
      · refine retN (.cellA inferInstance rfl rfl rfl rfl (.inl rfl) (.tmp rfl (.inr (.int _ _)) .nil)) ?_
        simp at hb
        simp only [Frame.parse, hr, if_neg hb]; rfl
      · refine retN (.cellA inferInstance rfl rfl rfl rfl (.inl rfl) (.tmp rfl (.inr (.int _ _)) .nil)) ?_
        simp at hb
        simp only [Frame.parse, hr, if_pos hb]; rfl
      · rename_i h0
        have h0 : rest = [] := by simpa using h0
        subst h0
        refine retN (.cellA inferInstance rfl rfl rfl rfl (.inl rfl) (.tmp rfl (.inr (.int _ _)) .nil)) ?_
        simp at hb
        simp only [Frame.parse, hr, if_neg hb]; rfl
      · rename_i h0
        have h0 : rest = [] := by simpa using h0
        subst h0
        refine retN (.cellA inferInstance rfl rfl rfl rfl (.inl rfl) (.tmp rfl (.inr (.int _ _)) .nil)) ?_
        simp at hb
        simp only [Frame.parse, hr, if_pos hb]; rfl
  · have hr : Frame.read b = some ⟨beNum (b.take 6), beNum ((b.drop 6).take 6), false, 0, false, 0, beNum (((b.drop 6).drop 6).take 2), ((b.drop 6).drop 6).drop 2⟩ := by
      unfold Frame.read
      rw [if_neg (by omega), if_neg (by simpa [List.drop_drop] using ht)]
      simp only [List.drop_drop]
    have hok := Frame.read_ok hb hr
    have t3 := frame_take_ok ((b.drop 6).drop 6) 2 (by simp; omega) (by simp; omega)
    have hrl : (((b.drop 6).drop 6).drop 2).length ≤ 1048576 := by simp; omega
    generalize beNum (((b.drop 6).drop 6).take 2) = n at hn0 hn1 hr hok t3 ht
    generalize ((b.drop 6).drop 6).drop 2 = rest at hr hok t3 hrl
    have hok0 := Frame.ok.nil hok
    repeat' (first
    | (apply DW_false rfl; case hb => exact decide_eq_false ht)
    | refine DW_loopU ?_
    | refine DWin_step ?_
    | refine DW_seq ?_
    | refine DW_region ?_
    | refine DW_draw ?_
    | refine dnilP ?_
    | refine dnilD (by kernel_rfl) ?_
    | refine then_normal ?_
    | refine then_exit ?_
    | refine then_ret ?_
    | refine DW_block ?_
    | refine blk_normal ?_
    | refine blk_ret ?_
    | refine blk_hit rfl ?_
    | refine blk_miss rfl ?_
    | refine loop_exit ?_
    | refine loop_ret ?_
    | refine DW_ret ?_
    | refine DW_exit ?_
    | refine DW_skip ?_
    | refine DW_cond_t rfl ?_
    | refine DW_cond_f rfl ?_
    | refine DW_cond rfl (fun hb => ?_) (fun hb => ?_)
    | (apply dpC rfl; case h => first | exact S_callGD t3 rfl | exact S_callGD (frame_take_ok b 6 (by omega) (by omega)) rfl | exact S_callGD (frame_take_ok (b.drop 6) 6 (by simp; omega) (by simp; omega)) rfl | exact S_callGD (frame_take_ok ((b.drop 6).drop 6) 2 (by simp; omega) (by simp; omega)) rfl | exact S_appND (f := byteV) (bs := rest) (nf := true) rfl (.dat _ _) rfl (.inr inferInstance) rfl (by omega) | exact S_call (frame_Wrong _ hok) rfl | exact S_call (frame_Wrong _ hok0) rfl | exact S_len_slice rfl | exact S_len_own rfl rfl | exact S_len_str rfl | exact S_len_nil rfl | exact S_min rfl rfl | exact S_max rfl rfl)
    | (apply dp rfl; case h => first | exact M_d rfl | exact M_p rfl | exact M_o rfl | exact M_n rfl | exact M_r rfl | exact M_a rfl | exact M_m rfl | exact A_d rfl | exact A_p rfl | exact A_o rfl | exact A_n rfl | exact A_r rfl | exact A_a rfl | exact A_m rfl | exact S_load_rp rfl rfl | exact S_load_ptr rfl rfl rfl | exact S_load_ptrs rfl rfl rfl | exact S_fieldAddr_rp rfl rfl | exact S_fieldAddr_ptr rfl rfl | exact S_fieldAddr_rptr rfl rfl rfl | exact S_field rfl rfl | exact S_lss rfl rfl | exact S_leq rfl rfl | exact S_gtr rfl rfl | exact S_geq rfl rfl | exact S_eql rfl rfl | exact S_neq rfl rfl | exact S_not rfl | exact S_pick_T rfl rfl | exact S_pick_F rfl rfl | exact S_pick_and rfl rfl rfl | exact S_pick_or rfl rfl rfl | exact I_add rfl rfl (by simp only [InK]; omega) | exact I_add rfl rfl (by simp only [InK]; simp at hg; omega) | exact S_add rfl rfl | exact I_sub rfl rfl (by simp only [InK]; omega) | exact I_sub rfl rfl (by simp only [InK]; simp at hg; omega) | exact S_sub rfl rfl | exact I_mul rfl rfl (by simp only [InK]; omega) | exact S_mul rfl rfl | exact S_quo rfl rfl (by decide) | exact S_rem rfl rfl (by decide) | exact S_extract rfl rfl | exact I_toInt rfl (by simp only [InK]; omega) | exact W_toInt rfl | exact S_eqlb (BoolI.out) rfl rfl | exact S_neqb (BoolI.out) rfl rfl | exact S_eqls rfl rfl | exact S_eqlA rfl rfl rfl rfl rfl | exact S_neqA rfl rfl rfl rfl rfl | exact S_neqs rfl rfl | exact S_and rfl rfl | exact S_or rfl rfl | exact S_xor rfl rfl | exact S_andNot rfl rfl | exact S_shl rfl rfl (by omega) | exact S_shr rfl rfl (by omega) | exact S_nilCheck_ptr rfl | exact S_nilCheck_rp rfl | exact S_nilCheck_fn rfl | exact S_build rfl | exact S_lit rfl rfl rfl rfl | exact S_load_rptr rfl rfl rfl rfl | exact S_field_aggd rfl rfl | exact S_makeFunc rfl | exact S_eqNilT rfl | exact S_ix_slice rfl rfl (by decide) rfl rfl | exact S_ix_arr_ptr rfl rfl (by decide) (by decide) | exact S_index_aggd rfl rfl (by decide) (by decide) rfl)
    | refine dpOff rfl rfl ?_
    | (apply dpOn rfl rfl; case h => first | exact S_callGD t3 rfl | exact S_callGD (frame_take_ok b 6 (by omega) (by omega)) rfl | exact S_callGD (frame_take_ok (b.drop 6) 6 (by simp; omega) (by simp; omega)) rfl | exact S_callGD (frame_take_ok ((b.drop 6).drop 6) 2 (by simp; omega) (by simp; omega)) rfl | exact S_appND (f := byteV) (bs := rest) (nf := true) rfl (.dat _ _) rfl (.inr inferInstance) rfl (by omega) | exact S_call (frame_Wrong _ hok) rfl | exact S_call (frame_Wrong _ hok0) rfl | exact M_d rfl | exact M_p rfl | exact M_o rfl | exact M_n rfl | exact M_r rfl | exact M_a rfl | exact M_m rfl | exact A_d rfl | exact A_p rfl | exact A_o rfl | exact A_n rfl | exact A_r rfl | exact A_a rfl | exact A_m rfl | exact S_load_rp rfl rfl | exact S_load_ptr rfl rfl rfl | exact S_load_ptrs rfl rfl rfl | exact S_fieldAddr_rp rfl rfl | exact S_fieldAddr_ptr rfl rfl | exact S_fieldAddr_rptr rfl rfl rfl | exact S_field rfl rfl | exact S_lss rfl rfl | exact S_leq rfl rfl | exact S_gtr rfl rfl | exact S_geq rfl rfl | exact S_eql rfl rfl | exact S_neq rfl rfl | exact S_not rfl | exact S_pick_T rfl rfl | exact S_pick_F rfl rfl | exact S_pick_and rfl rfl rfl | exact S_pick_or rfl rfl rfl | exact I_add rfl rfl (by simp only [InK]; omega) | exact I_add rfl rfl (by simp only [InK]; simp at hg; omega) | exact S_add rfl rfl | exact I_sub rfl rfl (by simp only [InK]; omega) | exact I_sub rfl rfl (by simp only [InK]; simp at hg; omega) | exact S_sub rfl rfl | exact I_mul rfl rfl (by simp only [InK]; omega) | exact S_mul rfl rfl | exact S_quo rfl rfl (by decide) | exact S_rem rfl rfl (by decide) | exact S_len_slice rfl | exact S_len_own rfl rfl | exact S_len_str rfl | exact S_len_nil rfl | exact S_extract rfl rfl | exact I_toInt rfl (by simp only [InK]; omega) | exact W_toInt rfl | exact S_eqlb (BoolI.out) rfl rfl | exact S_neqb (BoolI.out) rfl rfl | exact S_eqls rfl rfl | exact S_eqlA rfl rfl rfl rfl rfl | exact S_neqA rfl rfl rfl rfl rfl | exact S_neqs rfl rfl | exact S_and rfl rfl | exact S_or rfl rfl | exact S_xor rfl rfl | exact S_andNot rfl rfl | exact S_shl rfl rfl (by omega) | exact S_shr rfl rfl (by omega) | exact S_nilCheck_ptr rfl | exact S_nilCheck_rp rfl | exact S_nilCheck_fn rfl | exact S_build rfl | exact S_lit rfl rfl rfl rfl | exact S_min rfl rfl | exact S_max rfl rfl | exact S_load_rptr rfl rfl rfl rfl | exact S_field_aggd rfl rfl | exact S_makeFunc rfl | exact S_eqNilT rfl | exact S_ix_slice rfl rfl (by decide) rfl rfl | exact S_ix_arr_ptr rfl rfl (by decide) (by decide) | exact S_index_aggd rfl rfl (by decide) (by decide) rfl)
    | (apply dpMay rfl rfl (by first | exact fun _ => trivial | exact fun h => ⟨h, trivial⟩ | exact fun h => ⟨h, h, trivial⟩ | exact fun h => ⟨h, h, h, trivial⟩ | exact fun h => ⟨h, h, h, h, trivial⟩); case h => (intro hg; first | exact S_callGD t3 rfl | exact S_callGD (frame_take_ok b 6 (by omega) (by omega)) rfl | exact S_callGD (frame_take_ok (b.drop 6) 6 (by simp; omega) (by simp; omega)) rfl | exact S_callGD (frame_take_ok ((b.drop 6).drop 6) 2 (by simp; omega) (by simp; omega)) rfl | exact S_appND (f := byteV) (bs := rest) (nf := true) rfl (.dat _ _) rfl (.inr inferInstance) rfl (by omega) | exact S_call (frame_Wrong _ hok) rfl | exact S_call (frame_Wrong _ hok0) rfl | exact M_d rfl | exact M_p rfl | exact M_o rfl | exact M_n rfl | exact M_r rfl | exact M_a rfl | exact M_m rfl | exact A_d rfl | exact A_p rfl | exact A_o rfl | exact A_n rfl | exact A_r rfl | exact A_a rfl | exact A_m rfl | exact S_load_rp rfl rfl | exact S_load_ptr rfl rfl rfl | exact S_load_ptrs rfl rfl rfl | exact S_fieldAddr_rp rfl rfl | exact S_fieldAddr_ptr rfl rfl | exact S_fieldAddr_rptr rfl rfl rfl | exact S_field rfl rfl | exact S_lss rfl rfl | exact S_leq rfl rfl | exact S_gtr rfl rfl | exact S_geq rfl rfl | exact S_eql rfl rfl | exact S_neq rfl rfl | exact S_not rfl | exact S_pick_T rfl rfl | exact S_pick_F rfl rfl | exact S_pick_and rfl rfl rfl | exact S_pick_or rfl rfl rfl | exact I_add rfl rfl (by simp only [InK]; omega) | exact I_add rfl rfl (by simp only [InK]; simp at hg; omega) | exact S_add rfl rfl | exact I_sub rfl rfl (by simp only [InK]; omega) | exact I_sub rfl rfl (by simp only [InK]; simp at hg; omega) | exact S_sub rfl rfl | exact I_mul rfl rfl (by simp only [InK]; omega) | exact S_mul rfl rfl | exact S_quo rfl rfl (by decide) | exact S_rem rfl rfl (by decide) | exact S_len_slice rfl | exact S_len_own rfl rfl | exact S_len_str rfl | exact S_len_nil rfl | exact S_extract rfl rfl | exact I_toInt rfl (by simp only [InK]; omega) | exact W_toInt rfl | exact S_eqlb (BoolI.out) rfl rfl | exact S_neqb (BoolI.out) rfl rfl | exact S_eqls rfl rfl | exact S_eqlA rfl rfl rfl rfl rfl | exact S_neqA rfl rfl rfl rfl rfl | exact S_neqs rfl rfl | exact S_and rfl rfl | exact S_or rfl rfl | exact S_xor rfl rfl | exact S_andNot rfl rfl | exact S_shl rfl rfl (by omega) | exact S_shr rfl rfl (by omega) | exact S_nilCheck_ptr rfl | exact S_nilCheck_rp rfl | exact S_nilCheck_fn rfl | exact S_build rfl | exact S_lit rfl rfl rfl rfl | exact S_min rfl rfl | exact S_max rfl rfl | exact S_load_rptr rfl rfl rfl rfl | exact S_field_aggd rfl rfl | exact S_makeFunc rfl | exact S_eqNilT rfl | exact S_ix_slice rfl rfl (by decide) rfl rfl | exact S_ix_arr_ptr rfl rfl (by decide) (by decide) | exact S_index_aggd rfl rfl (by decide) (by decide) rfl))
    | refine dpickAnd rfl rfl rfl rfl rfl ?_ | refine dpickOr rfl rfl rfl rfl rfl ?_
    | (apply dt rfl; case h => first | exact S_alloc _ rfl | exact S_box _ rfl rfl)
    | (apply ds; case h => first | exact S_store rfl rfl rfl rfl rfl rfl)
    | (apply dm rfl; case h => first | exact M_d rfl)
    | fail)
    · refine retN (.cellA inferInstance rfl rfl rfl rfl (.inl rfl) (.tmp rfl (.inr (.int _ _)) .nil)) ?_
      simp at hb
      simp only [Frame.parse, hr, if_neg hb]; rfl
    · refine retN (.cellA inferInstance rfl rfl rfl rfl (.inl rfl) (.tmp rfl (.inr (.int _ _)) .nil)) ?_
      simp at hb
      simp only [Frame.parse, hr, if_pos hb]; rfl
    · rename_i h0
      have h0 : rest = [] := by simpa using h0
      subst h0
      refine retN (.cellA inferInstance rfl rfl rfl rfl (.inl rfl) (.tmp rfl (.inr (.int _ _)) .nil)) ?_
      simp at hb
      simp only [Frame.parse, hr, if_neg hb]; rfl
    · rename_i h0
      have h0 : rest = [] := by simpa using h0
      subst h0
      refine retN (.cellA inferInstance rfl rfl rfl rfl (.inl rfl) (.tmp rfl (.inr (.int _ _)) .nil)) ?_
      simp at hb
      simp only [Frame.parse, hr, if_pos hb]; rfl
end Go.Proofs.Ytjniepfecgcmaaa
