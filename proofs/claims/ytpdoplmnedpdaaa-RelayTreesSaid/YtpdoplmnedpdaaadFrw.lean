/- Contracts: Wrong of frames, and Same. -/
import Derived.Test.YtpdoplmnedpdaaacBy0
namespace Go.Proofs.Ytpdoplmnedpdaaa
open Go.RowKit
attribute [local irreducible] SStep DW DOps thenQ inBlk loopQ retQ retQG FnF FnG Wk IntKind.wrap IntKind.andI IntKind.orI IntKind.xorI IntKind.andNotI IntKind.shlI IntKind.shrI beBytes byteAt beNum

structure Frame where
  dst : Int
  src : Int
  tagged : Bool
  prio : Int
  drop : Bool
  vid : Int
  typ : Int
  data : List UInt8
def Frame.cells (f : Frame) : List V := [.int .u64 f.dst, .int .u64 f.src, .bool f.tagged, .int .i64 f.prio, .bool f.drop, .int .i64 f.vid, .int .i64 f.typ, .slice (f.data.map byteV)]
def Frame.v (f : Frame) : V := .agg f.cells
def Frame.zero : Frame := ⟨0, 0, false, 0, false, 0, 0, []⟩
structure Frame.ok (f : Frame) : Prop where
  d0 : 0 ≤ f.dst
  d1 : f.dst ≤ 18446744073709551615
  s0 : 0 ≤ f.src
  s1 : f.src ≤ 18446744073709551615
  p0 : -9223372036854775808 ≤ f.prio
  p1 : f.prio ≤ 9223372036854775807
  v0 : -9223372036854775808 ≤ f.vid
  v1 : f.vid ≤ 9223372036854775807
  t0 : -9223372036854775808 ≤ f.typ
  t1 : f.typ ≤ 9223372036854775807
  l : f.data.length ≤ 9223372036854775807
def Frame.wrong (f : Frame) : Int :=
  if 281474976710655 < f.dst ∨ 281474976710655 < f.src then 3 else
  if f.src / 1099511627776 % 2 = 1 then 8 else
  if f.tagged = true ∧ (f.vid < 0 ∨ 4094 < f.vid ∨ f.prio < 0 ∨ 7 < f.prio) then 3 else
  if f.typ < 1536 ∨ 65535 < f.typ ∨ f.typ = 33024 then 1 else
  if 1500 < f.data.length then 4 else 0

theorem and_one {a : Int} (h : 0 ≤ a) (h2 : a ≤ 18446744073709551615) : IntKind.u64.andI a 1 = a % 2 := by
  unfold IntKind.andI
  have hb : IntKind.u64.bits = 64 := rfl
  have e1 : (BitVec.ofInt 64 a &&& BitVec.ofInt 64 1).toNat = a.toNat % 2 := by
    rw [BitVec.toNat_and, ofInt_toNat64 h (by omega), ofInt_toNat64 (by omega) (by omega)]
    exact Nat.and_one_is_mod _
  rw [hb, e1, wrap_u64]
  omega
theorem shr_40 {a : Int} : IntKind.u64.shrI a 40 = a / 1099511627776 := by
  unfold IntKind.shrI
  have e : (2 : Int) ^ (min (40 : Int).toNat IntKind.u64.bits) = 1099511627776 := by decide
  rw [e, Int.fdiv_eq_ediv_of_nonneg _ (by decide)]

theorem frame_Wrong (f : Frame) (hf : f.ok) : FnF Try.prog 51 [f.v] (.int .i64 f.wrong) := by
  refine fnF_of Try.func51 rfl rfl rfl ?_
  simp only [envOf]
  have hs := hf.s0
  have hs1 := hf.s1
  have ha : IntKind.u64.andI (f.src / 1099511627776) 1 = f.src / 1099511627776 % 2 := and_one (by omega) (by omega)
  repeat' (first
    | refine DW_seq ?_
    | refine DW_region ?_
    | refine DW_draw ?_
    | refine dnilP ?_
    | refine dnilD (by kernel_rfl) ?_
    | refine then_normal ?_
    | refine then_exit ?_
    | refine then_ret ?_
    | refine DW_block ?_
    | refine blk_normal ?_
    | refine blk_ret ?_
    | refine blk_hit rfl ?_
    | refine blk_miss rfl ?_
    | refine loop_exit ?_
    | refine loop_ret ?_
    | refine DW_ret ?_
    | refine DW_exit ?_
    | refine DW_skip ?_
    | refine DW_cond_t rfl ?_
    | refine DW_cond_f rfl ?_
    | refine DW_cond rfl (fun hb => ?_) (fun hb => ?_)
    | (apply dpC rfl; case h => first | (apply Pu.ok; repeat' (first | rfl | exact .inK (by simp only [InK]; omega) | exact .inK (by simp only [InK]; simp at hg; omega) | exact .wr | constructor | decide | omega)))
    | refine dpOff rfl rfl ?_
    | ((first | apply dp rfl | apply dpOn rfl rfl | apply dpMay rfl rfl (by first | exact fun _ => trivial | exact fun h => ⟨h, trivial⟩ | exact fun h => ⟨h, h, trivial⟩ | exact fun h => ⟨h, h, h, trivial⟩)); case h => ((try intro hg); first | exact as_int (S_shr rfl rfl (by decide)) shr_40 | exact as_int (S_and rfl rfl) ha | (apply Pu.ok; repeat' (first | rfl | exact .inK (by simp only [InK]; omega) | exact .inK (by simp only [InK]; simp at hg; omega) | exact .wr | constructor | decide | omega))))
    | refine dpickAnd rfl rfl rfl rfl rfl ?_ | refine dpickOr rfl rfl rfl rfl rfl ?_
    | (apply dt rfl; case h => first | exact S_alloc _ rfl | exact S_box _ rfl rfl)
    | (apply ds; case h => first | exact S_store rfl rfl rfl rfl rfl rfl)
    | (apply dm rfl; case h => first | exact M_d rfl | exact S_alloc 2001 rfl | exact S_alloc 2002 rfl | exact S_alloc 2003 rfl | exact S_alloc 2004 rfl | exact S_alloc 2005 rfl)
    | fail)
  all_goals refine ret1 rfl (.inl rfl) ?_
  all_goals (unfold Frame.wrong; cases ht : f.tagged <;> simp_all <;> (try intros; (repeat' split) <;> first | rfl | omega))

theorem ref2_Wrong (f : Frame) (hf : f.ok) : FnF Try.prog 36 [f.v] (.int .i64 f.wrong) := by
  refine fnF_of Try.func36 rfl rfl rfl ?_
  simp only [envOf]
  have hs := hf.s0
  have hs1 := hf.s1
  have hq : IntKind.u64.wrap (f.src.tdiv 1099511627776) = f.src / 1099511627776 := by
    rw [Int.tdiv_eq_ediv_of_nonneg hs, wrap_in]; simp only [InK]; omega
  have hr : (f.src / 1099511627776).tmod 2 = f.src / 1099511627776 % 2 := Int.tmod_eq_emod_of_nonneg (by omega)
  repeat' (first
    | refine DW_seq ?_
    | refine DW_region ?_
    | refine DW_draw ?_
    | refine dnilP ?_
    | refine dnilD (by kernel_rfl) ?_
    | refine then_normal ?_
    | refine then_exit ?_
    | refine then_ret ?_
    | refine DW_block ?_
    | refine blk_normal ?_
    | refine blk_ret ?_
    | refine blk_hit rfl ?_
    | refine blk_miss rfl ?_
    | refine loop_exit ?_
    | refine loop_ret ?_
    | refine DW_ret ?_
    | refine DW_exit ?_
    | refine DW_skip ?_
    | refine DW_cond_t rfl ?_
    | refine DW_cond_f rfl ?_
    | refine DW_cond rfl (fun hb => ?_) (fun hb => ?_)
    | (apply dpC rfl; case h => first | (apply Pu.ok; repeat' (first | rfl | exact .inK (by simp only [InK]; omega) | exact .inK (by simp only [InK]; simp at hg; omega) | exact .wr | constructor | decide | omega)))
    | refine dpOff rfl rfl ?_
    | ((first | apply dp rfl | apply dpOn rfl rfl | apply dpMay rfl rfl (by first | exact fun _ => trivial | exact fun h => ⟨h, trivial⟩ | exact fun h => ⟨h, h, trivial⟩ | exact fun h => ⟨h, h, h, trivial⟩)); case h => ((try intro hg); first | exact as_int (S_quo rfl rfl (by decide)) hq | exact as_int (S_rem rfl rfl (by decide)) hr | (apply Pu.ok; repeat' (first | rfl | exact .inK (by simp only [InK]; omega) | exact .inK (by simp only [InK]; simp at hg; omega) | exact .wr | constructor | decide | omega))))
    | refine dpickAnd rfl rfl rfl rfl rfl ?_ | refine dpickOr rfl rfl rfl rfl rfl ?_
    | (apply dt rfl; case h => first | exact S_alloc _ rfl | exact S_box _ rfl rfl)
    | (apply ds; case h => first | exact S_store rfl rfl rfl rfl rfl rfl)
    | (apply dm rfl; case h => first | exact M_d rfl | exact S_alloc 2001 rfl | exact S_alloc 2002 rfl | exact S_alloc 2003 rfl | exact S_alloc 2004 rfl | exact S_alloc 2005 rfl)
    | fail)
  all_goals refine ret1 rfl (.inl rfl) ?_
  all_goals (unfold Frame.wrong; cases ht : f.tagged <;> simp_all <;> (try intros; (repeat' split) <;> first | rfl | omega))

/-- Two frames are the same in what they have. -/
def Frame.same (a b : Frame) : Bool :=
  decide (a.dst = b.dst) && decide (a.src = b.src) && (a.tagged == b.tagged) && (!a.tagged || (decide (a.prio = b.prio) && (a.drop == b.drop) && decide (a.vid = b.vid))) && decide (a.typ = b.typ) && decide (a.data = b.data)
theorem ref2_Same (a b : Frame) (ha : a.ok) (hb : b.ok) : FnF Try.prog 59 [a.v, b.v] (.bool (a.same b)) := by
  refine fnF_of Try.func59 rfl rfl rfl ?_
  simp only [envOf]
  repeat' (first
    | refine DW_seq ?_
    | refine DW_region ?_
    | refine DW_draw ?_
    | refine dnilP ?_
    | refine dnilD (by kernel_rfl) ?_
    | refine then_normal ?_
    | refine then_exit ?_
    | refine then_ret ?_
    | refine DW_block ?_
    | refine blk_normal ?_
    | refine blk_ret ?_
    | refine blk_hit rfl ?_
    | refine blk_miss rfl ?_
    | refine loop_exit ?_
    | refine loop_ret ?_
    | refine DW_ret ?_
    | refine DW_exit ?_
    | refine DW_skip ?_
    | refine DW_cond_t rfl ?_
    | refine DW_cond_f rfl ?_
    | (apply dpC rfl; case h => first | (apply Pu.ok; repeat' (first | rfl | exact .inK (by simp only [InK]; omega) | exact .inK (by simp only [InK]; simp at hg; omega) | exact .wr | constructor | decide | omega)))
    | refine dpOff rfl rfl ?_
    | ((first | apply dp rfl | apply dpOn rfl rfl | apply dpMay rfl rfl (by first | exact fun _ => trivial | exact fun h => ⟨h, trivial⟩ | exact fun h => ⟨h, h, trivial⟩ | exact fun h => ⟨h, h, h, trivial⟩)); case h => ((try intro hg); first | exact S_bytes_str (l := a.data) Try.underlying5 Try.underlying9 rfl | exact S_bytes_str (l := b.data) Try.underlying5 Try.underlying9 rfl | (apply Pu.ok; repeat' (first | rfl | exact .inK (by simp only [InK]; omega) | exact .inK (by simp only [InK]; simp at hg; omega) | exact .wr | constructor | decide | omega))))
    | refine dpickAnd rfl rfl rfl rfl rfl ?_ | refine dpickOr rfl rfl rfl rfl rfl ?_
    | (apply dt rfl; case h => first | exact S_alloc _ rfl | exact S_box _ rfl rfl)
    | (apply ds; case h => first | exact S_store rfl rfl rfl rfl rfl rfl)
    | (apply dm rfl; case h => first | exact M_d rfl | exact S_alloc 2001 rfl | exact S_alloc 2002 rfl | exact S_alloc 2003 rfl | exact S_alloc 2004 rfl | exact S_alloc 2005 rfl)
    | fail)
  exact ret1 rfl (.inl rfl) rfl
end Go.Proofs.Ytpdoplmnedpdaaa
