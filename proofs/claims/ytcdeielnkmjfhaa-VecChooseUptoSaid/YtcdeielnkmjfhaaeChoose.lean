/- Contracts: vec.Choose. -/
import Derived.Test.YtcdeielnkmjfhaacVec
namespace Go.Proofs.Ytcdeielnkmjfhaa
open Go.RowKit
attribute [local irreducible] SStep DW DOps thenQ inBlk loopQ retQ FnF Wk

structure Offer where
  port : Int
  cost : Int
  age : Int
  vec : Vec
def Offer.cells (o : Offer) : List V := [.int .i64 o.port, .int .i64 o.cost, .int .i64 o.age, .int .u64 o.vec.root, .int .i64 o.vec.cost, .int .u64 o.vec.bridge, .int .i64 o.vec.port]
def offers (l : List Offer) : V := .slice (l.map Offer.cells)
structure Ch where
  best : Vec
  age : Int
  port : Int
def Ch.step (id : Int) (s : Ch) (o : Offer) : Ch :=
  match o.vec.over o.cost with
  | none => s
  | some v => if o.port < 0 ∨ o.age < 0 ∨ 20 ≤ o.age ∨ id ≤ v.root then s
    else if (if s.port < 0 then -1 else v.cmp s.best) < 0 ∨ ((if s.port < 0 then -1 else v.cmp s.best) = 0 ∧ o.port < s.port) then ⟨v, o.age + 1, o.port⟩ else s
def Ch.start (id : Int) : Ch := ⟨⟨id, 0, 0, 0⟩, 0, -1⟩
def chooseS (id : Int) (l : List Offer) : Ch := l.foldl (Ch.step id) (.start id)
def Ch.says (id : Int) (s : Ch) : Vec := ⟨s.best.root, s.best.cost, id, 0⟩

theorem Ch.step_skip {id : Int} {c : Ch} {o : Offer} (h : (o.vec.over o.cost).isSome = true → 0 ≤ o.port → 0 ≤ o.age → o.age < 20 → id ≤ ((o.vec.over o.cost).getD .zero).root) : c.step id o = c := by
  unfold Ch.step
  cases hv : o.vec.over o.cost with
  | none => rfl
  | some v =>
    simp only [hv, Option.isSome_some, Option.getD_some, true_implies] at h
    simp only
    rw [if_pos]
    omega
theorem Ch.step_in {id : Int} {c : Ch} {o : Offer} (h0 : (o.vec.over o.cost).isSome = true) (h1 : 0 ≤ o.port) (h2 : 0 ≤ o.age) (h3 : o.age < 20) (h4 : ((o.vec.over o.cost).getD .zero).root < id) :
    c.step id o = if (c.port < 0 ∨ ((o.vec.over o.cost).getD .zero).cmp c.best < 0 ∨ (((o.vec.over o.cost).getD .zero).cmp c.best = 0 ∧ o.port < c.port)) then ⟨(o.vec.over o.cost).getD .zero, o.age + 1, o.port⟩ else c := by
  unfold Ch.step
  cases hv : o.vec.over o.cost with
  | none => simp [hv] at h0
  | some v =>
    simp only [hv, Option.getD_some] at h4 ⊢
    rw [if_neg (by omega)]
    by_cases hp : c.port < 0
    · simp [hp]
    · simp [hp]

theorem vec_Choose (id : Int) (l : List Offer) : FnF Try.prog 12 [.int .u64 id, offers l] (.tuple [((chooseS id l).says id).v, .int .i64 (chooseS id l).age, .int .i64 (chooseS id l).port]) := by
  refine fnF_of Try.func12 rfl rfl rfl ?_
  simp only [envOf, offers]
  refine DW_len 1 rfl (fun hlen => ?_)
  rw [List.length_map] at hlen
  repeat' (first
    | refine DW_seq ?_
    | refine DW_region ?_
    | refine DW_draw ?_
    | refine dnilP ?_
    | refine dnilD (by kernel_rfl) ?_
    | refine then_normal ?_
    | refine then_exit ?_
    | refine then_ret ?_
    | refine DW_block ?_
    | refine blk_normal ?_
    | refine blk_ret ?_
    | refine blk_hit rfl ?_
    | refine blk_miss rfl ?_
    | refine loop_exit ?_
    | refine loop_ret ?_
    | refine DW_ret ?_
    | refine DW_exit ?_
    | refine DW_skip ?_
    | refine DW_cond_t rfl ?_
    | refine DW_cond_f rfl ?_
    | (apply dp rfl; case h => first | exact M_d rfl | exact M_p rfl | exact M_o rfl | exact M_n rfl | exact M_r rfl | exact M_a rfl | exact M_m rfl | exact A_d rfl | exact A_p rfl | exact A_o rfl | exact A_n rfl | exact A_r rfl | exact A_a rfl | exact A_m rfl | exact S_load_rp rfl rfl | exact S_load_ptr rfl rfl rfl | exact S_load_ptrs rfl rfl rfl | exact S_fieldAddr_rp rfl rfl | exact S_fieldAddr_ptr rfl rfl | exact S_fieldAddr_rptr rfl rfl rfl | exact S_field rfl rfl | exact S_lss rfl rfl | exact S_leq rfl rfl | exact S_gtr rfl rfl | exact S_geq rfl rfl | exact S_eql rfl rfl | exact S_neq rfl rfl | exact S_not rfl | exact S_pick_and rfl rfl rfl | exact S_pick_or rfl rfl rfl | exact I_add rfl rfl (by simp only [InK]; omega) | exact I_add rfl rfl (by simp only [InK]; simp at hg; omega) | exact S_add rfl rfl | exact I_sub rfl rfl (by simp only [InK]; omega) | exact I_sub rfl rfl (by simp only [InK]; simp at hg; omega) | exact S_sub rfl rfl | exact I_mul rfl rfl (by simp only [InK]; omega) | exact S_mul rfl rfl | exact S_quo rfl rfl (by decide) | exact S_rem rfl rfl (by decide) | exact S_len_slice rfl | exact S_len_own rfl rfl | exact S_len_str rfl | exact S_len_nil rfl | exact S_extract rfl rfl | exact I_toInt rfl (by simp only [InK]; omega) | exact W_toInt rfl | exact S_eqlb (BoolI.out) rfl rfl | exact S_neqb (BoolI.out) rfl rfl | exact S_eqls rfl rfl | exact S_eqlA rfl rfl rfl rfl rfl | exact S_neqA rfl rfl rfl rfl rfl | exact S_neqs rfl rfl | exact S_and rfl rfl | exact S_or rfl rfl | exact S_xor rfl rfl | exact S_andNot rfl rfl | exact S_shl rfl rfl (by omega) | exact S_shr rfl rfl (by omega) | exact S_nilCheck_ptr rfl | exact S_nilCheck_rp rfl | exact S_nilCheck_fn rfl | exact S_build rfl | exact S_lit rfl rfl rfl rfl | exact S_min rfl rfl | exact S_max rfl rfl)
    | (apply dpMay rfl rfl (by first | exact fun _ => trivial | exact fun h => ⟨h, trivial⟩ | exact fun h => ⟨h, h, trivial⟩ | exact fun h => ⟨h, h, h, trivial⟩ | exact fun h => ⟨h, h, h, h, trivial⟩); case h => (intro hg; first | exact M_d rfl | exact M_p rfl | exact M_o rfl | exact M_n rfl | exact M_r rfl | exact M_a rfl | exact M_m rfl | exact A_d rfl | exact A_p rfl | exact A_o rfl | exact A_n rfl | exact A_r rfl | exact A_a rfl | exact A_m rfl | exact S_load_rp rfl rfl | exact S_load_ptr rfl rfl rfl | exact S_load_ptrs rfl rfl rfl | exact S_fieldAddr_rp rfl rfl | exact S_fieldAddr_ptr rfl rfl | exact S_fieldAddr_rptr rfl rfl rfl | exact S_field rfl rfl | exact S_lss rfl rfl | exact S_leq rfl rfl | exact S_gtr rfl rfl | exact S_geq rfl rfl | exact S_eql rfl rfl | exact S_neq rfl rfl | exact S_not rfl | exact S_pick_and rfl rfl rfl | exact S_pick_or rfl rfl rfl | exact I_add rfl rfl (by simp only [InK]; omega) | exact I_add rfl rfl (by simp only [InK]; simp at hg; omega) | exact S_add rfl rfl | exact I_sub rfl rfl (by simp only [InK]; omega) | exact I_sub rfl rfl (by simp only [InK]; simp at hg; omega) | exact S_sub rfl rfl | exact I_mul rfl rfl (by simp only [InK]; omega) | exact S_mul rfl rfl | exact S_quo rfl rfl (by decide) | exact S_rem rfl rfl (by decide) | exact S_len_slice rfl | exact S_len_own rfl rfl | exact S_len_str rfl | exact S_len_nil rfl | exact S_extract rfl rfl | exact I_toInt rfl (by simp only [InK]; omega) | exact W_toInt rfl | exact S_eqlb (BoolI.out) rfl rfl | exact S_neqb (BoolI.out) rfl rfl | exact S_eqls rfl rfl | exact S_eqlA rfl rfl rfl rfl rfl | exact S_neqA rfl rfl rfl rfl rfl | exact S_neqs rfl rfl | exact S_and rfl rfl | exact S_or rfl rfl | exact S_xor rfl rfl | exact S_andNot rfl rfl | exact S_shl rfl rfl (by omega) | exact S_shr rfl rfl (by omega) | exact S_nilCheck_ptr rfl | exact S_nilCheck_rp rfl | exact S_nilCheck_fn rfl | exact S_build rfl | exact S_lit rfl rfl rfl rfl | exact S_min rfl rfl | exact S_max rfl rfl))
    | refine dpickAnd rfl rfl rfl rfl rfl ?_ | refine dpickOr rfl rfl rfl rfl rfl ?_
    | (apply dt rfl; case h => first | exact S_alloc _ rfl | exact S_box _ rfl rfl)
    | (apply ds; case h => first | exact S_store rfl rfl rfl rfl rfl rfl)
    | (apply dm rfl; case h => first | exact M_d rfl)
    | fail)
  refine DW_loop (fun p : Nat × Ch => ⟨[(0, .dat false (.int .u64 id)), (4, .ptr 4 0), (7, .ptr 7 0), (8, .dat true (.int .i64 p.2.age)), (9, .dat true (.int .i64 p.2.port)), (17, .dat false (.slice (l.map Offer.cells))),
      (18, .dat true (.int .i64 (l.map Offer.cells).length)), (19, .dat true (.int .i64 p.1))],
      [(7, .cells false true [.dat true (.int .u64 p.2.best.root), .dat true (.int .i64 p.2.best.cost), .dat true (.int .u64 p.2.best.bridge), .dat true (.int .i64 p.2.best.port)]),
       (4, .cells false true [.dat true (.int .u64 0), .dat true (.int .i64 0), .dat true (.int .u64 0), .dat true (.int .i64 0)])], 86⟩)
    (fun p => p.1 ≤ l.length ∧ chooseS id l = (l.drop p.1).foldl (Ch.step id) p.2) (fun p => l.length - p.1) (0, .start id) ⟨Nat.zero_le _, rfl⟩
    (Wk_gen some rfl rfl (by (repeat' (first | exact trivial | rfl | exact ⟨_, rfl, .inl rfl⟩ | exact ⟨_, rfl, .inr (.inl rfl)⟩ | exact ⟨_, rfl, .inr (.inr rfl)⟩ | refine ⟨_, _, rfl, rfl, ?_⟩ | exact ⟨_, rfl, rfl⟩ | exact ⟨_, _, _, _, rfl, rfl, rfl⟩ | exact ⟨_, rfl⟩ | apply And.intro))) (by (repeat' (first | exact trivial | rfl | exact ⟨_, rfl, .inl rfl⟩ | exact ⟨_, rfl, .inr (.inl rfl)⟩ | exact ⟨_, rfl, .inr (.inr rfl)⟩ | refine ⟨_, _, rfl, rfl, ?_⟩ | exact ⟨_, rfl, rfl⟩ | exact ⟨_, _, _, _, rfl, rfl, rfl⟩ | exact ⟨_, rfl⟩ | apply And.intro)))) (fun p hR => ?_)
  obtain ⟨k, c⟩ := p
  obtain ⟨hk, hch⟩ := hR
  simp only at hk hch
  by_cases hlt : k < l.length
  · have hx : (l.map Offer.cells)[k]? = some (l[k]).cells := by simp [hlt]
    rw [List.drop_eq_getElem_cons hlt, List.foldl_cons] at hch
    generalize l[k] = o at hx hch
    repeat' (first
    | refine DW_cond rfl (fun hb => ?_) (fun hb => ?_)
    | refine DW_seq ?_
    | refine DW_region ?_
    | refine DW_draw ?_
    | refine dnilP ?_
    | refine dnilD (by kernel_rfl) ?_
    | refine then_normal ?_
    | refine then_exit ?_
    | refine then_ret ?_
    | refine DW_block ?_
    | refine blk_normal ?_
    | refine blk_ret ?_
    | refine blk_hit rfl ?_
    | refine blk_miss rfl ?_
    | refine loop_exit ?_
    | refine loop_ret ?_
    | refine DW_ret ?_
    | refine DW_exit ?_
    | refine DW_skip ?_
    | refine DW_cond_t rfl ?_
    | refine DW_cond_f rfl ?_
    | (apply dp rfl; case h => first | exact S_ix_slice rfl rfl (by omega) hx rfl | exact S_call (vec_Over o.vec o.cost) rfl | exact S_call (vec_Compare ((o.vec.over o.cost).getD .zero) c.best) rfl | exact M_d rfl | exact M_p rfl | exact M_o rfl | exact M_n rfl | exact M_r rfl | exact M_a rfl | exact M_m rfl | exact A_d rfl | exact A_p rfl | exact A_o rfl | exact A_n rfl | exact A_r rfl | exact A_a rfl | exact A_m rfl | exact S_load_rp rfl rfl | exact S_load_ptr rfl rfl rfl | exact S_load_ptrs rfl rfl rfl | exact S_fieldAddr_rp rfl rfl | exact S_fieldAddr_ptr rfl rfl | exact S_fieldAddr_rptr rfl rfl rfl | exact S_field rfl rfl | exact S_lss rfl rfl | exact S_leq rfl rfl | exact S_gtr rfl rfl | exact S_geq rfl rfl | exact S_eql rfl rfl | exact S_neq rfl rfl | exact S_not rfl | exact S_pick_and rfl rfl rfl | exact S_pick_or rfl rfl rfl | exact I_add rfl rfl (by simp only [InK]; omega) | exact I_add rfl rfl (by simp only [InK]; simp at hg; omega) | exact S_add rfl rfl | exact I_sub rfl rfl (by simp only [InK]; omega) | exact I_sub rfl rfl (by simp only [InK]; simp at hg; omega) | exact S_sub rfl rfl | exact I_mul rfl rfl (by simp only [InK]; omega) | exact S_mul rfl rfl | exact S_quo rfl rfl (by decide) | exact S_rem rfl rfl (by decide) | exact S_len_slice rfl | exact S_len_own rfl rfl | exact S_len_str rfl | exact S_len_nil rfl | exact S_extract rfl rfl | exact I_toInt rfl (by simp only [InK]; omega) | exact W_toInt rfl | exact S_eqlb (BoolI.out) rfl rfl | exact S_neqb (BoolI.out) rfl rfl | exact S_eqls rfl rfl | exact S_eqlA rfl rfl rfl rfl rfl | exact S_neqA rfl rfl rfl rfl rfl | exact S_neqs rfl rfl | exact S_and rfl rfl | exact S_or rfl rfl | exact S_xor rfl rfl | exact S_andNot rfl rfl | exact S_shl rfl rfl (by omega) | exact S_shr rfl rfl (by omega) | exact S_nilCheck_ptr rfl | exact S_nilCheck_rp rfl | exact S_nilCheck_fn rfl | exact S_build rfl | exact S_lit rfl rfl rfl rfl | exact S_min rfl rfl | exact S_max rfl rfl)
    | (apply dpMay rfl rfl (by first | exact fun _ => trivial | exact fun h => ⟨h, trivial⟩ | exact fun h => ⟨h, h, trivial⟩ | exact fun h => ⟨h, h, h, trivial⟩ | exact fun h => ⟨h, h, h, h, trivial⟩); case h => (intro hg; first | exact S_ix_slice rfl rfl (by omega) hx rfl | exact S_call (vec_Over o.vec o.cost) rfl | exact S_call (vec_Compare ((o.vec.over o.cost).getD .zero) c.best) rfl | exact M_d rfl | exact M_p rfl | exact M_o rfl | exact M_n rfl | exact M_r rfl | exact M_a rfl | exact M_m rfl | exact A_d rfl | exact A_p rfl | exact A_o rfl | exact A_n rfl | exact A_r rfl | exact A_a rfl | exact A_m rfl | exact S_load_rp rfl rfl | exact S_load_ptr rfl rfl rfl | exact S_load_ptrs rfl rfl rfl | exact S_fieldAddr_rp rfl rfl | exact S_fieldAddr_ptr rfl rfl | exact S_fieldAddr_rptr rfl rfl rfl | exact S_field rfl rfl | exact S_lss rfl rfl | exact S_leq rfl rfl | exact S_gtr rfl rfl | exact S_geq rfl rfl | exact S_eql rfl rfl | exact S_neq rfl rfl | exact S_not rfl | exact S_pick_and rfl rfl rfl | exact S_pick_or rfl rfl rfl | exact I_add rfl rfl (by simp only [InK]; omega) | exact I_add rfl rfl (by simp only [InK]; simp at hg; omega) | exact S_add rfl rfl | exact I_sub rfl rfl (by simp only [InK]; omega) | exact I_sub rfl rfl (by simp only [InK]; simp at hg; omega) | exact S_sub rfl rfl | exact I_mul rfl rfl (by simp only [InK]; omega) | exact S_mul rfl rfl | exact S_quo rfl rfl (by decide) | exact S_rem rfl rfl (by decide) | exact S_len_slice rfl | exact S_len_own rfl rfl | exact S_len_str rfl | exact S_len_nil rfl | exact S_extract rfl rfl | exact I_toInt rfl (by simp only [InK]; omega) | exact W_toInt rfl | exact S_eqlb (BoolI.out) rfl rfl | exact S_neqb (BoolI.out) rfl rfl | exact S_eqls rfl rfl | exact S_eqlA rfl rfl rfl rfl rfl | exact S_neqA rfl rfl rfl rfl rfl | exact S_neqs rfl rfl | exact S_and rfl rfl | exact S_or rfl rfl | exact S_xor rfl rfl | exact S_andNot rfl rfl | exact S_shl rfl rfl (by omega) | exact S_shr rfl rfl (by omega) | exact S_nilCheck_ptr rfl | exact S_nilCheck_rp rfl | exact S_nilCheck_fn rfl | exact S_build rfl | exact S_lit rfl rfl rfl rfl | exact S_min rfl rfl | exact S_max rfl rfl))
    | refine dpickAnd rfl rfl rfl rfl rfl ?_ | refine dpickOr rfl rfl rfl rfl rfl ?_
    | (apply dt rfl; case h => first | exact S_ix_slice rfl rfl (by omega) hx rfl | exact S_call (vec_Over o.vec o.cost) rfl | exact S_call (vec_Compare ((o.vec.over o.cost).getD .zero) c.best) rfl | exact S_alloc _ rfl | exact S_box _ rfl rfl)
    | (apply ds; case h => first | exact S_ix_slice rfl rfl (by omega) hx rfl | exact S_call (vec_Over o.vec o.cost) rfl | exact S_call (vec_Compare ((o.vec.over o.cost).getD .zero) c.best) rfl | exact S_store rfl rfl rfl rfl rfl rfl)
    | (apply dm rfl; case h => first | exact S_ix_slice rfl rfl (by omega) hx rfl | exact S_call (vec_Over o.vec o.cost) rfl | exact S_call (vec_Compare ((o.vec.over o.cost).getD .zero) c.best) rfl | exact M_d rfl)
    | fail)
    · simp at hb
      refine loop_again (k + 1, c) ⟨hlt, ?_⟩ (by simp only; omega) (Wk_gen some rfl rfl (by (repeat' (first | exact trivial | rfl | exact ⟨_, rfl, .inl rfl⟩ | exact ⟨_, rfl, .inr (.inl rfl)⟩ | exact ⟨_, rfl, .inr (.inr rfl)⟩ | refine ⟨_, _, rfl, rfl, ?_⟩ | exact ⟨_, rfl, rfl⟩ | exact ⟨_, _, _, _, rfl, rfl, rfl⟩ | exact ⟨_, rfl⟩ | apply And.intro))) (by (repeat' (first | exact trivial | rfl | exact ⟨_, rfl, .inl rfl⟩ | exact ⟨_, rfl, .inr (.inl rfl)⟩ | exact ⟨_, rfl, .inr (.inr rfl)⟩ | refine ⟨_, _, rfl, rfl, ?_⟩ | exact ⟨_, rfl, rfl⟩ | exact ⟨_, _, _, _, rfl, rfl, rfl⟩ | exact ⟨_, rfl⟩ | apply And.intro))))
      rw [hch, Ch.step_skip]
      intro g0 g1 g2 g3
      simp [Option.isSome_iff_ne_none] at g0
      rcases hb with (((hb | hb) | hb) | hb) | hb
      · exact absurd hb g0
      · omega
      · omega
      · omega
      · exact hb
    · rename_i h1 h3 h2
      simp at h3 h2
      obtain ⟨⟨⟨⟨i0, i1⟩, i2⟩, i3⟩, i4⟩ := h3
      refine loop_again (k + 1, ⟨(o.vec.over o.cost).getD .zero, IntKind.i64.wrap (o.age + 1), o.port⟩) ⟨hlt, ?_⟩ (by simp only; omega) (Wk_gen some rfl rfl (by (repeat' (first | exact trivial | rfl | exact ⟨_, rfl, .inl rfl⟩ | exact ⟨_, rfl, .inr (.inl rfl)⟩ | exact ⟨_, rfl, .inr (.inr rfl)⟩ | refine ⟨_, _, rfl, rfl, ?_⟩ | exact ⟨_, rfl, rfl⟩ | exact ⟨_, _, _, _, rfl, rfl, rfl⟩ | exact ⟨_, rfl⟩ | apply And.intro))) (by (repeat' (first | exact trivial | rfl | exact ⟨_, rfl, .inl rfl⟩ | exact ⟨_, rfl, .inr (.inl rfl)⟩ | exact ⟨_, rfl, .inr (.inr rfl)⟩ | refine ⟨_, _, rfl, rfl, ?_⟩ | exact ⟨_, rfl, rfl⟩ | exact ⟨_, _, _, _, rfl, rfl, rfl⟩ | exact ⟨_, rfl⟩ | apply And.intro))))
      rw [hch, Ch.step_in i0 i1 i2 i3 i4, if_pos (.inl h2), wrap_in (by simp only [InK]; omega)]
    · rename_i h1 h3 h2
      simp at hb
    · rename_i h1 h3 h2
      simp at h3 h2 hb
      obtain ⟨⟨⟨⟨i0, i1⟩, i2⟩, i3⟩, i4⟩ := h3
      refine loop_again (k + 1, ⟨(o.vec.over o.cost).getD .zero, IntKind.i64.wrap (o.age + 1), o.port⟩) ⟨hlt, ?_⟩ (by simp only; omega) (Wk_gen some rfl rfl (by (repeat' (first | exact trivial | rfl | exact ⟨_, rfl, .inl rfl⟩ | exact ⟨_, rfl, .inr (.inl rfl)⟩ | exact ⟨_, rfl, .inr (.inr rfl)⟩ | refine ⟨_, _, rfl, rfl, ?_⟩ | exact ⟨_, rfl, rfl⟩ | exact ⟨_, _, _, _, rfl, rfl, rfl⟩ | exact ⟨_, rfl⟩ | apply And.intro))) (by (repeat' (first | exact trivial | rfl | exact ⟨_, rfl, .inl rfl⟩ | exact ⟨_, rfl, .inr (.inl rfl)⟩ | exact ⟨_, rfl, .inr (.inr rfl)⟩ | refine ⟨_, _, rfl, rfl, ?_⟩ | exact ⟨_, rfl, rfl⟩ | exact ⟨_, _, _, _, rfl, rfl, rfl⟩ | exact ⟨_, rfl⟩ | apply And.intro))))
      rw [hch, Ch.step_in i0 i1 i2 i3 i4, if_pos (.inr hb), wrap_in (by simp only [InK]; omega)]
    · rename_i h1 h3 h2
      simp at h3 h2 hb
      obtain ⟨⟨⟨⟨i0, i1⟩, i2⟩, i3⟩, i4⟩ := h3
      refine loop_again (k + 1, c) ⟨hlt, ?_⟩ (by simp only; omega) (Wk_gen some rfl rfl (by (repeat' (first | exact trivial | rfl | exact ⟨_, rfl, .inl rfl⟩ | exact ⟨_, rfl, .inr (.inl rfl)⟩ | exact ⟨_, rfl, .inr (.inr rfl)⟩ | refine ⟨_, _, rfl, rfl, ?_⟩ | exact ⟨_, rfl, rfl⟩ | exact ⟨_, _, _, _, rfl, rfl, rfl⟩ | exact ⟨_, rfl⟩ | apply And.intro))) (by (repeat' (first | exact trivial | rfl | exact ⟨_, rfl, .inl rfl⟩ | exact ⟨_, rfl, .inr (.inl rfl)⟩ | exact ⟨_, rfl, .inr (.inr rfl)⟩ | refine ⟨_, _, rfl, rfl, ?_⟩ | exact ⟨_, rfl, rfl⟩ | exact ⟨_, _, _, _, rfl, rfl, rfl⟩ | exact ⟨_, rfl⟩ | apply And.intro))))
      rw [hch, Ch.step_in i0 i1 i2 i3 i4, if_neg]
      omega
    · simp at hb; omega
  · repeat' (first
    | refine DW_cond rfl (fun hb => ?_) (fun hb => ?_)
    | refine DW_seq ?_
    | refine DW_region ?_
    | refine DW_draw ?_
    | refine dnilP ?_
    | refine dnilD (by kernel_rfl) ?_
    | refine then_normal ?_
    | refine then_exit ?_
    | refine then_ret ?_
    | refine DW_block ?_
    | refine blk_normal ?_
    | refine blk_ret ?_
    | refine blk_hit rfl ?_
    | refine blk_miss rfl ?_
    | refine loop_exit ?_
    | refine loop_ret ?_
    | refine DW_ret ?_
    | refine DW_exit ?_
    | refine DW_skip ?_
    | refine DW_cond_t rfl ?_
    | refine DW_cond_f rfl ?_
    | (apply dp rfl; case h => first | exact M_d rfl | exact M_p rfl | exact M_o rfl | exact M_n rfl | exact M_r rfl | exact M_a rfl | exact M_m rfl | exact A_d rfl | exact A_p rfl | exact A_o rfl | exact A_n rfl | exact A_r rfl | exact A_a rfl | exact A_m rfl | exact S_load_rp rfl rfl | exact S_load_ptr rfl rfl rfl | exact S_load_ptrs rfl rfl rfl | exact S_fieldAddr_rp rfl rfl | exact S_fieldAddr_ptr rfl rfl | exact S_fieldAddr_rptr rfl rfl rfl | exact S_field rfl rfl | exact S_lss rfl rfl | exact S_leq rfl rfl | exact S_gtr rfl rfl | exact S_geq rfl rfl | exact S_eql rfl rfl | exact S_neq rfl rfl | exact S_not rfl | exact S_pick_and rfl rfl rfl | exact S_pick_or rfl rfl rfl | exact I_add rfl rfl (by simp only [InK]; omega) | exact I_add rfl rfl (by simp only [InK]; simp at hg; omega) | exact S_add rfl rfl | exact I_sub rfl rfl (by simp only [InK]; omega) | exact I_sub rfl rfl (by simp only [InK]; simp at hg; omega) | exact S_sub rfl rfl | exact I_mul rfl rfl (by simp only [InK]; omega) | exact S_mul rfl rfl | exact S_quo rfl rfl (by decide) | exact S_rem rfl rfl (by decide) | exact S_len_slice rfl | exact S_len_own rfl rfl | exact S_len_str rfl | exact S_len_nil rfl | exact S_extract rfl rfl | exact I_toInt rfl (by simp only [InK]; omega) | exact W_toInt rfl | exact S_eqlb (BoolI.out) rfl rfl | exact S_neqb (BoolI.out) rfl rfl | exact S_eqls rfl rfl | exact S_eqlA rfl rfl rfl rfl rfl | exact S_neqA rfl rfl rfl rfl rfl | exact S_neqs rfl rfl | exact S_and rfl rfl | exact S_or rfl rfl | exact S_xor rfl rfl | exact S_andNot rfl rfl | exact S_shl rfl rfl (by omega) | exact S_shr rfl rfl (by omega) | exact S_nilCheck_ptr rfl | exact S_nilCheck_rp rfl | exact S_nilCheck_fn rfl | exact S_build rfl | exact S_lit rfl rfl rfl rfl | exact S_min rfl rfl | exact S_max rfl rfl)
    | (apply dpMay rfl rfl (by first | exact fun _ => trivial | exact fun h => ⟨h, trivial⟩ | exact fun h => ⟨h, h, trivial⟩ | exact fun h => ⟨h, h, h, trivial⟩ | exact fun h => ⟨h, h, h, h, trivial⟩); case h => (intro hg; first | exact M_d rfl | exact M_p rfl | exact M_o rfl | exact M_n rfl | exact M_r rfl | exact M_a rfl | exact M_m rfl | exact A_d rfl | exact A_p rfl | exact A_o rfl | exact A_n rfl | exact A_r rfl | exact A_a rfl | exact A_m rfl | exact S_load_rp rfl rfl | exact S_load_ptr rfl rfl rfl | exact S_load_ptrs rfl rfl rfl | exact S_fieldAddr_rp rfl rfl | exact S_fieldAddr_ptr rfl rfl | exact S_fieldAddr_rptr rfl rfl rfl | exact S_field rfl rfl | exact S_lss rfl rfl | exact S_leq rfl rfl | exact S_gtr rfl rfl | exact S_geq rfl rfl | exact S_eql rfl rfl | exact S_neq rfl rfl | exact S_not rfl | exact S_pick_and rfl rfl rfl | exact S_pick_or rfl rfl rfl | exact I_add rfl rfl (by simp only [InK]; omega) | exact I_add rfl rfl (by simp only [InK]; simp at hg; omega) | exact S_add rfl rfl | exact I_sub rfl rfl (by simp only [InK]; omega) | exact I_sub rfl rfl (by simp only [InK]; simp at hg; omega) | exact S_sub rfl rfl | exact I_mul rfl rfl (by simp only [InK]; omega) | exact S_mul rfl rfl | exact S_quo rfl rfl (by decide) | exact S_rem rfl rfl (by decide) | exact S_len_slice rfl | exact S_len_own rfl rfl | exact S_len_str rfl | exact S_len_nil rfl | exact S_extract rfl rfl | exact I_toInt rfl (by simp only [InK]; omega) | exact W_toInt rfl | exact S_eqlb (BoolI.out) rfl rfl | exact S_neqb (BoolI.out) rfl rfl | exact S_eqls rfl rfl | exact S_eqlA rfl rfl rfl rfl rfl | exact S_neqA rfl rfl rfl rfl rfl | exact S_neqs rfl rfl | exact S_and rfl rfl | exact S_or rfl rfl | exact S_xor rfl rfl | exact S_andNot rfl rfl | exact S_shl rfl rfl (by omega) | exact S_shr rfl rfl (by omega) | exact S_nilCheck_ptr rfl | exact S_nilCheck_rp rfl | exact S_nilCheck_fn rfl | exact S_build rfl | exact S_lit rfl rfl rfl rfl | exact S_min rfl rfl | exact S_max rfl rfl))
    | refine dpickAnd rfl rfl rfl rfl rfl ?_ | refine dpickOr rfl rfl rfl rfl rfl ?_
    | (apply dt rfl; case h => first | exact S_alloc _ rfl | exact S_box _ rfl rfl)
    | (apply ds; case h => first | exact S_store rfl rfl rfl rfl rfl rfl)
    | (apply dm rfl; case h => first | exact M_d rfl)
    | fail)
    · simp at hb; omega
    · refine retN (.cellA inferInstance rfl rfl rfl rfl (by first | exact .inl rfl | exact .inr (flat_of rfl)) (.tmp rfl (by first | exact .inl rfl | exact .inr (flat_of rfl)) (.tmp rfl (by first | exact .inl rfl | exact .inr (flat_of rfl)) .nil))) ?_
      rw [List.drop_eq_nil_of_le (by omega)] at hch
      rw [hch]; rfl
end Go.Proofs.Ytcdeielnkmjfhaa
