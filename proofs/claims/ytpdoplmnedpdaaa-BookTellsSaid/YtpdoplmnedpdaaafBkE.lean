/- The laws BookFlush, BookTells. -/
import Derived.Test.YtpdoplmnedpdaaadBkd
namespace Go.Proofs.Ytpdoplmnedpdaaa
open Go.RowKit
theorem flush_right {l : List Ent} (h : rightB l) (p : Int) (ws : List Int) : rightB (flushL l p ws) ∧ (flushL l p ws).length ≤ l.length := by
  have hs : (flushL l p ws).Sublist l := List.filter_sublist
  exact ⟨⟨Nat.le_trans hs.length_le h.n, fun e he => h.w e (hs.subset he), h.s.sublist hs⟩, hs.length_le⟩
theorem sorted_is {l : List Ent} (hs : l.Pairwise (fun x y => x.lt y.vid y.addr)) {x y : Ent} (hx : x ∈ l) (hy : y ∈ l) (h : x.is y.vid y.addr) : x = y := by
  induction l with
  | nil => cases hx
  | cons e r ih =>
    obtain ⟨h1, h2⟩ := List.pairwise_cons.1 hs
    rcases List.mem_cons.1 hx with hxe | hx2 <;> rcases List.mem_cons.1 hy with hye | hy2
    · rw [hxe, hye]
    · subst hxe
      exact absurd h (lt_isnt (h1 y hy2))
    · subst hye
      have := h1 x hx2
      unfold Ent.lt Ent.is at *
      omega
    · exact ih h2 hx2 hy2
theorem flush_look {l : List Ent} (h : rightB l) (p : Int) (ws : List Int) {e : Ent} (he : e ∈ l) : (lookS (flushL l p ws) e.vid e.addr).2 = !(decide (e.vid ∈ ws) && decide (e.port = p)) := by
  by_cases hg : (decide (e.port = p) && decide (e.vid ∈ ws)) = true
  · have hn : ∀ x ∈ flushL l p ws, ¬ x.is e.vid e.addr := fun x hx hi => by
      obtain ⟨h1, h2⟩ := List.mem_filter.1 hx
      have := sorted_is h.s h1 he hi
      subst this
      rw [hg] at h2
      cases h2
    rw [look_new hn, Bool.and_comm, hg]; rfl
  · have hg : (decide (e.port = p) && decide (e.vid ∈ ws)) = false := by simpa using hg
    have hm : e ∈ flushL l p ws := List.mem_filter.2 ⟨he, by rw [hg]; rfl⟩
    rw [Bool.and_comm, hg]
    unfold lookS
    cases hf : (flushL l p ws).find? (fun x => decide (x.is e.vid e.addr)) with
    | none =>
      rw [List.find?_eq_none] at hf
      exact absurd (by simp [Ent.is]) (hf e hm)
    | some x => rfl
theorem gone_step {ws : List Int} {k : Nat} {v : Int} {e : Ent} {p : Int} (h : ws[k]? = some v) : ((decide (e.vid ∈ ws.take k) && decide (e.port = p)) || (decide (v = e.vid) && decide (e.port = p))) = (decide (e.vid ∈ ws.take (k + 1)) && decide (e.port = p)) := by
  have hn : ws.take (k + 1) = ws.take k ++ [v] := by rw [List.take_add_one, h]; rfl
  rw [hn, ← Bool.and_or_distrib_right]
  congr 1
  rw [Bool.eq_iff_iff]
  simp only [Bool.or_eq_true, decide_eq_true_eq, List.mem_append, List.mem_singleton]
  exact or_congr_right ⟨Eq.symm, Eq.symm⟩
attribute [local irreducible] SStep DW DWin DOps thenQ inBlk loopQ retQ retQG FnF FnG Wk IntKind.wrap IntKind.andI IntKind.orI IntKind.xorI IntKind.andNotI IntKind.shlI IntKind.shrI Ent.cmp bsG wrongB oldL learnL lookS lookE flushL learnR
set_option maxHeartbeats 4000000 in
theorem law_BookFlush (l : List Ent) (p : Int) (ws : List Int) : FnF Try.prog 7 [.slice (l.map entV), .int .i64 p, .slice (ws.map intV1)] (.bool true) := by
  refine fnF_of Try.func7 rfl rfl rfl ?_
  simp only [envOf]
  refine DW_len 2 rfl (fun hlw => ?_)
  have hW : FnF Try.prog 16 [.slice (l.map entV)] (.agg [.int .i64 (wrongB l).1, .int .i64 (wrongB l).2]) := book_Wrong l
  by_cases hw : (wrongB l).1 = 0
  case neg =>
    repeat' (first
    | refine DW_seq ?_
    | refine DW_region ?_
    | refine DW_draw ?_
    | refine dnilP ?_
    | refine dnilD (by kernel_rfl) ?_
    | refine then_normal ?_
    | refine then_exit ?_
    | refine then_ret ?_
    | refine DW_block ?_
    | refine blk_normal ?_
    | refine blk_ret ?_
    | refine blk_hit rfl ?_
    | refine blk_miss rfl ?_
    | refine loop_exit ?_
    | refine loop_ret ?_
    | refine DW_ret ?_
    | refine DW_exit ?_
    | refine DW_skip ?_
    | refine DW_cond_t rfl ?_
    | refine DW_cond_f rfl ?_
    | (apply dpC rfl; case h => first | exact S_call alive8 rfl | exact S_call hW rfl | exact S_len_slice rfl | exact S_len_own rfl rfl | exact S_len_str rfl | exact S_len_nil rfl | exact S_min rfl rfl | exact S_max rfl rfl)
    | refine dpOff rfl rfl ?_
    | ((first | apply dp rfl | apply dpOn rfl rfl | apply dpMay rfl rfl (by first | exact fun _ => trivial | exact fun h => ⟨h, trivial⟩ | exact fun h => ⟨h, h, trivial⟩ | exact fun h => ⟨h, h, h, trivial⟩ | exact fun h => ⟨h, h, h, h, trivial⟩)); case h => ((try intro hg); first | exact as_bool (S_neq rfl rfl) (decide_eq_true hw) | exact M_d rfl | exact M_p rfl | exact M_o rfl | exact M_n rfl | exact M_r rfl | exact M_a rfl | exact M_m rfl | exact A_d rfl | exact A_p rfl | exact A_o rfl | exact A_n rfl | exact A_r rfl | exact A_a rfl | exact A_m rfl | exact S_load_rp rfl rfl | exact S_load_ptr rfl rfl rfl | exact S_load_ptrs rfl rfl rfl | exact S_fieldAddr_rp rfl rfl | exact S_fieldAddr_ptr rfl rfl | exact S_fieldAddr_rptr rfl rfl rfl | exact S_field rfl rfl | exact S_lss rfl rfl | exact S_leq rfl rfl | exact S_gtr rfl rfl | exact S_geq rfl rfl | exact S_eql rfl rfl | exact S_neq rfl rfl | exact S_not rfl | exact S_pick_T rfl rfl | exact S_pick_F rfl rfl | exact S_pick_and rfl rfl rfl | exact S_pick_or rfl rfl rfl | exact I_add rfl rfl (by simp only [InK]; omega) | exact I_add rfl rfl (by simp only [InK]; simp at hg; omega) | exact S_add rfl rfl | exact I_sub rfl rfl (by simp only [InK]; omega) | exact I_sub rfl rfl (by simp only [InK]; simp at hg; omega) | exact S_sub rfl rfl | exact I_mul rfl rfl (by simp only [InK]; omega) | exact S_mul rfl rfl | exact S_quo rfl rfl (by decide) | exact S_rem rfl rfl (by decide) | exact S_extract rfl rfl | exact I_toInt rfl (by simp only [InK]; omega) | exact W_toInt rfl | exact S_eqlb (BoolI.out) rfl rfl | exact S_neqb (BoolI.out) rfl rfl | exact S_eqls rfl rfl | exact S_eqlA rfl rfl rfl rfl rfl | exact S_neqA rfl rfl rfl rfl rfl | exact S_neqs rfl rfl | exact S_and rfl rfl | exact S_or rfl rfl | exact S_xor rfl rfl | exact S_andNot rfl rfl | exact S_shl rfl rfl (by omega) | exact S_shr rfl rfl (by omega) | exact S_nilCheck_ptr rfl | exact S_nilCheck_rp rfl | exact S_nilCheck_fn rfl | exact S_build rfl | exact S_buildA rfl | exact S_lit rfl rfl rfl rfl | exact S_load_rptr rfl rfl rfl rfl | exact S_field_aggd rfl rfl | exact S_makeFunc rfl | exact S_eqNilT rfl | exact S_ix_slice rfl rfl (by decide) rfl rfl | exact S_ix_arr_ptr rfl rfl (by decide) (by decide) | exact S_index_aggd rfl rfl (by decide) (by decide) rfl | exact S_call alive8 rfl | exact S_call hW rfl | exact S_len_slice rfl | exact S_len_own rfl rfl | exact S_len_str rfl | exact S_len_nil rfl | exact S_min rfl rfl | exact S_max rfl rfl))
    | refine dpickAnd rfl rfl rfl rfl rfl ?_ | refine dpickOr rfl rfl rfl rfl rfl ?_
    | (apply dt rfl; case h => first | exact as_bool (S_neq rfl rfl) (decide_eq_true hw) | exact S_alloc _ rfl | exact S_box _ rfl rfl)
    | (apply ds; case h => first | exact as_bool (S_neq rfl rfl) (decide_eq_true hw) | exact S_store rfl rfl rfl rfl rfl rfl)
    | (apply dm rfl; case h => first | exact as_bool (S_neq rfl rfl) (decide_eq_true hw) | exact M_d rfl | exact S_alloc 2001 rfl | exact S_alloc 2002 rfl | exact S_alloc 2003 rfl | exact S_alloc 2004 rfl | exact S_alloc 2005 rfl)
    | fail)
    exact ret1 rfl (.inl rfl) rfl
  have hr := right_of hw
  have hWr := book_WrongR hr
  have h30 := hr.n
  obtain ⟨mr, ml⟩ := flush_right hr p ws
  have c1 := book_Flush l p ws (by omega)
  have hWm := book_WrongR mr
  have hlk : ∀ e ∈ l, _ := fun e he => flush_look hr p ws (e := e) he
  have hk := fun v a => book_Look2 mr v a
  generalize flushL l p ws = m at *
  have n1 : (l.map entV).length = l.length := by simp
  have n2 : (m.map entV).length = m.length := by simp
  have n3 : (ws.map intV1).length = ws.length := by simp
  repeat' (first
    | refine DW_seq ?_
    | refine DW_region ?_
    | refine DW_draw ?_
    | refine dnilP ?_
    | refine dnilD (by kernel_rfl) ?_
    | refine then_normal ?_
    | refine then_exit ?_
    | refine then_ret ?_
    | refine DW_block ?_
    | refine blk_normal ?_
    | refine blk_ret ?_
    | refine blk_hit rfl ?_
    | refine blk_miss rfl ?_
    | refine loop_exit ?_
    | refine loop_ret ?_
    | refine DW_ret ?_
    | refine DW_exit ?_
    | refine DW_skip ?_
    | refine DW_cond_t rfl ?_
    | refine DW_cond_f rfl ?_
    | (apply dpC rfl; case h => first | exact S_call alive8 rfl | exact S_call hWr rfl | exact S_call c1 rfl | exact S_len_slice rfl | exact S_len_own rfl rfl | exact S_len_str rfl | exact S_len_nil rfl | exact S_min rfl rfl | exact S_max rfl rfl)
    | refine dpOff rfl rfl ?_
    | ((first | apply dp rfl | apply dpOn rfl rfl | apply dpMay rfl rfl (by first | exact fun _ => trivial | exact fun h => ⟨h, trivial⟩ | exact fun h => ⟨h, h, trivial⟩ | exact fun h => ⟨h, h, h, trivial⟩ | exact fun h => ⟨h, h, h, h, trivial⟩)); case h => ((try intro hg); first | exact as_bool (S_neq rfl rfl) (ne_self _) | exact M_d rfl | exact M_p rfl | exact M_o rfl | exact M_n rfl | exact M_r rfl | exact M_a rfl | exact M_m rfl | exact A_d rfl | exact A_p rfl | exact A_o rfl | exact A_n rfl | exact A_r rfl | exact A_a rfl | exact A_m rfl | exact S_load_rp rfl rfl | exact S_load_ptr rfl rfl rfl | exact S_load_ptrs rfl rfl rfl | exact S_fieldAddr_rp rfl rfl | exact S_fieldAddr_ptr rfl rfl | exact S_fieldAddr_rptr rfl rfl rfl | exact S_field rfl rfl | exact S_lss rfl rfl | exact S_leq rfl rfl | exact S_gtr rfl rfl | exact S_geq rfl rfl | exact S_eql rfl rfl | exact S_neq rfl rfl | exact S_not rfl | exact S_pick_T rfl rfl | exact S_pick_F rfl rfl | exact S_pick_and rfl rfl rfl | exact S_pick_or rfl rfl rfl | exact I_add rfl rfl (by simp only [InK]; omega) | exact I_add rfl rfl (by simp only [InK]; simp at hg; omega) | exact S_add rfl rfl | exact I_sub rfl rfl (by simp only [InK]; omega) | exact I_sub rfl rfl (by simp only [InK]; simp at hg; omega) | exact S_sub rfl rfl | exact I_mul rfl rfl (by simp only [InK]; omega) | exact S_mul rfl rfl | exact S_quo rfl rfl (by decide) | exact S_rem rfl rfl (by decide) | exact S_extract rfl rfl | exact I_toInt rfl (by simp only [InK]; omega) | exact W_toInt rfl | exact S_eqlb (BoolI.out) rfl rfl | exact S_neqb (BoolI.out) rfl rfl | exact S_eqls rfl rfl | exact S_eqlA rfl rfl rfl rfl rfl | exact S_neqA rfl rfl rfl rfl rfl | exact S_neqs rfl rfl | exact S_and rfl rfl | exact S_or rfl rfl | exact S_xor rfl rfl | exact S_andNot rfl rfl | exact S_shl rfl rfl (by omega) | exact S_shr rfl rfl (by omega) | exact S_nilCheck_ptr rfl | exact S_nilCheck_rp rfl | exact S_nilCheck_fn rfl | exact S_build rfl | exact S_buildA rfl | exact S_lit rfl rfl rfl rfl | exact S_load_rptr rfl rfl rfl rfl | exact S_field_aggd rfl rfl | exact S_makeFunc rfl | exact S_eqNilT rfl | exact S_ix_slice rfl rfl (by decide) rfl rfl | exact S_ix_arr_ptr rfl rfl (by decide) (by decide) | exact S_index_aggd rfl rfl (by decide) (by decide) rfl | exact S_call alive8 rfl | exact S_call hWr rfl | exact S_call c1 rfl | exact S_len_slice rfl | exact S_len_own rfl rfl | exact S_len_str rfl | exact S_len_nil rfl | exact S_min rfl rfl | exact S_max rfl rfl))
    | refine dpickAnd rfl rfl rfl rfl rfl ?_ | refine dpickOr rfl rfl rfl rfl rfl ?_
    | (apply dt rfl; case h => first | exact as_bool (S_neq rfl rfl) (ne_self _) | exact S_alloc _ rfl | exact S_box _ rfl rfl)
    | (apply ds; case h => first | exact as_bool (S_neq rfl rfl) (ne_self _) | exact S_store rfl rfl rfl rfl rfl rfl)
    | (apply dm rfl; case h => first | exact as_bool (S_neq rfl rfl) (ne_self _) | exact M_d rfl | exact S_alloc 2001 rfl | exact S_alloc 2002 rfl | exact S_alloc 2003 rfl | exact S_alloc 2004 rfl | exact S_alloc 2005 rfl)
    | fail)
  refine DW_loop (fun k : Nat => ⟨[(0, .dat false (.slice (l.map entV))), (1, .dat false (.int .i64 p)), (2, .dat false (.slice (ws.map intV1))), (7, .dat true (.slice (m.map entV))), (25, .dat false (.slice (l.map entV))), (26, .dat true (.int .i64 (l.map entV).length)), (27, .dat true (.int .i64 k))], [], 75⟩)
    (fun k => k ≤ l.length) (fun k => l.length - k) 0 (Nat.zero_le _)
    (Wk_gen some rfl rfl (by (repeat' (first | exact trivial | rfl | exact listLe_map _ | exact ⟨_, rfl, .inl rfl⟩ | exact ⟨_, rfl, .inr (.inl rfl)⟩ | exact ⟨_, rfl, .inr (.inr rfl)⟩ | refine ⟨_, _, rfl, rfl, ?_⟩ | exact ⟨_, rfl, rfl⟩ | exact ⟨_, _, _, _, rfl, rfl, rfl⟩ | exact ⟨_, rfl⟩ | exact ⟨_, _, rfl⟩ | apply And.intro))) (by (repeat' (first | exact trivial | rfl | exact listLe_map _ | exact ⟨_, rfl, .inl rfl⟩ | exact ⟨_, rfl, .inr (.inl rfl)⟩ | exact ⟨_, rfl, .inr (.inr rfl)⟩ | refine ⟨_, _, rfl, rfl, ?_⟩ | exact ⟨_, rfl, rfl⟩ | exact ⟨_, _, _, _, rfl, rfl, rfl⟩ | exact ⟨_, rfl⟩ | exact ⟨_, _, rfl⟩ | apply And.intro)))) (fun k hk1 => ?_)
  by_cases hlt : k < l.length
  · have hx : l[(k : Int).toNat]? = some l[k] := by simp [hlt]
    have hmem : l[k] ∈ l := List.getElem_mem hlt
    generalize l[k] = e at hx hmem
    have hok := hlk e hmem
    repeat' (first
    | refine DW_seq ?_
    | refine DW_region ?_
    | refine DW_draw ?_
    | refine dnilP ?_
    | refine dnilD (by kernel_rfl) ?_
    | refine then_normal ?_
    | refine then_exit ?_
    | refine then_ret ?_
    | refine DW_block ?_
    | refine blk_normal ?_
    | refine blk_ret ?_
    | refine blk_hit rfl ?_
    | refine blk_miss rfl ?_
    | refine loop_exit ?_
    | refine loop_ret ?_
    | refine DW_ret ?_
    | refine DW_exit ?_
    | refine DW_skip ?_
    | refine DW_cond_t rfl ?_
    | refine DW_cond_f rfl ?_
    | (apply dpC rfl; case h => first | exact S_len_slice rfl | exact S_len_own rfl rfl | exact S_len_str rfl | exact S_len_nil rfl | exact S_min rfl rfl | exact S_max rfl rfl)
    | refine dpOff rfl rfl ?_
    | ((first | apply dp rfl | apply dpOn rfl rfl | apply dpMay rfl rfl (by first | exact fun _ => trivial | exact fun h => ⟨h, trivial⟩ | exact fun h => ⟨h, h, trivial⟩ | exact fun h => ⟨h, h, h, trivial⟩ | exact fun h => ⟨h, h, h, h, trivial⟩)); case h => ((try intro hg); first | exact as_bool (S_lss rfl rfl) (decide_eq_true (by omega : (k : Int) < ((l.map entV).length : Int))) | exact S_ixM rfl rfl (by omega) hx | exact M_d rfl | exact M_p rfl | exact M_o rfl | exact M_n rfl | exact M_r rfl | exact M_a rfl | exact M_m rfl | exact A_d rfl | exact A_p rfl | exact A_o rfl | exact A_n rfl | exact A_r rfl | exact A_a rfl | exact A_m rfl | exact S_load_rp rfl rfl | exact S_load_ptr rfl rfl rfl | exact S_load_ptrs rfl rfl rfl | exact S_fieldAddr_rp rfl rfl | exact S_fieldAddr_ptr rfl rfl | exact S_fieldAddr_rptr rfl rfl rfl | exact S_field rfl rfl | exact S_lss rfl rfl | exact S_leq rfl rfl | exact S_gtr rfl rfl | exact S_geq rfl rfl | exact S_eql rfl rfl | exact S_neq rfl rfl | exact S_not rfl | exact S_pick_T rfl rfl | exact S_pick_F rfl rfl | exact S_pick_and rfl rfl rfl | exact S_pick_or rfl rfl rfl | exact I_add rfl rfl (by simp only [InK]; omega) | exact I_add rfl rfl (by simp only [InK]; simp at hg; omega) | exact S_add rfl rfl | exact I_sub rfl rfl (by simp only [InK]; omega) | exact I_sub rfl rfl (by simp only [InK]; simp at hg; omega) | exact S_sub rfl rfl | exact I_mul rfl rfl (by simp only [InK]; omega) | exact S_mul rfl rfl | exact S_quo rfl rfl (by decide) | exact S_rem rfl rfl (by decide) | exact S_extract rfl rfl | exact I_toInt rfl (by simp only [InK]; omega) | exact W_toInt rfl | exact S_eqlb (BoolI.out) rfl rfl | exact S_neqb (BoolI.out) rfl rfl | exact S_eqls rfl rfl | exact S_eqlA rfl rfl rfl rfl rfl | exact S_neqA rfl rfl rfl rfl rfl | exact S_neqs rfl rfl | exact S_and rfl rfl | exact S_or rfl rfl | exact S_xor rfl rfl | exact S_andNot rfl rfl | exact S_shl rfl rfl (by omega) | exact S_shr rfl rfl (by omega) | exact S_nilCheck_ptr rfl | exact S_nilCheck_rp rfl | exact S_nilCheck_fn rfl | exact S_build rfl | exact S_buildA rfl | exact S_lit rfl rfl rfl rfl | exact S_load_rptr rfl rfl rfl rfl | exact S_field_aggd rfl rfl | exact S_makeFunc rfl | exact S_eqNilT rfl | exact S_ix_slice rfl rfl (by decide) rfl rfl | exact S_ix_arr_ptr rfl rfl (by decide) (by decide) | exact S_index_aggd rfl rfl (by decide) (by decide) rfl | exact S_len_slice rfl | exact S_len_own rfl rfl | exact S_len_str rfl | exact S_len_nil rfl | exact S_min rfl rfl | exact S_max rfl rfl))
    | refine dpickAnd rfl rfl rfl rfl rfl ?_ | refine dpickOr rfl rfl rfl rfl rfl ?_
    | (apply dt rfl; case h => first | exact as_bool (S_lss rfl rfl) (decide_eq_true (by omega : (k : Int) < ((l.map entV).length : Int))) | exact S_ixM rfl rfl (by omega) hx | exact S_alloc _ rfl | exact S_box _ rfl rfl)
    | (apply ds; case h => first | exact as_bool (S_lss rfl rfl) (decide_eq_true (by omega : (k : Int) < ((l.map entV).length : Int))) | exact S_ixM rfl rfl (by omega) hx | exact S_store rfl rfl rfl rfl rfl rfl)
    | (apply dm rfl; case h => first | exact as_bool (S_lss rfl rfl) (decide_eq_true (by omega : (k : Int) < ((l.map entV).length : Int))) | exact S_ixM rfl rfl (by omega) hx | exact M_d rfl | exact S_alloc 2001 rfl | exact S_alloc 2002 rfl | exact S_alloc 2003 rfl | exact S_alloc 2004 rfl | exact S_alloc 2005 rfl)
    | fail)
    refine DW_loop (fun q : Nat × Bool => ⟨[(0, .dat false (.slice (l.map entV))), (1, .dat false (.int .i64 p)), (2, .dat false (.slice (ws.map intV1))), (7, .dat true (.slice (m.map entV))), (9, .ptr 9 0), (10, .dat true (.bool q.2)), (25, .dat false (.slice (l.map entV))), (26, .dat true (.int .i64 (l.map entV).length)), (27, .dat true (.int .i64 k)),
        (31, .dat false (.slice (ws.map intV1))), (32, .dat true (.int .i64 (ws.map intV1).length)), (33, .dat true (.int .i64 q.1))], [(9, .cells false true ((entV e).map (.dat false)))], 75⟩)
      (fun q => q.1 ≤ ws.length ∧ q.2 = (decide (e.vid ∈ ws.take q.1) && decide (e.port = p))) (fun q => ws.length - q.1) (0, false) ⟨Nat.zero_le _, rfl⟩
      (Wk_gen some rfl rfl (by (repeat' (first | exact trivial | rfl | exact listLe_map _ | exact ⟨_, rfl, .inl rfl⟩ | exact ⟨_, rfl, .inr (.inl rfl)⟩ | exact ⟨_, rfl, .inr (.inr rfl)⟩ | refine ⟨_, _, rfl, rfl, ?_⟩ | exact ⟨_, rfl, rfl⟩ | exact ⟨_, _, _, _, rfl, rfl, rfl⟩ | exact ⟨_, rfl⟩ | exact ⟨_, _, rfl⟩ | apply And.intro))) (by (repeat' (first | exact trivial | rfl | exact listLe_map _ | exact ⟨_, rfl, .inl rfl⟩ | exact ⟨_, rfl, .inr (.inl rfl)⟩ | exact ⟨_, rfl, .inr (.inr rfl)⟩ | refine ⟨_, _, rfl, rfl, ?_⟩ | exact ⟨_, rfl, rfl⟩ | exact ⟨_, _, _, _, rfl, rfl, rfl⟩ | exact ⟨_, rfl⟩ | exact ⟨_, _, rfl⟩ | apply And.intro)))) (fun q hR => ?_)
    obtain ⟨j, g⟩ := q
    obtain ⟨hj, hg⟩ := hR
    simp only at hj hg
    dsimp only
    by_cases hlj : j < ws.length
    · have hy : ws[(j : Int).toNat]? = some ws[j] := by simp [hlj]
      have hy' : ws[j]? = some ws[j] := by simp [hlj]
      generalize ws[j] = v at hy hy'
      repeat' (first
    | refine DW_seq ?_
    | refine DW_region ?_
    | refine DW_draw ?_
    | refine dnilP ?_
    | refine dnilD (by kernel_rfl) ?_
    | refine then_normal ?_
    | refine then_exit ?_
    | refine then_ret ?_
    | refine DW_block ?_
    | refine blk_normal ?_
    | refine blk_ret ?_
    | refine blk_hit rfl ?_
    | refine blk_miss rfl ?_
    | refine loop_exit ?_
    | refine loop_ret ?_
    | refine DW_ret ?_
    | refine DW_exit ?_
    | refine DW_skip ?_
    | refine DW_cond_t rfl ?_
    | refine DW_cond_f rfl ?_
    | (apply dpC rfl; case h => first | exact S_len_slice rfl | exact S_len_own rfl rfl | exact S_len_str rfl | exact S_len_nil rfl | exact S_min rfl rfl | exact S_max rfl rfl)
    | refine dpOff rfl rfl ?_
    | ((first | apply dp rfl | apply dpOn rfl rfl | apply dpMay rfl rfl (by first | exact fun _ => trivial | exact fun h => ⟨h, trivial⟩ | exact fun h => ⟨h, h, trivial⟩ | exact fun h => ⟨h, h, h, trivial⟩ | exact fun h => ⟨h, h, h, h, trivial⟩)); case h => ((try intro hg); first | exact as_bool (S_lss rfl rfl) (decide_eq_true (by omega : (j : Int) < ((ws.map intV1).length : Int))) | exact S_ixM rfl rfl (by omega) hy | exact M_d rfl | exact M_p rfl | exact M_o rfl | exact M_n rfl | exact M_r rfl | exact M_a rfl | exact M_m rfl | exact A_d rfl | exact A_p rfl | exact A_o rfl | exact A_n rfl | exact A_r rfl | exact A_a rfl | exact A_m rfl | exact S_load_rp rfl rfl | exact S_load_ptr rfl rfl rfl | exact S_load_ptrs rfl rfl rfl | exact S_fieldAddr_rp rfl rfl | exact S_fieldAddr_ptr rfl rfl | exact S_fieldAddr_rptr rfl rfl rfl | exact S_field rfl rfl | exact S_lss rfl rfl | exact S_leq rfl rfl | exact S_gtr rfl rfl | exact S_geq rfl rfl | exact S_eql rfl rfl | exact S_neq rfl rfl | exact S_not rfl | exact S_pick_T rfl rfl | exact S_pick_F rfl rfl | exact S_pick_and rfl rfl rfl | exact S_pick_or rfl rfl rfl | exact I_add rfl rfl (by simp only [InK]; omega) | exact I_add rfl rfl (by simp only [InK]; simp at hg; omega) | exact S_add rfl rfl | exact I_sub rfl rfl (by simp only [InK]; omega) | exact I_sub rfl rfl (by simp only [InK]; simp at hg; omega) | exact S_sub rfl rfl | exact I_mul rfl rfl (by simp only [InK]; omega) | exact S_mul rfl rfl | exact S_quo rfl rfl (by decide) | exact S_rem rfl rfl (by decide) | exact S_extract rfl rfl | exact I_toInt rfl (by simp only [InK]; omega) | exact W_toInt rfl | exact S_eqlb (BoolI.out) rfl rfl | exact S_neqb (BoolI.out) rfl rfl | exact S_eqls rfl rfl | exact S_eqlA rfl rfl rfl rfl rfl | exact S_neqA rfl rfl rfl rfl rfl | exact S_neqs rfl rfl | exact S_and rfl rfl | exact S_or rfl rfl | exact S_xor rfl rfl | exact S_andNot rfl rfl | exact S_shl rfl rfl (by omega) | exact S_shr rfl rfl (by omega) | exact S_nilCheck_ptr rfl | exact S_nilCheck_rp rfl | exact S_nilCheck_fn rfl | exact S_build rfl | exact S_buildA rfl | exact S_lit rfl rfl rfl rfl | exact S_load_rptr rfl rfl rfl rfl | exact S_field_aggd rfl rfl | exact S_makeFunc rfl | exact S_eqNilT rfl | exact S_ix_slice rfl rfl (by decide) rfl rfl | exact S_ix_arr_ptr rfl rfl (by decide) (by decide) | exact S_index_aggd rfl rfl (by decide) (by decide) rfl | exact S_len_slice rfl | exact S_len_own rfl rfl | exact S_len_str rfl | exact S_len_nil rfl | exact S_min rfl rfl | exact S_max rfl rfl))
    | refine dpickAnd rfl rfl rfl rfl rfl ?_ | refine dpickOr rfl rfl rfl rfl rfl ?_
    | (apply dt rfl; case h => first | exact as_bool (S_lss rfl rfl) (decide_eq_true (by omega : (j : Int) < ((ws.map intV1).length : Int))) | exact S_ixM rfl rfl (by omega) hy | exact S_alloc _ rfl | exact S_box _ rfl rfl)
    | (apply ds; case h => first | exact as_bool (S_lss rfl rfl) (decide_eq_true (by omega : (j : Int) < ((ws.map intV1).length : Int))) | exact S_ixM rfl rfl (by omega) hy | exact S_store rfl rfl rfl rfl rfl rfl)
    | (apply dm rfl; case h => first | exact as_bool (S_lss rfl rfl) (decide_eq_true (by omega : (j : Int) < ((ws.map intV1).length : Int))) | exact S_ixM rfl rfl (by omega) hy | exact M_d rfl | exact S_alloc 2001 rfl | exact S_alloc 2002 rfl | exact S_alloc 2003 rfl | exact S_alloc 2004 rfl | exact S_alloc 2005 rfl)
    | fail)
      exact loop_again (j + 1, g || (decide (v = e.vid) && decide (e.port = p))) ⟨hlj, by simp only; rw [hg]; exact gone_step hy'⟩ (by simp only; omega) (Wk_gen some rfl rfl (by (repeat' (first | exact trivial | rfl | exact listLe_map _ | exact ⟨_, rfl, .inl rfl⟩ | exact ⟨_, rfl, .inr (.inl rfl)⟩ | exact ⟨_, rfl, .inr (.inr rfl)⟩ | refine ⟨_, _, rfl, rfl, ?_⟩ | exact ⟨_, rfl, rfl⟩ | exact ⟨_, _, _, _, rfl, rfl, rfl⟩ | exact ⟨_, rfl⟩ | exact ⟨_, _, rfl⟩ | apply And.intro))) (by (repeat' (first | exact trivial | rfl | exact listLe_map _ | exact ⟨_, rfl, .inl rfl⟩ | exact ⟨_, rfl, .inr (.inl rfl)⟩ | exact ⟨_, rfl, .inr (.inr rfl)⟩ | refine ⟨_, _, rfl, rfl, ?_⟩ | exact ⟨_, rfl, rfl⟩ | exact ⟨_, _, _, _, rfl, rfl, rfl⟩ | exact ⟨_, rfl⟩ | exact ⟨_, _, rfl⟩ | apply And.intro))))
    · rw [List.take_of_length_le (by omega)] at hg
      rw [← hg] at hok
      have hkk := hk e.vid e.addr
      rw [hok] at hkk
      have hq : ((!g) == g) = false := by cases g <;> rfl
      repeat' (first
    | refine DW_seq ?_
    | refine DW_region ?_
    | refine DW_draw ?_
    | refine dnilP ?_
    | refine dnilD (by kernel_rfl) ?_
    | refine then_normal ?_
    | refine then_exit ?_
    | refine then_ret ?_
    | refine DW_block ?_
    | refine blk_normal ?_
    | refine blk_ret ?_
    | refine blk_hit rfl ?_
    | refine blk_miss rfl ?_
    | refine loop_exit ?_
    | refine loop_ret ?_
    | refine DW_ret ?_
    | refine DW_exit ?_
    | refine DW_skip ?_
    | refine DW_cond_t rfl ?_
    | refine DW_cond_f rfl ?_
    | (apply dpC rfl; case h => first | exact S_call hkk rfl | exact S_len_slice rfl | exact S_len_own rfl rfl | exact S_len_str rfl | exact S_len_nil rfl | exact S_min rfl rfl | exact S_max rfl rfl)
    | refine dpOff rfl rfl ?_
    | ((first | apply dp rfl | apply dpOn rfl rfl | apply dpMay rfl rfl (by first | exact fun _ => trivial | exact fun h => ⟨h, trivial⟩ | exact fun h => ⟨h, h, trivial⟩ | exact fun h => ⟨h, h, h, trivial⟩ | exact fun h => ⟨h, h, h, h, trivial⟩)); case h => ((try intro hg); first | exact as_bool (S_lss rfl rfl) (decide_eq_false (by omega : ¬ (j : Int) < ((ws.map intV1).length : Int))) | exact as_bool (S_eqlb (BoolI.out) rfl rfl) hq | exact M_d rfl | exact M_p rfl | exact M_o rfl | exact M_n rfl | exact M_r rfl | exact M_a rfl | exact M_m rfl | exact A_d rfl | exact A_p rfl | exact A_o rfl | exact A_n rfl | exact A_r rfl | exact A_a rfl | exact A_m rfl | exact S_load_rp rfl rfl | exact S_load_ptr rfl rfl rfl | exact S_load_ptrs rfl rfl rfl | exact S_fieldAddr_rp rfl rfl | exact S_fieldAddr_ptr rfl rfl | exact S_fieldAddr_rptr rfl rfl rfl | exact S_field rfl rfl | exact S_lss rfl rfl | exact S_leq rfl rfl | exact S_gtr rfl rfl | exact S_geq rfl rfl | exact S_eql rfl rfl | exact S_neq rfl rfl | exact S_not rfl | exact S_pick_T rfl rfl | exact S_pick_F rfl rfl | exact S_pick_and rfl rfl rfl | exact S_pick_or rfl rfl rfl | exact I_add rfl rfl (by simp only [InK]; omega) | exact I_add rfl rfl (by simp only [InK]; simp at hg; omega) | exact S_add rfl rfl | exact I_sub rfl rfl (by simp only [InK]; omega) | exact I_sub rfl rfl (by simp only [InK]; simp at hg; omega) | exact S_sub rfl rfl | exact I_mul rfl rfl (by simp only [InK]; omega) | exact S_mul rfl rfl | exact S_quo rfl rfl (by decide) | exact S_rem rfl rfl (by decide) | exact S_extract rfl rfl | exact I_toInt rfl (by simp only [InK]; omega) | exact W_toInt rfl | exact S_eqlb (BoolI.out) rfl rfl | exact S_neqb (BoolI.out) rfl rfl | exact S_eqls rfl rfl | exact S_eqlA rfl rfl rfl rfl rfl | exact S_neqA rfl rfl rfl rfl rfl | exact S_neqs rfl rfl | exact S_and rfl rfl | exact S_or rfl rfl | exact S_xor rfl rfl | exact S_andNot rfl rfl | exact S_shl rfl rfl (by omega) | exact S_shr rfl rfl (by omega) | exact S_nilCheck_ptr rfl | exact S_nilCheck_rp rfl | exact S_nilCheck_fn rfl | exact S_build rfl | exact S_buildA rfl | exact S_lit rfl rfl rfl rfl | exact S_load_rptr rfl rfl rfl rfl | exact S_field_aggd rfl rfl | exact S_makeFunc rfl | exact S_eqNilT rfl | exact S_ix_slice rfl rfl (by decide) rfl rfl | exact S_ix_arr_ptr rfl rfl (by decide) (by decide) | exact S_index_aggd rfl rfl (by decide) (by decide) rfl | exact S_call hkk rfl | exact S_len_slice rfl | exact S_len_own rfl rfl | exact S_len_str rfl | exact S_len_nil rfl | exact S_min rfl rfl | exact S_max rfl rfl))
    | refine dpickAnd rfl rfl rfl rfl rfl ?_ | refine dpickOr rfl rfl rfl rfl rfl ?_
    | (apply dt rfl; case h => first | exact as_bool (S_lss rfl rfl) (decide_eq_false (by omega : ¬ (j : Int) < ((ws.map intV1).length : Int))) | exact as_bool (S_eqlb (BoolI.out) rfl rfl) hq | exact S_alloc _ rfl | exact S_box _ rfl rfl)
    | (apply ds; case h => first | exact as_bool (S_lss rfl rfl) (decide_eq_false (by omega : ¬ (j : Int) < ((ws.map intV1).length : Int))) | exact as_bool (S_eqlb (BoolI.out) rfl rfl) hq | exact S_store rfl rfl rfl rfl rfl rfl)
    | (apply dm rfl; case h => first | exact as_bool (S_lss rfl rfl) (decide_eq_false (by omega : ¬ (j : Int) < ((ws.map intV1).length : Int))) | exact as_bool (S_eqlb (BoolI.out) rfl rfl) hq | exact M_d rfl | exact S_alloc 2001 rfl | exact S_alloc 2002 rfl | exact S_alloc 2003 rfl | exact S_alloc 2004 rfl | exact S_alloc 2005 rfl)
    | fail)
      exact loop_again (k + 1) hlt (by omega) (Wk_gen some rfl rfl (by (repeat' (first | exact trivial | rfl | exact listLe_map _ | exact ⟨_, rfl, .inl rfl⟩ | exact ⟨_, rfl, .inr (.inl rfl)⟩ | exact ⟨_, rfl, .inr (.inr rfl)⟩ | refine ⟨_, _, rfl, rfl, ?_⟩ | exact ⟨_, rfl, rfl⟩ | exact ⟨_, _, _, _, rfl, rfl, rfl⟩ | exact ⟨_, rfl⟩ | exact ⟨_, _, rfl⟩ | apply And.intro))) (by (repeat' (first | exact trivial | rfl | exact listLe_map _ | exact ⟨_, rfl, .inl rfl⟩ | exact ⟨_, rfl, .inr (.inl rfl)⟩ | exact ⟨_, rfl, .inr (.inr rfl)⟩ | refine ⟨_, _, rfl, rfl, ?_⟩ | exact ⟨_, rfl, rfl⟩ | exact ⟨_, _, _, _, rfl, rfl, rfl⟩ | exact ⟨_, rfl⟩ | exact ⟨_, _, rfl⟩ | apply And.intro))))
  · repeat' (first
    | refine DW_seq ?_
    | refine DW_region ?_
    | refine DW_draw ?_
    | refine dnilP ?_
    | refine dnilD (by kernel_rfl) ?_
    | refine then_normal ?_
    | refine then_exit ?_
    | refine then_ret ?_
    | refine DW_block ?_
    | refine blk_normal ?_
    | refine blk_ret ?_
    | refine blk_hit rfl ?_
    | refine blk_miss rfl ?_
    | refine loop_exit ?_
    | refine loop_ret ?_
    | refine DW_ret ?_
    | refine DW_exit ?_
    | refine DW_skip ?_
    | refine DW_cond_t rfl ?_
    | refine DW_cond_f rfl ?_
    | (apply dpC rfl; case h => first | exact S_call hWm rfl | exact S_len_slice rfl | exact S_len_own rfl rfl | exact S_len_str rfl | exact S_len_nil rfl | exact S_min rfl rfl | exact S_max rfl rfl)
    | refine dpOff rfl rfl ?_
    | ((first | apply dp rfl | apply dpOn rfl rfl | apply dpMay rfl rfl (by first | exact fun _ => trivial | exact fun h => ⟨h, trivial⟩ | exact fun h => ⟨h, h, trivial⟩ | exact fun h => ⟨h, h, h, trivial⟩ | exact fun h => ⟨h, h, h, h, trivial⟩)); case h => ((try intro hg); first | exact as_bool (S_lss rfl rfl) (decide_eq_false (by omega : ¬ (k : Int) < ((l.map entV).length : Int))) | exact as_bool (S_eql rfl rfl) (eq_self _) | exact as_bool (S_leq rfl rfl) (decide_eq_true (by omega : ((m.map entV).length : Int) ≤ ((l.map entV).length : Int))) | exact M_d rfl | exact M_p rfl | exact M_o rfl | exact M_n rfl | exact M_r rfl | exact M_a rfl | exact M_m rfl | exact A_d rfl | exact A_p rfl | exact A_o rfl | exact A_n rfl | exact A_r rfl | exact A_a rfl | exact A_m rfl | exact S_load_rp rfl rfl | exact S_load_ptr rfl rfl rfl | exact S_load_ptrs rfl rfl rfl | exact S_fieldAddr_rp rfl rfl | exact S_fieldAddr_ptr rfl rfl | exact S_fieldAddr_rptr rfl rfl rfl | exact S_field rfl rfl | exact S_lss rfl rfl | exact S_leq rfl rfl | exact S_gtr rfl rfl | exact S_geq rfl rfl | exact S_eql rfl rfl | exact S_neq rfl rfl | exact S_not rfl | exact S_pick_T rfl rfl | exact S_pick_F rfl rfl | exact S_pick_and rfl rfl rfl | exact S_pick_or rfl rfl rfl | exact I_add rfl rfl (by simp only [InK]; omega) | exact I_add rfl rfl (by simp only [InK]; simp at hg; omega) | exact S_add rfl rfl | exact I_sub rfl rfl (by simp only [InK]; omega) | exact I_sub rfl rfl (by simp only [InK]; simp at hg; omega) | exact S_sub rfl rfl | exact I_mul rfl rfl (by simp only [InK]; omega) | exact S_mul rfl rfl | exact S_quo rfl rfl (by decide) | exact S_rem rfl rfl (by decide) | exact S_extract rfl rfl | exact I_toInt rfl (by simp only [InK]; omega) | exact W_toInt rfl | exact S_eqlb (BoolI.out) rfl rfl | exact S_neqb (BoolI.out) rfl rfl | exact S_eqls rfl rfl | exact S_eqlA rfl rfl rfl rfl rfl | exact S_neqA rfl rfl rfl rfl rfl | exact S_neqs rfl rfl | exact S_and rfl rfl | exact S_or rfl rfl | exact S_xor rfl rfl | exact S_andNot rfl rfl | exact S_shl rfl rfl (by omega) | exact S_shr rfl rfl (by omega) | exact S_nilCheck_ptr rfl | exact S_nilCheck_rp rfl | exact S_nilCheck_fn rfl | exact S_build rfl | exact S_buildA rfl | exact S_lit rfl rfl rfl rfl | exact S_load_rptr rfl rfl rfl rfl | exact S_field_aggd rfl rfl | exact S_makeFunc rfl | exact S_eqNilT rfl | exact S_ix_slice rfl rfl (by decide) rfl rfl | exact S_ix_arr_ptr rfl rfl (by decide) (by decide) | exact S_index_aggd rfl rfl (by decide) (by decide) rfl | exact S_call hWm rfl | exact S_len_slice rfl | exact S_len_own rfl rfl | exact S_len_str rfl | exact S_len_nil rfl | exact S_min rfl rfl | exact S_max rfl rfl))
    | refine dpickAnd rfl rfl rfl rfl rfl ?_ | refine dpickOr rfl rfl rfl rfl rfl ?_
    | (apply dt rfl; case h => first | exact as_bool (S_lss rfl rfl) (decide_eq_false (by omega : ¬ (k : Int) < ((l.map entV).length : Int))) | exact as_bool (S_eql rfl rfl) (eq_self _) | exact as_bool (S_leq rfl rfl) (decide_eq_true (by omega : ((m.map entV).length : Int) ≤ ((l.map entV).length : Int))) | exact S_alloc _ rfl | exact S_box _ rfl rfl)
    | (apply ds; case h => first | exact as_bool (S_lss rfl rfl) (decide_eq_false (by omega : ¬ (k : Int) < ((l.map entV).length : Int))) | exact as_bool (S_eql rfl rfl) (eq_self _) | exact as_bool (S_leq rfl rfl) (decide_eq_true (by omega : ((m.map entV).length : Int) ≤ ((l.map entV).length : Int))) | exact S_store rfl rfl rfl rfl rfl rfl)
    | (apply dm rfl; case h => first | exact as_bool (S_lss rfl rfl) (decide_eq_false (by omega : ¬ (k : Int) < ((l.map entV).length : Int))) | exact as_bool (S_eql rfl rfl) (eq_self _) | exact as_bool (S_leq rfl rfl) (decide_eq_true (by omega : ((m.map entV).length : Int) ≤ ((l.map entV).length : Int))) | exact M_d rfl | exact S_alloc 2001 rfl | exact S_alloc 2002 rfl | exact S_alloc 2003 rfl | exact S_alloc 2004 rfl | exact S_alloc 2005 rfl)
    | fail)
    exact ret1 rfl (.inl rfl) rfl
end Go.Proofs.Ytpdoplmnedpdaaa
