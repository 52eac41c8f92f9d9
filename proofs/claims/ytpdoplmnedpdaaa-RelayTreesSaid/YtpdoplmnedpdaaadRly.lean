/- Contract: relay.Relay. -/
import Derived.Test.YtpdoplmnedpdaaadGtp
import Derived.Test.YtpdoplmnedpdaaafBkT
namespace Go.Proofs.Ytpdoplmnedpdaaa
open Go.RowKit
theorem outsG_next {r : Region} {gs : List Gate} {v port at' : Int} {known : Bool} {f : Frame} {k : Nat} {g : Gate} (h : gs[k]? = some g) :
    outsG r (gs.take (k + 1)) v port at' known f = outsG r (gs.take k) v port at' known f ++ if skipG r v port at' known g then [] else [(g.port, leaveF g f v)] := by
  unfold outsG
  rw [List.take_add_one, h, List.filter_append, List.map_append]
  congr 1
  cases hs : skipG r v port at' known g <;> simp [hs]
theorem outsG_len (r : Region) (gs : List Gate) (v port at' : Int) (known : Bool) (f : Frame) : (outsG r gs v port at' known f).length ≤ gs.length := by
  unfold outsG; rw [List.length_map]; exact List.length_filter_le _ _
theorem way_in {g : Gate} {f : Frame} (hg : g.right) (hf : f.wrong = 0) : 0 ≤ wayOf g f ∧ wayOf g f ≤ 4094 := by
  have hb := hg.b
  unfold Gate.bad at hb
  unfold wayOf
  split
  · rename_i h
    unfold Frame.wrong at hf
    split at hf
    · omega
    split at hf
    · omega
    split at hf
    · omega
    · rename_i h3
      have : ¬ (f.vid < 0 ∨ 4094 < f.vid ∨ f.prio < 0 ∨ 7 < f.prio) := fun h4 => h3 ⟨h.1, h4⟩
      omega
  · omega
theorem wrong_data {f : Frame} (hf : f.wrong = 0) : f.data.length ≤ 1500 := by
  unfold Frame.wrong at hf
  repeat' split at hf
  all_goals omega
theorem region_right {r : Region} (h : r.wrong = 0) : r.right := Region.right_of h
attribute [local irreducible] SStep DW DWin DOps thenQ inBlk loopQ retQ retQG FnF FnG Wk IntKind.wrap IntKind.andI IntKind.orI IntKind.xorI IntKind.andNotI IntKind.shlI IntKind.shrI Ent.cmp bsG lookS lookE learnL outsG Gate.passes wayOf leaveF reservedB
set_option maxHeartbeats 1000000 in
theorem gates_IndexFunc (l : List Gate) (F : FuncId) (caps : List V) (p : Gate → Bool) (hp : ∀ e, FnF Try.prog F ([.agg (gateV e)] ++ caps) (.bool (p e))) : FnF Try.prog 52 [.slice (l.map gateV), .fn F caps] (.int .i64 (idxP p l 0)) := by
  refine fnF_of Try.func52 rfl rfl rfl ?_
  simp only [envOf]
  refine DW_len 0 rfl (fun hlen => ?_)
  have hml : (l.map gateV).length = l.length := by simp
  repeat' (first
    | refine DW_seq ?_
    | refine DW_region ?_
    | refine DW_draw ?_
    | refine dnilP ?_
    | refine dnilD (by kernel_rfl) ?_
    | refine then_normal ?_
    | refine then_exit ?_
    | refine then_ret ?_
    | refine DW_block ?_
    | refine blk_normal ?_
    | refine blk_ret ?_
    | refine blk_hit rfl ?_
    | refine blk_miss rfl ?_
    | refine loop_exit ?_
    | refine loop_ret ?_
    | refine DW_ret ?_
    | refine DW_exit ?_
    | refine DW_skip ?_
    | refine DW_cond_t rfl ?_
    | refine DW_cond_f rfl ?_
    | (apply dpC rfl; case h => first | (apply Pu.ok; repeat' (first | rfl | exact .inK (by simp only [InK]; omega) | exact .inK (by simp only [InK]; simp at hg; omega) | exact .wr | constructor | decide | omega)))
    | refine dpOff rfl rfl ?_
    | ((first | apply dp rfl | apply dpOn rfl rfl | apply dpMay rfl rfl (by first | exact fun _ => trivial | exact fun h => ⟨h, trivial⟩ | exact fun h => ⟨h, h, trivial⟩ | exact fun h => ⟨h, h, h, trivial⟩)); case h => ((try intro hg); first | (apply Pu.ok; repeat' (first | rfl | exact .inK (by simp only [InK]; omega) | exact .inK (by simp only [InK]; simp at hg; omega) | exact .wr | constructor | decide | omega))))
    | refine dpickAnd rfl rfl rfl rfl rfl ?_ | refine dpickOr rfl rfl rfl rfl rfl ?_
    | (apply dt rfl; case h => first | exact S_alloc _ rfl | exact S_box _ rfl rfl)
    | (apply ds; case h => first | exact S_store rfl rfl rfl rfl rfl rfl)
    | (apply dm rfl; case h => first | exact M_d rfl | exact S_alloc 2001 rfl | exact S_alloc 2002 rfl | exact S_alloc 2003 rfl | exact S_alloc 2004 rfl | exact S_alloc 2005 rfl)
    | fail)
  refine DW_loop (fun k : Nat => ⟨[(0, .dat false (.slice (l.map gateV))), (1, .dat false (.fn F caps)), (7, .dat true (.int .i64 (l.map gateV).length)), (8, .dat true (.int .i64 k))], [], 19⟩)
    (fun k => k ≤ l.length ∧ idxP p l 0 = idxP p (l.drop k) k) (fun k => l.length - k) 0 ⟨Nat.zero_le _, rfl⟩
    (Wk_gen some rfl rfl (by (repeat' (first | exact trivial | rfl | exact listLe_map _ | exact ⟨_, rfl, .inl rfl⟩ | exact ⟨_, rfl, .inr (.inl rfl)⟩ | exact ⟨_, rfl, .inr (.inr rfl)⟩ | refine ⟨_, _, rfl, rfl, ?_⟩ | exact ⟨_, rfl, rfl⟩ | exact ⟨_, _, _, _, rfl, rfl, rfl⟩ | exact ⟨_, rfl⟩ | exact ⟨_, _, rfl⟩ | apply And.intro))) (by (repeat' (first | exact trivial | rfl | exact listLe_map _ | exact ⟨_, rfl, .inl rfl⟩ | exact ⟨_, rfl, .inr (.inl rfl)⟩ | exact ⟨_, rfl, .inr (.inr rfl)⟩ | refine ⟨_, _, rfl, rfl, ?_⟩ | exact ⟨_, rfl, rfl⟩ | exact ⟨_, _, _, _, rfl, rfl, rfl⟩ | exact ⟨_, rfl⟩ | exact ⟨_, _, rfl⟩ | apply And.intro)))) (fun k hR => ?_)
  obtain ⟨hk, hw⟩ := hR
  by_cases hlt : k < l.length
  · have hx : l[(k : Int).toNat]? = some l[k] := by simp [hlt]
    have hn : l.drop k = l[k] :: l.drop (k + 1) := List.drop_eq_getElem_cons hlt
    generalize l[k] = x at hx hn
    rw [hn, idxP] at hw
    repeat' (first
    | refine DW_seq ?_
    | refine DW_region ?_
    | refine DW_draw ?_
    | refine dnilP ?_
    | refine dnilD (by kernel_rfl) ?_
    | refine then_normal ?_
    | refine then_exit ?_
    | refine then_ret ?_
    | refine DW_block ?_
    | refine blk_normal ?_
    | refine blk_ret ?_
    | refine blk_hit rfl ?_
    | refine blk_miss rfl ?_
    | refine loop_exit ?_
    | refine loop_ret ?_
    | refine DW_ret ?_
    | refine DW_exit ?_
    | refine DW_skip ?_
    | refine DW_cond_t rfl ?_
    | refine DW_cond_f rfl ?_
    | refine DW_cond rfl (fun hb => ?_) (fun hb => ?_)
    | (apply dpC rfl; case h => first | exact S_callv rfl rfl (hp x) | (apply Pu.ok; repeat' (first | rfl | exact .inK (by simp only [InK]; omega) | exact .inK (by simp only [InK]; simp at hg; omega) | exact .wr | constructor | decide | omega)))
    | refine dpOff rfl rfl ?_
    | ((first | apply dp rfl | apply dpOn rfl rfl | apply dpMay rfl rfl (by first | exact fun _ => trivial | exact fun h => ⟨h, trivial⟩ | exact fun h => ⟨h, h, trivial⟩ | exact fun h => ⟨h, h, h, trivial⟩)); case h => ((try intro hg); first | exact as_bool (S_lss rfl rfl) (decide_eq_true (by omega : (k : Int) < ((l.map gateV).length : Int))) | exact S_ixM rfl rfl (by omega) hx | exact S_callv rfl rfl (hp x) | (apply Pu.ok; repeat' (first | rfl | exact .inK (by simp only [InK]; omega) | exact .inK (by simp only [InK]; simp at hg; omega) | exact .wr | constructor | decide | omega))))
    | refine dpickAnd rfl rfl rfl rfl rfl ?_ | refine dpickOr rfl rfl rfl rfl rfl ?_
    | (apply dt rfl; case h => first | exact S_alloc _ rfl | exact S_box _ rfl rfl)
    | (apply ds; case h => first | exact S_store rfl rfl rfl rfl rfl rfl)
    | (apply dm rfl; case h => first | exact M_d rfl | exact S_alloc 2001 rfl | exact S_alloc 2002 rfl | exact S_alloc 2003 rfl | exact S_alloc 2004 rfl | exact S_alloc 2005 rfl)
    | fail)
    · rw [hw, if_pos hb]
      exact ret1 rfl (.inl rfl) rfl
    · exact loop_again (k + 1) ⟨hlt, by rw [hw, if_neg (by rw [hb]; simp)]⟩ (by omega) (Wk_gen some rfl rfl (by (repeat' (first | exact trivial | rfl | exact listLe_map _ | exact ⟨_, rfl, .inl rfl⟩ | exact ⟨_, rfl, .inr (.inl rfl)⟩ | exact ⟨_, rfl, .inr (.inr rfl)⟩ | refine ⟨_, _, rfl, rfl, ?_⟩ | exact ⟨_, rfl, rfl⟩ | exact ⟨_, _, _, _, rfl, rfl, rfl⟩ | exact ⟨_, rfl⟩ | exact ⟨_, _, rfl⟩ | apply And.intro))) (by (repeat' (first | exact trivial | rfl | exact listLe_map _ | exact ⟨_, rfl, .inl rfl⟩ | exact ⟨_, rfl, .inr (.inl rfl)⟩ | exact ⟨_, rfl, .inr (.inr rfl)⟩ | refine ⟨_, _, rfl, rfl, ?_⟩ | exact ⟨_, rfl, rfl⟩ | exact ⟨_, _, _, _, rfl, rfl, rfl⟩ | exact ⟨_, rfl⟩ | exact ⟨_, _, rfl⟩ | apply And.intro))))
  · repeat' (first
    | refine DW_seq ?_
    | refine DW_region ?_
    | refine DW_draw ?_
    | refine dnilP ?_
    | refine dnilD (by kernel_rfl) ?_
    | refine then_normal ?_
    | refine then_exit ?_
    | refine then_ret ?_
    | refine DW_block ?_
    | refine blk_normal ?_
    | refine blk_ret ?_
    | refine blk_hit rfl ?_
    | refine blk_miss rfl ?_
    | refine loop_exit ?_
    | refine loop_ret ?_
    | refine DW_ret ?_
    | refine DW_exit ?_
    | refine DW_skip ?_
    | refine DW_cond_t rfl ?_
    | refine DW_cond_f rfl ?_
    | (apply dpC rfl; case h => first | (apply Pu.ok; repeat' (first | rfl | exact .inK (by simp only [InK]; omega) | exact .inK (by simp only [InK]; simp at hg; omega) | exact .wr | constructor | decide | omega)))
    | refine dpOff rfl rfl ?_
    | ((first | apply dp rfl | apply dpOn rfl rfl | apply dpMay rfl rfl (by first | exact fun _ => trivial | exact fun h => ⟨h, trivial⟩ | exact fun h => ⟨h, h, trivial⟩ | exact fun h => ⟨h, h, h, trivial⟩)); case h => ((try intro hg); first | exact as_bool (S_lss rfl rfl) (decide_eq_false (by omega : ¬ (k : Int) < ((l.map gateV).length : Int))) | (apply Pu.ok; repeat' (first | rfl | exact .inK (by simp only [InK]; omega) | exact .inK (by simp only [InK]; simp at hg; omega) | exact .wr | constructor | decide | omega))))
    | refine dpickAnd rfl rfl rfl rfl rfl ?_ | refine dpickOr rfl rfl rfl rfl rfl ?_
    | (apply dt rfl; case h => first | exact S_alloc _ rfl | exact S_box _ rfl rfl)
    | (apply ds; case h => first | exact S_store rfl rfl rfl rfl rfl rfl)
    | (apply dm rfl; case h => first | exact M_d rfl | exact S_alloc 2001 rfl | exact S_alloc 2002 rfl | exact S_alloc 2003 rfl | exact S_alloc 2004 rfl | exact S_alloc 2005 rfl)
    | fail)
    rw [hw, List.drop_eq_nil_of_le (by omega)]
    exact ret1 rfl (.inl rfl) rfl
theorem relay_port (port : Int) (g : Gate) : FnF Try.prog 53 [.agg (gateV g), .rp [.int .i64 port]] (.bool (decide (g.port = port))) := by
  refine fnF_of Try.func53 rfl rfl rfl ?_
  simp only [envOf]
  repeat' (first
    | refine DW_seq ?_
    | refine DW_region ?_
    | refine DW_draw ?_
    | refine dnilP ?_
    | refine dnilD (by kernel_rfl) ?_
    | refine then_normal ?_
    | refine then_exit ?_
    | refine then_ret ?_
    | refine DW_block ?_
    | refine blk_normal ?_
    | refine blk_ret ?_
    | refine blk_hit rfl ?_
    | refine blk_miss rfl ?_
    | refine loop_exit ?_
    | refine loop_ret ?_
    | refine DW_ret ?_
    | refine DW_exit ?_
    | refine DW_skip ?_
    | refine DW_cond_t rfl ?_
    | refine DW_cond_f rfl ?_
    | (apply dpC rfl; case h => first | (apply Pu.ok; repeat' (first | rfl | exact .inK (by simp only [InK]; omega) | exact .inK (by simp only [InK]; simp at hg; omega) | exact .wr | constructor | decide | omega)))
    | refine dpOff rfl rfl ?_
    | ((first | apply dp rfl | apply dpOn rfl rfl | apply dpMay rfl rfl (by first | exact fun _ => trivial | exact fun h => ⟨h, trivial⟩ | exact fun h => ⟨h, h, trivial⟩ | exact fun h => ⟨h, h, h, trivial⟩)); case h => ((try intro hg); first | (apply Pu.ok; repeat' (first | rfl | exact .inK (by simp only [InK]; omega) | exact .inK (by simp only [InK]; simp at hg; omega) | exact .wr | constructor | decide | omega))))
    | refine dpickAnd rfl rfl rfl rfl rfl ?_ | refine dpickOr rfl rfl rfl rfl rfl ?_
    | (apply dt rfl; case h => first | exact S_alloc _ rfl | exact S_box _ rfl rfl)
    | (apply ds; case h => first | exact S_store rfl rfl rfl rfl rfl rfl)
    | (apply dm rfl; case h => first | exact M_d rfl | exact S_alloc 2001 rfl | exact S_alloc 2002 rfl | exact S_alloc 2003 rfl | exact S_alloc 2004 rfl | exact S_alloc 2005 rfl)
    | fail)
  exact ret1 rfl (.inl rfl) rfl
set_option maxHeartbeats 8000000 in
theorem relay_Relay (r : Region) (gs : List Gate) (l : List Ent) (port : Int) (f : Frame) (hrl : r.ways.length ≤ 9223372036854775807) (hf : f.ok) :
    FnF Try.prog 29 [r.v, .slice (gs.map gateV), .slice (l.map entV), .int .i64 port, f.v]
      (.tuple [.slice ((relayS r gs l port f).1.map outV), .slice ((relayS r gs l port f).2.1.map entV), .int .i64 (relayS r gs l port f).2.2]) := by
  refine fnF_of Try.func29 rfl rfl rfl ?_
  simp only [envOf]
  have hR := region_Wrong r hrl
  have hG : FnF Try.prog 27 [.slice (gs.map gateV)] (.agg [.int .i64 (wrongG gs).1, .int .i64 (wrongG gs).2]) := relay_Wrong gs
  have hB : FnF Try.prog 16 [.slice (l.map entV)] (.agg [.int .i64 (wrongB l).1, .int .i64 (wrongB l).2]) := book_Wrong l
  have hF := frame_Wrong f hf
  by_cases h1 : r.wrong = 0
  case neg =>
    rw [show relayS r gs l port f = ([], [], r.wrong) by unfold relayS; rw [if_pos h1]]
    repeat' (first
    | refine DW_seq ?_
    | refine DW_region ?_
    | refine DW_draw ?_
    | refine dnilP ?_
    | refine dnilD (by kernel_rfl) ?_
    | refine then_normal ?_
    | refine then_exit ?_
    | refine then_ret ?_
    | refine DW_block ?_
    | refine blk_normal ?_
    | refine blk_ret ?_
    | refine blk_hit rfl ?_
    | refine blk_miss rfl ?_
    | refine loop_exit ?_
    | refine loop_ret ?_
    | refine DW_ret ?_
    | refine DW_exit ?_
    | refine DW_skip ?_
    | refine DW_cond_t rfl ?_
    | refine DW_cond_f rfl ?_
    | (apply dpC rfl; case h => first | exact S_call hR rfl | exact S_call hG rfl | exact S_call hB rfl | exact S_call hF rfl | (apply Pu.ok; repeat' (first | rfl | exact .inK (by simp only [InK]; omega) | exact .inK (by simp only [InK]; simp at hg; omega) | exact .wr | constructor | decide | omega)))
    | refine dpOff rfl rfl ?_
    | ((first | apply dp rfl | apply dpOn rfl rfl | apply dpMay rfl rfl (by first | exact fun _ => trivial | exact fun h => ⟨h, trivial⟩ | exact fun h => ⟨h, h, trivial⟩ | exact fun h => ⟨h, h, h, trivial⟩)); case h => ((try intro hg); first | exact as_bool (S_neq rfl rfl) (decide_eq_true h1) | exact S_call hR rfl | exact S_call hG rfl | exact S_call hB rfl | exact S_call hF rfl | (apply Pu.ok; repeat' (first | rfl | exact .inK (by simp only [InK]; omega) | exact .inK (by simp only [InK]; simp at hg; omega) | exact .wr | constructor | decide | omega))))
    | refine dpickAnd rfl rfl rfl rfl rfl ?_ | refine dpickOr rfl rfl rfl rfl rfl ?_
    | (apply dt rfl; case h => first | exact S_alloc _ rfl | exact S_box _ rfl rfl)
    | (apply ds; case h => first | exact S_store rfl rfl rfl rfl rfl rfl)
    | (apply dm rfl; case h => first | exact M_d rfl | exact S_alloc 2001 rfl | exact S_alloc 2002 rfl | exact S_alloc 2003 rfl | exact S_alloc 2004 rfl | exact S_alloc 2005 rfl)
    | fail)
    exact retN (.tmp rfl (.inl rfl) (.tmp rfl (.inl rfl) (.tmp rfl (.inl rfl) .nil))) rfl
  by_cases h2 : (wrongG gs).1 = 0
  case neg =>
    rw [show relayS r gs l port f = ([], [], (wrongG gs).1) by unfold relayS; rw [if_neg (fun h => h h1), if_pos h2]]
    repeat' (first
    | refine DW_seq ?_
    | refine DW_region ?_
    | refine DW_draw ?_
    | refine dnilP ?_
    | refine dnilD (by kernel_rfl) ?_
    | refine then_normal ?_
    | refine then_exit ?_
    | refine then_ret ?_
    | refine DW_block ?_
    | refine blk_normal ?_
    | refine blk_ret ?_
    | refine blk_hit rfl ?_
    | refine blk_miss rfl ?_
    | refine loop_exit ?_
    | refine loop_ret ?_
    | refine DW_ret ?_
    | refine DW_exit ?_
    | refine DW_skip ?_
    | refine DW_cond_t rfl ?_
    | refine DW_cond_f rfl ?_
    | (apply dpC rfl; case h => first | exact S_call hR rfl | exact S_call hG rfl | exact S_call hB rfl | exact S_call hF rfl | (apply Pu.ok; repeat' (first | rfl | exact .inK (by simp only [InK]; omega) | exact .inK (by simp only [InK]; simp at hg; omega) | exact .wr | constructor | decide | omega)))
    | refine dpOff rfl rfl ?_
    | ((first | apply dp rfl | apply dpOn rfl rfl | apply dpMay rfl rfl (by first | exact fun _ => trivial | exact fun h => ⟨h, trivial⟩ | exact fun h => ⟨h, h, trivial⟩ | exact fun h => ⟨h, h, h, trivial⟩)); case h => ((try intro hg); first | exact as_bool (S_neq rfl rfl) (decide_eq_false (fun h => h h1)) | exact as_bool (S_neq rfl rfl) (decide_eq_true h2) | exact S_call hR rfl | exact S_call hG rfl | exact S_call hB rfl | exact S_call hF rfl | (apply Pu.ok; repeat' (first | rfl | exact .inK (by simp only [InK]; omega) | exact .inK (by simp only [InK]; simp at hg; omega) | exact .wr | constructor | decide | omega))))
    | refine dpickAnd rfl rfl rfl rfl rfl ?_ | refine dpickOr rfl rfl rfl rfl rfl ?_
    | (apply dt rfl; case h => first | exact S_alloc _ rfl | exact S_box _ rfl rfl)
    | (apply ds; case h => first | exact S_store rfl rfl rfl rfl rfl rfl)
    | (apply dm rfl; case h => first | exact M_d rfl | exact S_alloc 2001 rfl | exact S_alloc 2002 rfl | exact S_alloc 2003 rfl | exact S_alloc 2004 rfl | exact S_alloc 2005 rfl)
    | fail)
    exact retN (.tmp rfl (.inl rfl) (.tmp rfl (.inl rfl) (.tmp rfl (.inl rfl) .nil))) rfl
  by_cases h3 : (wrongB l).1 = 0
  case neg =>
    rw [show relayS r gs l port f = ([], [], (wrongB l).1) by unfold relayS; rw [if_neg (fun h => h h1), if_neg (fun h => h h2), if_pos h3]]
    repeat' (first
    | refine DW_seq ?_
    | refine DW_region ?_
    | refine DW_draw ?_
    | refine dnilP ?_
    | refine dnilD (by kernel_rfl) ?_
    | refine then_normal ?_
    | refine then_exit ?_
    | refine then_ret ?_
    | refine DW_block ?_
    | refine blk_normal ?_
    | refine blk_ret ?_
    | refine blk_hit rfl ?_
    | refine blk_miss rfl ?_
    | refine loop_exit ?_
    | refine loop_ret ?_
    | refine DW_ret ?_
    | refine DW_exit ?_
    | refine DW_skip ?_
    | refine DW_cond_t rfl ?_
    | refine DW_cond_f rfl ?_
    | (apply dpC rfl; case h => first | exact S_call hR rfl | exact S_call hG rfl | exact S_call hB rfl | exact S_call hF rfl | (apply Pu.ok; repeat' (first | rfl | exact .inK (by simp only [InK]; omega) | exact .inK (by simp only [InK]; simp at hg; omega) | exact .wr | constructor | decide | omega)))
    | refine dpOff rfl rfl ?_
    | ((first | apply dp rfl | apply dpOn rfl rfl | apply dpMay rfl rfl (by first | exact fun _ => trivial | exact fun h => ⟨h, trivial⟩ | exact fun h => ⟨h, h, trivial⟩ | exact fun h => ⟨h, h, h, trivial⟩)); case h => ((try intro hg); first | exact as_bool (S_neq rfl rfl) (decide_eq_false (fun h => h h1)) | exact as_bool (S_neq rfl rfl) (decide_eq_false (fun h => h h2)) | exact as_bool (S_neq rfl rfl) (decide_eq_true h3) | exact S_call hR rfl | exact S_call hG rfl | exact S_call hB rfl | exact S_call hF rfl | (apply Pu.ok; repeat' (first | rfl | exact .inK (by simp only [InK]; omega) | exact .inK (by simp only [InK]; simp at hg; omega) | exact .wr | constructor | decide | omega))))
    | refine dpickAnd rfl rfl rfl rfl rfl ?_ | refine dpickOr rfl rfl rfl rfl rfl ?_
    | (apply dt rfl; case h => first | exact S_alloc _ rfl | exact S_box _ rfl rfl)
    | (apply ds; case h => first | exact S_store rfl rfl rfl rfl rfl rfl)
    | (apply dm rfl; case h => first | exact M_d rfl | exact S_alloc 2001 rfl | exact S_alloc 2002 rfl | exact S_alloc 2003 rfl | exact S_alloc 2004 rfl | exact S_alloc 2005 rfl)
    | fail)
    exact retN (.tmp rfl (.inl rfl) (.tmp rfl (.inl rfl) (.tmp rfl (.inl rfl) .nil))) rfl
  by_cases h4 : f.wrong = 0
  case neg =>
    rw [show relayS r gs l port f = ([], [], f.wrong) by unfold relayS; rw [if_neg (fun h => h h1), if_neg (fun h => h h2), if_neg (fun h => h h3), if_pos h4]]
    repeat' (first
    | refine DW_seq ?_
    | refine DW_region ?_
    | refine DW_draw ?_
    | refine dnilP ?_
    | refine dnilD (by kernel_rfl) ?_
    | refine then_normal ?_
    | refine then_exit ?_
    | refine then_ret ?_
    | refine DW_block ?_
    | refine blk_normal ?_
    | refine blk_ret ?_
    | refine blk_hit rfl ?_
    | refine blk_miss rfl ?_
    | refine loop_exit ?_
    | refine loop_ret ?_
    | refine DW_ret ?_
    | refine DW_exit ?_
    | refine DW_skip ?_
    | refine DW_cond_t rfl ?_
    | refine DW_cond_f rfl ?_
    | (apply dpC rfl; case h => first | exact S_call hR rfl | exact S_call hG rfl | exact S_call hB rfl | exact S_call hF rfl | (apply Pu.ok; repeat' (first | rfl | exact .inK (by simp only [InK]; omega) | exact .inK (by simp only [InK]; simp at hg; omega) | exact .wr | constructor | decide | omega)))
    | refine dpOff rfl rfl ?_
    | ((first | apply dp rfl | apply dpOn rfl rfl | apply dpMay rfl rfl (by first | exact fun _ => trivial | exact fun h => ⟨h, trivial⟩ | exact fun h => ⟨h, h, trivial⟩ | exact fun h => ⟨h, h, h, trivial⟩)); case h => ((try intro hg); first | exact as_bool (S_neq rfl rfl) (decide_eq_false (fun h => h h1)) | exact as_bool (S_neq rfl rfl) (decide_eq_false (fun h => h h2)) | exact as_bool (S_neq rfl rfl) (decide_eq_false (fun h => h h3)) | exact as_bool (S_neq rfl rfl) (decide_eq_true h4) | exact S_call hR rfl | exact S_call hG rfl | exact S_call hB rfl | exact S_call hF rfl | (apply Pu.ok; repeat' (first | rfl | exact .inK (by simp only [InK]; omega) | exact .inK (by simp only [InK]; simp at hg; omega) | exact .wr | constructor | decide | omega))))
    | refine dpickAnd rfl rfl rfl rfl rfl ?_ | refine dpickOr rfl rfl rfl rfl rfl ?_
    | (apply dt rfl; case h => first | exact S_alloc _ rfl | exact S_box _ rfl rfl)
    | (apply ds; case h => first | exact S_store rfl rfl rfl rfl rfl rfl)
    | (apply dm rfl; case h => first | exact M_d rfl | exact S_alloc 2001 rfl | exact S_alloc 2002 rfl | exact S_alloc 2003 rfl | exact S_alloc 2004 rfl | exact S_alloc 2005 rfl)
    | fail)
    exact retN (.tmp rfl (.inl rfl) (.tmp rfl (.inl rfl) (.tmp rfl (.inl rfl) .nil))) rfl
  rw [relayS_right ⟨h1, h2, h3, h4⟩]
  have hgr := rightG_of h2
  have hbr := right_of h3
  have hrr := region_right h1
  have hl30 := hbr.n
  have hgn := hgr.n
  have hml : (gs.map gateV).length = gs.length := by simp
  have hfd := wrong_data h4
  have hI := gates_IndexFunc gs 53 [.rp [.int .i64 port]] (fun g => decide (g.port = port)) (relay_port port)
  rcases idxP_find (p := fun g : Gate => decide (g.port = port)) (l := gs) (k := 0) with ⟨i1, i2⟩ | ⟨n, g, i1, i2, i3⟩
  · rw [relayT_none i2]
    rw [i1] at hI
    repeat' (first
    | refine DW_freeze 8 (by intro kt et es h; cases (show Box.cells false _ [D.dat false _] = Box.mapb _ _ _ from h)) ?_
    | refine DW_seq ?_
    | refine DW_region ?_
    | refine DW_draw ?_
    | refine dnilP ?_
    | refine dnilD (by kernel_rfl) ?_
    | refine then_normal ?_
    | refine then_exit ?_
    | refine then_ret ?_
    | refine DW_block ?_
    | refine blk_normal ?_
    | refine blk_ret ?_
    | refine blk_hit rfl ?_
    | refine blk_miss rfl ?_
    | refine loop_exit ?_
    | refine loop_ret ?_
    | refine DW_ret ?_
    | refine DW_exit ?_
    | refine DW_skip ?_
    | refine DW_cond_t rfl ?_
    | refine DW_cond_f rfl ?_
    | (apply dpC rfl; case h => first | exact S_call hR rfl | exact S_call hG rfl | exact S_call hB rfl | exact S_call hF rfl | exact S_call hI rfl | (apply Pu.ok; repeat' (first | rfl | exact .inK (by simp only [InK]; omega) | exact .inK (by simp only [InK]; simp at hg; omega) | exact .wr | constructor | decide | omega)))
    | refine dpOff rfl rfl ?_
    | ((first | apply dp rfl | apply dpOn rfl rfl | apply dpMay rfl rfl (by first | exact fun _ => trivial | exact fun h => ⟨h, trivial⟩ | exact fun h => ⟨h, h, trivial⟩ | exact fun h => ⟨h, h, h, trivial⟩)); case h => ((try intro hg); first | exact as_bool (S_neq rfl rfl) (decide_eq_false (fun h => h h1)) | exact as_bool (S_neq rfl rfl) (decide_eq_false (fun h => h h2)) | exact as_bool (S_neq rfl rfl) (decide_eq_false (fun h => h h3)) | exact as_bool (S_neq rfl rfl) (decide_eq_false (fun h => h h4)) | exact S_call hR rfl | exact S_call hG rfl | exact S_call hB rfl | exact S_call hF rfl | exact S_call hI rfl | (apply Pu.ok; repeat' (first | rfl | exact .inK (by simp only [InK]; omega) | exact .inK (by simp only [InK]; simp at hg; omega) | exact .wr | constructor | decide | omega))))
    | refine dpickAnd rfl rfl rfl rfl rfl ?_ | refine dpickOr rfl rfl rfl rfl rfl ?_
    | (apply dt rfl; case h => first | exact S_alloc _ rfl | exact S_box _ rfl rfl)
    | (apply ds; case h => first | exact S_store rfl rfl rfl rfl rfl rfl)
    | (apply dm rfl; case h => first | exact M_d rfl | exact S_alloc 2001 rfl | exact S_alloc 2002 rfl | exact S_alloc 2003 rfl | exact S_alloc 2004 rfl | exact S_alloc 2005 rfl)
    | fail)
    exact retN (.tmp rfl (.inl rfl) (.tmp rfl (.inl rfl) (.tmp rfl (.inl rfl) .nil))) rfl
  rw [relayT_some i3]
  rw [i1, Nat.zero_add] at hI
  have hgm : g ∈ gs := List.mem_of_getElem? i2
  have hg := hgr.g g hgm
  have hwi := way_in hg h4
  have hx : gs[((n : Nat) : Int).toNat]? = some g := by rw [Int.toNat_natCast]; exact i2
  have cw := relay_way g f
  have cp := relay_passes g r (wayOf g f) hg hrr (by omega)
  have cr := relay_reserved f.dst
  have cc := clone_ents l (by omega)
  have hbl : blockB g r f = (decide (wayOf g f = 0) || !g.passes r (wayOf g f) || reservedB f.dst) := rfl
  unfold relayG
  generalize wayOf g f = v at cw cp hwi hbl ⊢
  have hlr := (learn_right (v := v) (a := f.src) (p := port) hbr).1
  have c5 := book_Learn l v f.src port (by omega)
  have c6 := book_Look2 hlr v f.dst
  generalize learnL l v f.src port = m at c5 c6 hlr ⊢
  generalize (lookS m v f.dst).1 = at' at c6 ⊢
  generalize (lookS m v f.dst).2 = known at c6 ⊢
  repeat' (first
    | refine DW_freeze 8 (by intro kt et es h; cases (show Box.cells false _ [D.dat false _] = Box.mapb _ _ _ from h)) ?_
    | (refine DW_seal 11 rfl rfl (by simp) ?_; refine DW_ret ?_)
    | refine DW_seq ?_
    | refine DW_region ?_
    | refine DW_draw ?_
    | refine dnilP ?_
    | refine dnilD (by kernel_rfl) ?_
    | refine then_normal ?_
    | refine then_exit ?_
    | refine then_ret ?_
    | refine DW_block ?_
    | refine blk_normal ?_
    | refine blk_ret ?_
    | refine blk_hit rfl ?_
    | refine blk_miss rfl ?_
    | refine loop_exit ?_
    | refine loop_ret ?_
    | refine DW_ret ?_
    | refine DW_exit ?_
    | refine DW_skip ?_
    | refine DW_cond_t rfl ?_
    | refine DW_cond_f rfl ?_
    | refine DW_cond rfl (fun hb => ?_) (fun hb => ?_)
    | (apply dpC rfl; case h => first | exact S_call hR rfl | exact S_call hG rfl | exact S_call hB rfl | exact S_call hF rfl | exact S_call hI rfl | exact S_call cw rfl | exact S_call cp rfl | exact S_call cr rfl | exact S_call c5 rfl | exact S_call c6 rfl | (apply Pu.ok; repeat' (first | rfl | exact .inK (by simp only [InK]; omega) | exact .inK (by simp only [InK]; simp at hg; omega) | exact .wr | constructor | decide | omega)))
    | (apply dtC rfl; case h => first | exact S_callG0 _ cc rfl rfl (.own _ _))
    | refine dpOff rfl rfl ?_
    | ((first | apply dp rfl | apply dpOn rfl rfl | apply dpMay rfl rfl (by first | exact fun _ => trivial | exact fun h => ⟨h, trivial⟩ | exact fun h => ⟨h, h, trivial⟩ | exact fun h => ⟨h, h, h, trivial⟩)); case h => ((try intro hg); first | exact as_bool (S_neq rfl rfl) (decide_eq_false (fun h => h h1)) | exact as_bool (S_neq rfl rfl) (decide_eq_false (fun h => h h2)) | exact as_bool (S_neq rfl rfl) (decide_eq_false (fun h => h h3)) | exact as_bool (S_neq rfl rfl) (decide_eq_false (fun h => h h4)) | exact as_bool (S_lss rfl rfl) (decide_eq_false (by omega : ¬ ((n : Nat) : Int) < 0)) | exact S_ixM rfl rfl (by omega) hx | exact S_call hR rfl | exact S_call hG rfl | exact S_call hB rfl | exact S_call hF rfl | exact S_call hI rfl | exact S_call cw rfl | exact S_call cp rfl | exact S_call cr rfl | exact S_callG0 _ cc rfl rfl (.own _ _) | exact S_call c5 rfl | exact S_call c6 rfl | (apply Pu.ok; repeat' (first | rfl | exact .inK (by simp only [InK]; omega) | exact .inK (by simp only [InK]; simp at hg; omega) | exact .wr | constructor | decide | omega))))
    | refine dpickAnd rfl rfl rfl rfl rfl ?_ | refine dpickOr rfl rfl rfl rfl rfl ?_
    | (apply dt rfl; case h => first | exact S_alloc _ rfl | exact S_box _ rfl rfl)
    | (apply ds; case h => first | exact S_store rfl rfl rfl rfl rfl rfl)
    | (apply dm rfl; case h => first | exact M_d rfl | exact S_alloc 2001 rfl | exact S_alloc 2002 rfl | exact S_alloc 2003 rfl | exact S_alloc 2004 rfl | exact S_alloc 2005 rfl)
    | fail)
  · rw [if_pos (hbl.trans hb)]
    exact retN (.tmp rfl (.inl rfl) (.tmp rfl (.inl rfl) (.tmp rfl (.inl rfl) .nil))) rfl
  rw [if_neg (fun h => by rw [hbl.symm.trans h] at hb; cases hb)]
  dsimp only
  refine DW_loop (fun q : Nat × List OutF => ⟨[(1, .dat false (.slice (gs.map gateV))), (2, .dat true (.slice (m.map entV))), (5, .ptr 5 0), (8, .ptr 8 0), (9, .ptr 9 0), (18, .dat true (.int .i64 v)), (19, .dat true (.int .i64 at')), (20, .dat true (.bool known)), (21, .own 130 0 0 q.2.length), (88, .dat false (.slice (gs.map gateV))), (89, .dat true (.int .i64 (gs.map gateV).length)), (90, .dat true (.int .i64 q.1))],
      [(5, .cells false true (r.cells.map (.dat false))), (8, .cells true true [.dat false (.int .i64 port)]), (9, .cells false true (f.cells.map (.dat false))), (130, .row 0 false true 9 (q.2.map outV))], 134⟩)
    (fun q => q.1 ≤ gs.length ∧ q.2 = outsG r (gs.take q.1) v port at' known f) (fun q => gs.length - q.1) (0, []) ⟨Nat.zero_le _, by with_unfolding_all rfl⟩
    (Wk_gen (fun g => if g = 130 then none else some g) rfl rfl (by (repeat' (first | exact trivial | rfl | exact listLe_map _ | exact ⟨_, rfl, .inl rfl⟩ | exact ⟨_, rfl, .inr (.inl rfl)⟩ | exact ⟨_, rfl, .inr (.inr rfl)⟩ | refine ⟨_, _, rfl, rfl, ?_⟩ | exact ⟨_, rfl, rfl⟩ | exact ⟨_, _, _, _, rfl, rfl, rfl⟩ | exact ⟨_, rfl⟩ | exact ⟨_, _, rfl⟩ | apply And.intro))) (by (repeat' (first | exact trivial | rfl | exact listLe_map _ | exact ⟨_, rfl, .inl rfl⟩ | exact ⟨_, rfl, .inr (.inl rfl)⟩ | exact ⟨_, rfl, .inr (.inr rfl)⟩ | refine ⟨_, _, rfl, rfl, ?_⟩ | exact ⟨_, rfl, rfl⟩ | exact ⟨_, _, _, _, rfl, rfl, rfl⟩ | exact ⟨_, rfl⟩ | exact ⟨_, _, rfl⟩ | apply And.intro)))) (fun q hq => ?_)
  obtain ⟨k, outs⟩ := q
  obtain ⟨hk, ho⟩ := hq
  simp only at hk ho
  dsimp only
  by_cases hlt : k < gs.length
  · have hx1 : gs[k]? = some gs[k] := by simp [hlt]
    have hx2 : gs[(k : Int).toNat]? = some gs[k] := by simp [hlt]
    have hnx := outsG_next (r := r) (v := v) (port := port) (at' := at') (known := known) (f := f) hx1
    have hug := hgr.g gs[k] (List.mem_of_getElem? hx1)
    generalize gs[k] = u at hx1 hx2 hnx hug
    have cp2 := relay_passes u r v hug hrr (by omega)
    have cl := relay_leave u f v (by omega)
    have hsk : skipG r v port at' known u = (decide (u.port = port) || (known && decide (u.port ≠ at')) || !u.passes r v) := rfl
    have hol : outs.length ≤ 31 := by
      rw [ho]
      have := outsG_len r (gs.take k) v port at' known f
      have := List.length_take_le k gs
      omega
    repeat' (first
    | refine DW_seq ?_
    | refine DW_region ?_
    | refine DW_draw ?_
    | refine dnilP ?_
    | refine dnilD (by kernel_rfl) ?_
    | refine then_normal ?_
    | refine then_exit ?_
    | refine then_ret ?_
    | refine DW_block ?_
    | refine blk_normal ?_
    | refine blk_ret ?_
    | refine blk_hit rfl ?_
    | refine blk_miss rfl ?_
    | refine loop_exit ?_
    | refine loop_ret ?_
    | refine DW_ret ?_
    | refine DW_exit ?_
    | refine DW_skip ?_
    | refine DW_cond_t rfl ?_
    | refine DW_cond_f rfl ?_
    | refine DW_cond rfl (fun hc => ?_) (fun hc => ?_)
    | (apply dpC rfl; case h => first | exact S_call cp2 rfl | exact S_call cl rfl | (apply Pu.ok; repeat' (first | rfl | exact .inK (by simp only [InK]; omega) | exact .inK (by simp only [InK]; simp at hg; omega) | exact .wr | constructor | decide | omega)))
    | (apply dmC rfl; case h => first | exact S_appM (f := outV) (us := outs) (bs := [(u.port, leaveF u f v)]) rfl rfl (.dat _ _) rfl rfl (.inl rfl) rfl (by simp only [List.length_cons, List.length_nil]; omega))
    | refine dpOff rfl rfl ?_
    | (apply dmOn rfl rfl; case h => first | exact S_appM (f := outV) (us := outs) (bs := [(u.port, leaveF u f v)]) rfl rfl (.dat _ _) rfl rfl (.inl rfl) rfl (by simp only [List.length_cons, List.length_nil]; omega))
    | ((first | apply dp rfl | apply dpOn rfl rfl | apply dpMay rfl rfl (by first | exact fun _ => trivial | exact fun h => ⟨h, trivial⟩ | exact fun h => ⟨h, h, trivial⟩ | exact fun h => ⟨h, h, h, trivial⟩)); case h => ((try intro hg); first | exact as_bool (S_lss rfl rfl) (decide_eq_true (by omega : (k : Int) < ((gs.map gateV).length : Int))) | exact S_ixM rfl rfl (by omega) hx2 | exact S_call cp2 rfl | exact S_call cl rfl | exact S_appM (f := outV) (us := outs) (bs := [(u.port, leaveF u f v)]) rfl rfl (.dat _ _) rfl rfl (.inl rfl) rfl (by simp only [List.length_cons, List.length_nil]; omega) | (apply Pu.ok; repeat' (first | rfl | exact .inK (by simp only [InK]; omega) | exact .inK (by simp only [InK]; simp at hg; omega) | exact .wr | constructor | decide | omega))))
    | refine dpickAnd rfl rfl rfl rfl rfl ?_ | refine dpickOr rfl rfl rfl rfl rfl ?_
    | (apply dt rfl; case h => first | exact S_alloc _ rfl | exact S_box _ rfl rfl)
    | (apply ds; case h => first | exact S_store rfl rfl rfl rfl rfl rfl)
    | (apply dm rfl; case h => first | exact M_d rfl | exact S_alloc 2001 rfl | exact S_alloc 2002 rfl | exact S_alloc 2003 rfl | exact S_alloc 2004 rfl | exact S_alloc 2005 rfl)
    | fail)
    · refine loop_again (k + 1, outs) ⟨hlt, ?_⟩ (by simp only; omega) (Wk_gen some rfl rfl (by (repeat' (first | exact trivial | rfl | exact listLe_map _ | exact ⟨_, rfl, .inl rfl⟩ | exact ⟨_, rfl, .inr (.inl rfl)⟩ | exact ⟨_, rfl, .inr (.inr rfl)⟩ | refine ⟨_, _, rfl, rfl, ?_⟩ | exact ⟨_, rfl, rfl⟩ | exact ⟨_, _, _, _, rfl, rfl, rfl⟩ | exact ⟨_, rfl⟩ | exact ⟨_, _, rfl⟩ | apply And.intro))) (by (repeat' (first | exact trivial | rfl | exact listLe_map _ | exact ⟨_, rfl, .inl rfl⟩ | exact ⟨_, rfl, .inr (.inl rfl)⟩ | exact ⟨_, rfl, .inr (.inr rfl)⟩ | refine ⟨_, _, rfl, rfl, ?_⟩ | exact ⟨_, rfl, rfl⟩ | exact ⟨_, _, _, _, rfl, rfl, rfl⟩ | exact ⟨_, rfl⟩ | exact ⟨_, _, rfl⟩ | apply And.intro))))
      simp only
      rw [hnx, if_pos (hsk.trans hc), List.append_nil, ho]
    · refine loop_again (k + 1, outs ++ [(u.port, leaveF u f v)]) ⟨hlt, ?_⟩ (by simp only; omega) (Wk_gen some rfl rfl (by (repeat' (first | exact trivial | rfl | exact listLe_map _ | exact ⟨_, rfl, .inl rfl⟩ | exact ⟨_, rfl, .inr (.inl rfl)⟩ | exact ⟨_, rfl, .inr (.inr rfl)⟩ | refine ⟨_, _, rfl, rfl, ?_⟩ | exact ⟨_, rfl, rfl⟩ | exact ⟨_, _, _, _, rfl, rfl, rfl⟩ | exact ⟨_, rfl⟩ | exact ⟨_, _, rfl⟩ | apply And.intro))) (by (repeat' (first | exact trivial | rfl | exact listLe_map _ | exact ⟨_, rfl, .inl rfl⟩ | exact ⟨_, rfl, .inr (.inl rfl)⟩ | exact ⟨_, rfl, .inr (.inr rfl)⟩ | refine ⟨_, _, rfl, rfl, ?_⟩ | exact ⟨_, rfl, rfl⟩ | exact ⟨_, _, _, _, rfl, rfl, rfl⟩ | exact ⟨_, rfl⟩ | exact ⟨_, _, rfl⟩ | apply And.intro))))
      simp only
      rw [hnx, if_neg (fun h => by rw [hsk.symm.trans h] at hc; cases hc), ho]
  · rw [List.take_of_length_le (by omega)] at ho
    repeat' (first
    | (refine DW_seal 10 rfl rfl (by simp) ?_; refine DW_ret ?_)
    | refine DW_seq ?_
    | refine DW_region ?_
    | refine DW_draw ?_
    | refine dnilP ?_
    | refine dnilD (by kernel_rfl) ?_
    | refine then_normal ?_
    | refine then_exit ?_
    | refine then_ret ?_
    | refine DW_block ?_
    | refine blk_normal ?_
    | refine blk_ret ?_
    | refine blk_hit rfl ?_
    | refine blk_miss rfl ?_
    | refine loop_exit ?_
    | refine loop_ret ?_
    | refine DW_ret ?_
    | refine DW_exit ?_
    | refine DW_skip ?_
    | refine DW_cond_t rfl ?_
    | refine DW_cond_f rfl ?_
    | (apply dpC rfl; case h => first | (apply Pu.ok; repeat' (first | rfl | exact .inK (by simp only [InK]; omega) | exact .inK (by simp only [InK]; simp at hg; omega) | exact .wr | constructor | decide | omega)))
    | refine dpOff rfl rfl ?_
    | ((first | apply dp rfl | apply dpOn rfl rfl | apply dpMay rfl rfl (by first | exact fun _ => trivial | exact fun h => ⟨h, trivial⟩ | exact fun h => ⟨h, h, trivial⟩ | exact fun h => ⟨h, h, h, trivial⟩)); case h => ((try intro hg); first | exact as_bool (S_lss rfl rfl) (decide_eq_false (by omega : ¬ (k : Int) < ((gs.map gateV).length : Int))) | (apply Pu.ok; repeat' (first | rfl | exact .inK (by simp only [InK]; omega) | exact .inK (by simp only [InK]; simp at hg; omega) | exact .wr | constructor | decide | omega))))
    | refine dpickAnd rfl rfl rfl rfl rfl ?_ | refine dpickOr rfl rfl rfl rfl rfl ?_
    | (apply dt rfl; case h => first | exact S_alloc _ rfl | exact S_box _ rfl rfl)
    | (apply ds; case h => first | exact S_store rfl rfl rfl rfl rfl rfl)
    | (apply dm rfl; case h => first | exact M_d rfl | exact S_alloc 2001 rfl | exact S_alloc 2002 rfl | exact S_alloc 2003 rfl | exact S_alloc 2004 rfl | exact S_alloc 2005 rfl)
    | fail)
    rw [← ho]
    exact retN (.tmp rfl (.inl rfl) (.tmp rfl (.inl rfl) (.tmp rfl (.inl rfl) .nil))) rfl
end Go.Proofs.Ytpdoplmnedpdaaa
