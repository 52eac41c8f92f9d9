/- Contract: the document's Relay. -/
import Derived.Test.YtpdoplmnedpdaaadGtv
import Derived.Test.YtpdoplmnedpdaaadRly
import Derived.Test.YtpdoplmnedpdaaadRgv
import Derived.Test.YtpdoplmnedpdaaadBkR
namespace Go.Proofs.Ytpdoplmnedpdaaa
open Go.RowKit
theorem port_one {gs : List Gate} (hs : gs.Pairwise (fun a b => a.port < b.port)) {n k : Nat} {g u : Gate} (h1 : gs[n]? = some g) (h2 : gs[k]? = some u) : u.port = g.port ↔ k = n := by
  obtain ⟨a1, rfl⟩ := List.getElem?_eq_some_iff.1 h1
  obtain ⟨a2, rfl⟩ := List.getElem?_eq_some_iff.1 h2
  constructor
  · intro h
    rcases Nat.lt_trichotomy k n with hlt | he | hgt
    · have := List.pairwise_iff_getElem.1 hs k n a2 a1 hlt; omega
    · exact he
    · have := List.pairwise_iff_getElem.1 hs n k a1 a2 hgt; omega
  · rintro rfl; rfl
theorem gateAt_none {gs : List Gate} {port : Int} (h : ∀ (j : Nat) (g : Gate), gs[j]? = some g → g.port ≠ port) : gateAt gs port = none := by
  unfold gateAt
  rw [List.find?_eq_none]
  intro g hg
  obtain ⟨j, hj⟩ := List.getElem?_of_mem hg
  simpa using h j g hj
theorem gateAt_of {gs : List Gate} (hs : gs.Pairwise (fun a b => a.port < b.port)) {n : Nat} {g : Gate} (h1 : gs[n]? = some g) : gateAt gs g.port = some g := by
  unfold gateAt
  cases hf : gs.find? (fun u => decide (u.port = g.port)) with
  | none =>
    rw [List.find?_eq_none] at hf
    have := hf g (List.mem_of_getElem? h1)
    simp at this
  | some u =>
    have hp := List.find?_some hf
    simp only [decide_eq_true_eq] at hp
    obtain ⟨k, hk⟩ := List.getElem?_of_mem (List.mem_of_find?_eq_some hf)
    have := (port_one hs h1 hk).1 hp
    subst this
    rw [h1] at hk
    exact hk.symm
theorem leave_plain {g : Gate} {f : Frame} {v : Int} (h : g.plain = v) : leaveF g f v = ⟨f.dst, f.src, false, 0, false, 0, f.typ, f.data⟩ := by unfold leaveF; rw [if_pos h]
theorem leave_tag {g : Gate} {f : Frame} {v : Int} (h : ¬ g.plain = v) (ht : f.tagged = true) : leaveF g f v = ⟨f.dst, f.src, true, f.prio, f.drop, v, f.typ, f.data⟩ := by unfold leaveF; rw [if_neg h, ht]; simp
theorem leave_new {g : Gate} {f : Frame} {v : Int} (h : ¬ g.plain = v) (ht : f.tagged = false) : leaveF g f v = ⟨f.dst, f.src, true, 0, false, v, f.typ, f.data⟩ := by unfold leaveF; rw [if_neg h, ht]; simp
theorem quo16 {a : Int} (h : 0 ≤ a) (h2 : a ≤ 18446744073709551615) : IntKind.u64.wrap (a.tdiv 16) = IntKind.u64.shrI a 4 := by
  have e : (2 : Int) ^ (min (4 : Int).toNat IntKind.u64.bits) = 16 := by decide
  unfold IntKind.shrI
  rw [e, Int.fdiv_eq_ediv_of_nonneg _ (by decide), Int.tdiv_eq_ediv_of_nonneg h, wrap_in]
  simp only [InK]; omega
theorem way_pos {g : Gate} {f : Frame} (hf : f.wrong = 0) : wayOf g f = if f.tagged = true ∧ 0 < f.vid then f.vid else g.plain := by
  have h3 : f.tagged = true → 0 ≤ f.vid := fun ht => by
    unfold Frame.wrong at hf
    split at hf
    · omega
    split at hf
    · omega
    split at hf
    · omega
    · rename_i h3
      have : ¬ (f.vid < 0 ∨ 4094 < f.vid ∨ f.prio < 0 ∨ 7 < f.prio) := fun h4 => h3 ⟨ht, h4⟩
      omega
  unfold wayOf
  by_cases ht : f.tagged = true
  · have := h3 ht
    by_cases h0 : 0 < f.vid
    · rw [if_pos ⟨ht, by omega⟩, if_pos ⟨ht, h0⟩]
    · rw [if_neg (fun h => h.2 (by omega)), if_neg (fun h => h0 h.2)]
  · rw [if_neg (fun h => ht h.1), if_neg (fun h => ht h.1)]
attribute [local irreducible] SStep DW DWin DOps thenQ inBlk loopQ retQ retQG FnF FnG Wk IntKind.wrap IntKind.andI IntKind.orI IntKind.xorI IntKind.andNotI IntKind.shlI IntKind.shrI Ent.cmp bsG lookS lookE learnL learnR outsG Gate.passes wayOf leaveF gateAt
set_option maxHeartbeats 8000000 in
theorem ref8_Relay (r : Region) (gs : List Gate) (l : List Ent) (port : Int) (f : Frame) (hrl : r.ways.length ≤ 9223372036854775807) (hf : f.ok) :
    FnG Try.prog 30 [.dat false r.v, .dat false (.slice (gs.map gateV)), .dat false (.slice (l.map entV)), .dat false (.int .i64 port), .dat false f.v] []
      (.dat false (.tuple [.slice ((relayS r gs l port f).1.map outV), .slice ((relayS r gs l port f).2.1.map entV), .int .i64 (relayS r gs l port f).2.2])) [] := by
  refine fnG_of Try.func30 rfl rfl rfl ?_
  simp only [envD]
  have hR := ref3_Wrong r hrl
  have hG : FnF Try.prog 28 [.slice (gs.map gateV)] (.agg [.int .i64 (wrongG gs).1, .int .i64 (wrongG gs).2]) := ref8_WrongGates gs
  have hB : FnF Try.prog 21 [.slice (l.map entV)] (.agg [.int .i64 (wrongB l).1, .int .i64 (wrongB l).2]) := ref8_Wrong l
  have hF := ref2_Wrong f hf
  by_cases h1 : r.wrong = 0
  case neg =>
    rw [show relayS r gs l port f = ([], [], r.wrong) by unfold relayS; rw [if_pos h1]]
    repeat' (first
    | refine DW_seq ?_
    | refine DW_region ?_
    | refine DW_draw ?_
    | refine dnilP ?_
    | refine dnilD (by kernel_rfl) ?_
    | refine then_normal ?_
    | refine then_exit ?_
    | refine then_ret ?_
    | refine DW_block ?_
    | refine blk_normal ?_
    | refine blk_ret ?_
    | refine blk_hit rfl ?_
    | refine blk_miss rfl ?_
    | refine loop_exit ?_
    | refine loop_ret ?_
    | refine DW_ret ?_
    | refine DW_exit ?_
    | refine DW_skip ?_
    | refine DW_cond_t rfl ?_
    | refine DW_cond_f rfl ?_
    | (apply dpC rfl; case h => first | exact S_call hR rfl | exact S_call hG rfl | exact S_call hB rfl | exact S_call hF rfl | (apply Pu.ok; repeat' (first | rfl | exact .inK (by simp only [InK]; omega) | exact .inK (by simp only [InK]; simp at hg; omega) | exact .wr | constructor | decide | omega)))
    | refine dpOff rfl rfl ?_
    | ((first | apply dp rfl | apply dpOn rfl rfl | apply dpMay rfl rfl (by first | exact fun _ => trivial | exact fun h => ⟨h, trivial⟩ | exact fun h => ⟨h, h, trivial⟩ | exact fun h => ⟨h, h, h, trivial⟩)); case h => ((try intro hg); first | exact as_bool (S_neq rfl rfl) (decide_eq_true h1) | exact S_call hR rfl | exact S_call hG rfl | exact S_call hB rfl | exact S_call hF rfl | (apply Pu.ok; repeat' (first | rfl | exact .inK (by simp only [InK]; omega) | exact .inK (by simp only [InK]; simp at hg; omega) | exact .wr | constructor | decide | omega))))
    | refine dpickAnd rfl rfl rfl rfl rfl ?_ | refine dpickOr rfl rfl rfl rfl rfl ?_
    | (apply dt rfl; case h => first | exact S_alloc _ rfl | exact S_box _ rfl rfl)
    | (apply ds; case h => first | exact S_store rfl rfl rfl rfl rfl rfl)
    | (apply dm rfl; case h => first | exact M_d rfl | exact S_alloc 2001 rfl | exact S_alloc 2002 rfl | exact S_alloc 2003 rfl | exact S_alloc 2004 rfl | exact S_alloc 2005 rfl)
    | fail)
    exact gOld (.tmp rfl (.tmp rfl (.tmp rfl .nil))) Wk_none rfl
  by_cases h2 : (wrongG gs).1 = 0
  case neg =>
    rw [show relayS r gs l port f = ([], [], (wrongG gs).1) by unfold relayS; rw [if_neg (fun h => h h1), if_pos h2]]
    repeat' (first
    | refine DW_seq ?_
    | refine DW_region ?_
    | refine DW_draw ?_
    | refine dnilP ?_
    | refine dnilD (by kernel_rfl) ?_
    | refine then_normal ?_
    | refine then_exit ?_
    | refine then_ret ?_
    | refine DW_block ?_
    | refine blk_normal ?_
    | refine blk_ret ?_
    | refine blk_hit rfl ?_
    | refine blk_miss rfl ?_
    | refine loop_exit ?_
    | refine loop_ret ?_
    | refine DW_ret ?_
    | refine DW_exit ?_
    | refine DW_skip ?_
    | refine DW_cond_t rfl ?_
    | refine DW_cond_f rfl ?_
    | (apply dpC rfl; case h => first | exact S_call hR rfl | exact S_call hG rfl | exact S_call hB rfl | exact S_call hF rfl | (apply Pu.ok; repeat' (first | rfl | exact .inK (by simp only [InK]; omega) | exact .inK (by simp only [InK]; simp at hg; omega) | exact .wr | constructor | decide | omega)))
    | refine dpOff rfl rfl ?_
    | ((first | apply dp rfl | apply dpOn rfl rfl | apply dpMay rfl rfl (by first | exact fun _ => trivial | exact fun h => ⟨h, trivial⟩ | exact fun h => ⟨h, h, trivial⟩ | exact fun h => ⟨h, h, h, trivial⟩)); case h => ((try intro hg); first | exact as_bool (S_neq rfl rfl) (decide_eq_false (fun h => h h1)) | exact as_bool (S_neq rfl rfl) (decide_eq_true h2) | exact S_call hR rfl | exact S_call hG rfl | exact S_call hB rfl | exact S_call hF rfl | (apply Pu.ok; repeat' (first | rfl | exact .inK (by simp only [InK]; omega) | exact .inK (by simp only [InK]; simp at hg; omega) | exact .wr | constructor | decide | omega))))
    | refine dpickAnd rfl rfl rfl rfl rfl ?_ | refine dpickOr rfl rfl rfl rfl rfl ?_
    | (apply dt rfl; case h => first | exact S_alloc _ rfl | exact S_box _ rfl rfl)
    | (apply ds; case h => first | exact S_store rfl rfl rfl rfl rfl rfl)
    | (apply dm rfl; case h => first | exact M_d rfl | exact S_alloc 2001 rfl | exact S_alloc 2002 rfl | exact S_alloc 2003 rfl | exact S_alloc 2004 rfl | exact S_alloc 2005 rfl)
    | fail)
    exact gOld (.tmp rfl (.tmp rfl (.tmp rfl .nil))) Wk_none rfl
  by_cases h3 : (wrongB l).1 = 0
  case neg =>
    rw [show relayS r gs l port f = ([], [], (wrongB l).1) by unfold relayS; rw [if_neg (fun h => h h1), if_neg (fun h => h h2), if_pos h3]]
    repeat' (first
    | refine DW_seq ?_
    | refine DW_region ?_
    | refine DW_draw ?_
    | refine dnilP ?_
    | refine dnilD (by kernel_rfl) ?_
    | refine then_normal ?_
    | refine then_exit ?_
    | refine then_ret ?_
    | refine DW_block ?_
    | refine blk_normal ?_
    | refine blk_ret ?_
    | refine blk_hit rfl ?_
    | refine blk_miss rfl ?_
    | refine loop_exit ?_
    | refine loop_ret ?_
    | refine DW_ret ?_
    | refine DW_exit ?_
    | refine DW_skip ?_
    | refine DW_cond_t rfl ?_
    | refine DW_cond_f rfl ?_
    | (apply dpC rfl; case h => first | exact S_call hR rfl | exact S_call hG rfl | exact S_call hB rfl | exact S_call hF rfl | (apply Pu.ok; repeat' (first | rfl | exact .inK (by simp only [InK]; omega) | exact .inK (by simp only [InK]; simp at hg; omega) | exact .wr | constructor | decide | omega)))
    | refine dpOff rfl rfl ?_
    | ((first | apply dp rfl | apply dpOn rfl rfl | apply dpMay rfl rfl (by first | exact fun _ => trivial | exact fun h => ⟨h, trivial⟩ | exact fun h => ⟨h, h, trivial⟩ | exact fun h => ⟨h, h, h, trivial⟩)); case h => ((try intro hg); first | exact as_bool (S_neq rfl rfl) (decide_eq_false (fun h => h h1)) | exact as_bool (S_neq rfl rfl) (decide_eq_false (fun h => h h2)) | exact as_bool (S_neq rfl rfl) (decide_eq_true h3) | exact S_call hR rfl | exact S_call hG rfl | exact S_call hB rfl | exact S_call hF rfl | (apply Pu.ok; repeat' (first | rfl | exact .inK (by simp only [InK]; omega) | exact .inK (by simp only [InK]; simp at hg; omega) | exact .wr | constructor | decide | omega))))
    | refine dpickAnd rfl rfl rfl rfl rfl ?_ | refine dpickOr rfl rfl rfl rfl rfl ?_
    | (apply dt rfl; case h => first | exact S_alloc _ rfl | exact S_box _ rfl rfl)
    | (apply ds; case h => first | exact S_store rfl rfl rfl rfl rfl rfl)
    | (apply dm rfl; case h => first | exact M_d rfl | exact S_alloc 2001 rfl | exact S_alloc 2002 rfl | exact S_alloc 2003 rfl | exact S_alloc 2004 rfl | exact S_alloc 2005 rfl)
    | fail)
    exact gOld (.tmp rfl (.tmp rfl (.tmp rfl .nil))) Wk_none rfl
  by_cases h4 : f.wrong = 0
  case neg =>
    rw [show relayS r gs l port f = ([], [], f.wrong) by unfold relayS; rw [if_neg (fun h => h h1), if_neg (fun h => h h2), if_neg (fun h => h h3), if_pos h4]]
    repeat' (first
    | refine DW_seq ?_
    | refine DW_region ?_
    | refine DW_draw ?_
    | refine dnilP ?_
    | refine dnilD (by kernel_rfl) ?_
    | refine then_normal ?_
    | refine then_exit ?_
    | refine then_ret ?_
    | refine DW_block ?_
    | refine blk_normal ?_
    | refine blk_ret ?_
    | refine blk_hit rfl ?_
    | refine blk_miss rfl ?_
    | refine loop_exit ?_
    | refine loop_ret ?_
    | refine DW_ret ?_
    | refine DW_exit ?_
    | refine DW_skip ?_
    | refine DW_cond_t rfl ?_
    | refine DW_cond_f rfl ?_
    | (apply dpC rfl; case h => first | exact S_call hR rfl | exact S_call hG rfl | exact S_call hB rfl | exact S_call hF rfl | (apply Pu.ok; repeat' (first | rfl | exact .inK (by simp only [InK]; omega) | exact .inK (by simp only [InK]; simp at hg; omega) | exact .wr | constructor | decide | omega)))
    | refine dpOff rfl rfl ?_
    | ((first | apply dp rfl | apply dpOn rfl rfl | apply dpMay rfl rfl (by first | exact fun _ => trivial | exact fun h => ⟨h, trivial⟩ | exact fun h => ⟨h, h, trivial⟩ | exact fun h => ⟨h, h, h, trivial⟩)); case h => ((try intro hg); first | exact as_bool (S_neq rfl rfl) (decide_eq_false (fun h => h h1)) | exact as_bool (S_neq rfl rfl) (decide_eq_false (fun h => h h2)) | exact as_bool (S_neq rfl rfl) (decide_eq_false (fun h => h h3)) | exact as_bool (S_neq rfl rfl) (decide_eq_true h4) | exact S_call hR rfl | exact S_call hG rfl | exact S_call hB rfl | exact S_call hF rfl | (apply Pu.ok; repeat' (first | rfl | exact .inK (by simp only [InK]; omega) | exact .inK (by simp only [InK]; simp at hg; omega) | exact .wr | constructor | decide | omega))))
    | refine dpickAnd rfl rfl rfl rfl rfl ?_ | refine dpickOr rfl rfl rfl rfl rfl ?_
    | (apply dt rfl; case h => first | exact S_alloc _ rfl | exact S_box _ rfl rfl)
    | (apply ds; case h => first | exact S_store rfl rfl rfl rfl rfl rfl)
    | (apply dm rfl; case h => first | exact M_d rfl | exact S_alloc 2001 rfl | exact S_alloc 2002 rfl | exact S_alloc 2003 rfl | exact S_alloc 2004 rfl | exact S_alloc 2005 rfl)
    | fail)
    exact gOld (.tmp rfl (.tmp rfl (.tmp rfl .nil))) Wk_none rfl
  rw [relayS_right ⟨h1, h2, h3, h4⟩]
  have hgr := rightG_of h2
  have hbr := right_of h3
  have hrr := region_right h1
  have hl30 := hbr.n
  have hgn := hgr.n
  have hml : (gs.map gateV).length = gs.length := by simp
  have hfd := wrong_data h4
  repeat' (first
    | refine DW_seq ?_
    | refine DW_region ?_
    | refine DW_draw ?_
    | refine dnilP ?_
    | refine dnilD (by kernel_rfl) ?_
    | refine then_normal ?_
    | refine then_exit ?_
    | refine then_ret ?_
    | refine DW_block ?_
    | refine blk_normal ?_
    | refine blk_ret ?_
    | refine blk_hit rfl ?_
    | refine blk_miss rfl ?_
    | refine loop_exit ?_
    | refine loop_ret ?_
    | refine DW_ret ?_
    | refine DW_exit ?_
    | refine DW_skip ?_
    | refine DW_cond_t rfl ?_
    | refine DW_cond_f rfl ?_
    | (apply dpC rfl; case h => first | exact S_call hR rfl | exact S_call hG rfl | exact S_call hB rfl | exact S_call hF rfl | (apply Pu.ok; repeat' (first | rfl | exact .inK (by simp only [InK]; omega) | exact .inK (by simp only [InK]; simp at hg; omega) | exact .wr | constructor | decide | omega)))
    | refine dpOff rfl rfl ?_
    | ((first | apply dp rfl | apply dpOn rfl rfl | apply dpMay rfl rfl (by first | exact fun _ => trivial | exact fun h => ⟨h, trivial⟩ | exact fun h => ⟨h, h, trivial⟩ | exact fun h => ⟨h, h, h, trivial⟩)); case h => ((try intro hg); first | exact as_bool (S_neq rfl rfl) (decide_eq_false (fun h => h h1)) | exact as_bool (S_neq rfl rfl) (decide_eq_false (fun h => h h2)) | exact as_bool (S_neq rfl rfl) (decide_eq_false (fun h => h h3)) | exact as_bool (S_neq rfl rfl) (decide_eq_false (fun h => h h4)) | exact S_call hR rfl | exact S_call hG rfl | exact S_call hB rfl | exact S_call hF rfl | (apply Pu.ok; repeat' (first | rfl | exact .inK (by simp only [InK]; omega) | exact .inK (by simp only [InK]; simp at hg; omega) | exact .wr | constructor | decide | omega))))
    | refine dpickAnd rfl rfl rfl rfl rfl ?_ | refine dpickOr rfl rfl rfl rfl rfl ?_
    | (apply dt rfl; case h => first | exact S_alloc _ rfl | exact S_box _ rfl rfl)
    | (apply ds; case h => first | exact S_store rfl rfl rfl rfl rfl rfl)
    | (apply dm rfl; case h => first | exact M_d rfl | exact S_alloc 2001 rfl | exact S_alloc 2002 rfl | exact S_alloc 2003 rfl | exact S_alloc 2004 rfl | exact S_alloc 2005 rfl)
    | fail)
  refine DW_loop (fun q : Nat × Int => ⟨[(1, .dat false (.slice (gs.map gateV))), (2, .dat false (.slice (l.map entV))), (3, .dat false (.int .i64 port)), (5, .ptr 5 0), (9, .ptr 9 0), (17, .dat true (.int .i64 q.2)), (51, .dat false (.slice (gs.map gateV))), (52, .dat true (.int .i64 (gs.map gateV).length)), (53, .dat true (.int .i64 q.1))],
      [(5, .cells false true (r.cells.map (.dat false))), (9, .cells false true (f.cells.map (.dat false)))], 173⟩)
    (fun q => q.1 ≤ gs.length ∧ ((q.2 = -1 ∧ ∀ j g, j < q.1 → gs[j]? = some g → g.port ≠ port) ∨ ∃ n g, q.2 = ((n : Nat) : Int) ∧ gs[n]? = some g ∧ g.port = port)) (fun q => gs.length - q.1) (0, -1) ⟨Nat.zero_le _, .inl ⟨rfl, fun j g h => absurd h (Nat.not_lt_zero _)⟩⟩
    (Wk_gen some rfl rfl (by (repeat' (first | exact trivial | rfl | exact listLe_map _ | exact ⟨_, rfl, .inl rfl⟩ | exact ⟨_, rfl, .inr (.inl rfl)⟩ | exact ⟨_, rfl, .inr (.inr rfl)⟩ | refine ⟨_, _, rfl, rfl, ?_⟩ | exact ⟨_, rfl, rfl⟩ | exact ⟨_, _, _, _, rfl, rfl, rfl⟩ | exact ⟨_, rfl⟩ | exact ⟨_, _, rfl⟩ | apply And.intro))) (by (repeat' (first | exact trivial | rfl | exact listLe_map _ | exact ⟨_, rfl, .inl rfl⟩ | exact ⟨_, rfl, .inr (.inl rfl)⟩ | exact ⟨_, rfl, .inr (.inr rfl)⟩ | refine ⟨_, _, rfl, rfl, ?_⟩ | exact ⟨_, rfl, rfl⟩ | exact ⟨_, _, _, _, rfl, rfl, rfl⟩ | exact ⟨_, rfl⟩ | exact ⟨_, _, rfl⟩ | apply And.intro)))) (fun q hq => ?_)
  obtain ⟨k, a⟩ := q
  obtain ⟨hk, ha⟩ := hq
  simp only at hk ha
  dsimp only
  by_cases hlt : k < gs.length
  · have hx1 : gs[k]? = some gs[k] := by simp [hlt]
    have hx2 : gs[(k : Int).toNat]? = some gs[k] := by simp [hlt]
    generalize gs[k] = u at hx1 hx2
    repeat' (first
    | refine DW_seq ?_
    | refine DW_region ?_
    | refine DW_draw ?_
    | refine dnilP ?_
    | refine dnilD (by kernel_rfl) ?_
    | refine then_normal ?_
    | refine then_exit ?_
    | refine then_ret ?_
    | refine DW_block ?_
    | refine blk_normal ?_
    | refine blk_ret ?_
    | refine blk_hit rfl ?_
    | refine blk_miss rfl ?_
    | refine loop_exit ?_
    | refine loop_ret ?_
    | refine DW_ret ?_
    | refine DW_exit ?_
    | refine DW_skip ?_
    | refine DW_cond_t rfl ?_
    | refine DW_cond_f rfl ?_
    | refine DW_cond rfl (fun hc => ?_) (fun hc => ?_)
    | (apply dpC rfl; case h => first | (apply Pu.ok; repeat' (first | rfl | exact .inK (by simp only [InK]; omega) | exact .inK (by simp only [InK]; simp at hg; omega) | exact .wr | constructor | decide | omega)))
    | refine dpOff rfl rfl ?_
    | ((first | apply dp rfl | apply dpOn rfl rfl | apply dpMay rfl rfl (by first | exact fun _ => trivial | exact fun h => ⟨h, trivial⟩ | exact fun h => ⟨h, h, trivial⟩ | exact fun h => ⟨h, h, h, trivial⟩)); case h => ((try intro hg); first | exact as_bool (S_lss rfl rfl) (decide_eq_true (by omega : (k : Int) < ((gs.map gateV).length : Int))) | exact S_ixM rfl rfl (by omega) hx2 | (apply Pu.ok; repeat' (first | rfl | exact .inK (by simp only [InK]; omega) | exact .inK (by simp only [InK]; simp at hg; omega) | exact .wr | constructor | decide | omega))))
    | refine dpickAnd rfl rfl rfl rfl rfl ?_ | refine dpickOr rfl rfl rfl rfl rfl ?_
    | (apply dt rfl; case h => first | exact S_alloc _ rfl | exact S_box _ rfl rfl)
    | (apply ds; case h => first | exact S_store rfl rfl rfl rfl rfl rfl)
    | (apply dm rfl; case h => first | exact M_d rfl | exact S_alloc 2001 rfl | exact S_alloc 2002 rfl | exact S_alloc 2003 rfl | exact S_alloc 2004 rfl | exact S_alloc 2005 rfl)
    | fail)
    · refine loop_again (k + 1, (k : Int)) ⟨hlt, .inr ⟨k, u, rfl, hx1, of_decide_eq_true hc⟩⟩ (by simp only; omega) (Wk_gen some rfl rfl (by (repeat' (first | exact trivial | rfl | exact listLe_map _ | exact ⟨_, rfl, .inl rfl⟩ | exact ⟨_, rfl, .inr (.inl rfl)⟩ | exact ⟨_, rfl, .inr (.inr rfl)⟩ | refine ⟨_, _, rfl, rfl, ?_⟩ | exact ⟨_, rfl, rfl⟩ | exact ⟨_, _, _, _, rfl, rfl, rfl⟩ | exact ⟨_, rfl⟩ | exact ⟨_, _, rfl⟩ | apply And.intro))) (by (repeat' (first | exact trivial | rfl | exact listLe_map _ | exact ⟨_, rfl, .inl rfl⟩ | exact ⟨_, rfl, .inr (.inl rfl)⟩ | exact ⟨_, rfl, .inr (.inr rfl)⟩ | refine ⟨_, _, rfl, rfl, ?_⟩ | exact ⟨_, rfl, rfl⟩ | exact ⟨_, _, _, _, rfl, rfl, rfl⟩ | exact ⟨_, rfl⟩ | exact ⟨_, _, rfl⟩ | apply And.intro))))
    · refine loop_again (k + 1, a) ⟨hlt, ?_⟩ (by simp only; omega) (Wk_gen some rfl rfl (by (repeat' (first | exact trivial | rfl | exact listLe_map _ | exact ⟨_, rfl, .inl rfl⟩ | exact ⟨_, rfl, .inr (.inl rfl)⟩ | exact ⟨_, rfl, .inr (.inr rfl)⟩ | refine ⟨_, _, rfl, rfl, ?_⟩ | exact ⟨_, rfl, rfl⟩ | exact ⟨_, _, _, _, rfl, rfl, rfl⟩ | exact ⟨_, rfl⟩ | exact ⟨_, _, rfl⟩ | apply And.intro))) (by (repeat' (first | exact trivial | rfl | exact listLe_map _ | exact ⟨_, rfl, .inl rfl⟩ | exact ⟨_, rfl, .inr (.inl rfl)⟩ | exact ⟨_, rfl, .inr (.inr rfl)⟩ | refine ⟨_, _, rfl, rfl, ?_⟩ | exact ⟨_, rfl, rfl⟩ | exact ⟨_, _, _, _, rfl, rfl, rfl⟩ | exact ⟨_, rfl⟩ | exact ⟨_, _, rfl⟩ | apply And.intro))))
      rcases ha with ⟨ha, hn⟩ | ha
      · refine .inl ⟨ha, fun j g hj hg => ?_⟩
        rcases Nat.lt_succ_iff_lt_or_eq.1 hj with hj | rfl
        · exact hn j g hj hg
        · rw [hx1] at hg
          injection hg with hg
          subst hg
          exact of_decide_eq_false hc
      · exact .inr ha
  rcases ha with ⟨rfl, hn⟩ | ⟨n, g, rfl, i2, hgp⟩
  · rw [relayT_none (gateAt_none (fun j g hj => hn j g (by have := (List.getElem?_eq_some_iff.1 hj).1; omega) hj))]
    repeat' (first
    | refine DW_seq ?_
    | refine DW_region ?_
    | refine DW_draw ?_
    | refine dnilP ?_
    | refine dnilD (by kernel_rfl) ?_
    | refine then_normal ?_
    | refine then_exit ?_
    | refine then_ret ?_
    | refine DW_block ?_
    | refine blk_normal ?_
    | refine blk_ret ?_
    | refine blk_hit rfl ?_
    | refine blk_miss rfl ?_
    | refine loop_exit ?_
    | refine loop_ret ?_
    | refine DW_ret ?_
    | refine DW_exit ?_
    | refine DW_skip ?_
    | refine DW_cond_t rfl ?_
    | refine DW_cond_f rfl ?_
    | (apply dpC rfl; case h => first | (apply Pu.ok; repeat' (first | rfl | exact .inK (by simp only [InK]; omega) | exact .inK (by simp only [InK]; simp at hg; omega) | exact .wr | constructor | decide | omega)))
    | refine dpOff rfl rfl ?_
    | ((first | apply dp rfl | apply dpOn rfl rfl | apply dpMay rfl rfl (by first | exact fun _ => trivial | exact fun h => ⟨h, trivial⟩ | exact fun h => ⟨h, h, trivial⟩ | exact fun h => ⟨h, h, h, trivial⟩)); case h => ((try intro hg); first | exact as_bool (S_lss rfl rfl) (decide_eq_false (by omega : ¬ (k : Int) < ((gs.map gateV).length : Int))) | (apply Pu.ok; repeat' (first | rfl | exact .inK (by simp only [InK]; omega) | exact .inK (by simp only [InK]; simp at hg; omega) | exact .wr | constructor | decide | omega))))
    | refine dpickAnd rfl rfl rfl rfl rfl ?_ | refine dpickOr rfl rfl rfl rfl rfl ?_
    | (apply dt rfl; case h => first | exact S_alloc _ rfl | exact S_box _ rfl rfl)
    | (apply ds; case h => first | exact S_store rfl rfl rfl rfl rfl rfl)
    | (apply dm rfl; case h => first | exact M_d rfl | exact S_alloc 2001 rfl | exact S_alloc 2002 rfl | exact S_alloc 2003 rfl | exact S_alloc 2004 rfl | exact S_alloc 2005 rfl)
    | fail)
    exact gOld (.tmp rfl (.tmp rfl (.tmp rfl .nil))) Wk_none rfl
  have hga : gateAt gs port = some g := by rw [← hgp]; exact gateAt_of hgr.s i2
  rw [relayT_some hga]
  have hgm : g ∈ gs := List.mem_of_getElem? i2
  have hg := hgr.g g hgm
  have hwi := way_in hg h4
  have hx : gs[((n : Nat) : Int).toNat]? = some g := by rw [Int.toNat_natCast]; exact i2
  have hbl : blockB g r f = (decide (wayOf g f = 0) || !g.passes r (wayOf g f) || reservedB f.dst) := rfl
  have hwp := way_pos (g := g) h4
  have hq16 := quo16 hf.d0 hf.d1
  unfold relayG
  have hrb : reservedB f.dst = decide (IntKind.u64.shrI f.dst 4 = 103282638848) := rfl
  rw [hrb] at hbl
  have cp := ref8_Passes g r (wayOf g f) hrr
  generalize wayOf g f = v at cp hwi hbl hwp ⊢
  cases hcb : (f.tagged && decide (0 < f.vid))
  · rw [if_neg (fun h => by rw [h.1, decide_eq_true h.2] at hcb; cases hcb)] at hwp
    subst hwp
    have hlr := (learn_right (v := g.plain) (a := f.src) (p := port) hbr).1
    have c5 := ref8_Learn l g.plain f.src port ⟨hf.s0, hf.s1⟩ (by omega)
    rw [learnR_eq hbr] at c5
    have c6 := ref8_Look (learnL l g.plain f.src port) g.plain f.dst
    generalize learnL l g.plain f.src port = m at c5 c6 hlr ⊢
    generalize (lookS m g.plain f.dst).1 = at' at c6 ⊢
    generalize (lookS m g.plain f.dst).2 = known at c6 ⊢
    repeat' (first
    | (apply DW_false rfl; case hb => exact hcb)
    | refine DW_seq ?_
    | refine DW_region ?_
    | refine DW_draw ?_
    | refine dnilP ?_
    | refine dnilD (by kernel_rfl) ?_
    | refine then_normal ?_
    | refine then_exit ?_
    | refine then_ret ?_
    | refine DW_block ?_
    | refine blk_normal ?_
    | refine blk_ret ?_
    | refine blk_hit rfl ?_
    | refine blk_miss rfl ?_
    | refine loop_exit ?_
    | refine loop_ret ?_
    | refine DW_ret ?_
    | refine DW_exit ?_
    | refine DW_skip ?_
    | refine DW_cond_t rfl ?_
    | refine DW_cond_f rfl ?_
    | refine DW_cond rfl (fun hb => ?_) (fun hb => ?_)
    | (apply dpC rfl; case h => first | exact S_call cp rfl | exact S_callGD c5 rfl | exact S_call c6 rfl | (apply Pu.ok; repeat' (first | rfl | exact .inK (by simp only [InK]; omega) | exact .inK (by simp only [InK]; simp at hg; omega) | exact .wr | constructor | decide | omega)))
    | refine dpOff rfl rfl ?_
    | ((first | apply dp rfl | apply dpOn rfl rfl | apply dpMay rfl rfl (by first | exact fun _ => trivial | exact fun h => ⟨h, trivial⟩ | exact fun h => ⟨h, h, trivial⟩ | exact fun h => ⟨h, h, h, trivial⟩)); case h => ((try intro hg); first | exact as_bool (S_lss rfl rfl) (decide_eq_false (by omega : ¬ (k : Int) < ((gs.map gateV).length : Int))) | exact as_bool (S_lss rfl rfl) (decide_eq_false (by omega : ¬ ((n : Nat) : Int) < 0)) | exact S_ixM rfl rfl (by omega) hx | exact as_int (S_quo rfl rfl (by decide)) hq16 | exact S_call cp rfl | exact S_callGD c5 rfl | exact S_call c6 rfl | (apply Pu.ok; repeat' (first | rfl | exact .inK (by simp only [InK]; omega) | exact .inK (by simp only [InK]; simp at hg; omega) | exact .wr | constructor | decide | omega))))
    | refine dpickAnd rfl rfl rfl rfl rfl ?_ | refine dpickOr rfl rfl rfl rfl rfl ?_
    | (apply dt rfl; case h => first | exact S_alloc _ rfl | exact S_box _ rfl rfl)
    | (apply ds; case h => first | exact S_store rfl rfl rfl rfl rfl rfl)
    | (apply dm rfl; case h => first | exact M_d rfl | exact S_alloc 2001 rfl | exact S_alloc 2002 rfl | exact S_alloc 2003 rfl | exact S_alloc 2004 rfl | exact S_alloc 2005 rfl)
    | fail)
    · rw [if_pos (hbl.trans hb)]
      exact gOld (.tmp rfl (.tmp rfl (.tmp rfl .nil))) Wk_none rfl
    rw [if_neg (fun h => by rw [hbl.symm.trans h] at hb; cases hb)]
    dsimp only
    refine DW_loop (fun q : Nat × List OutF => ⟨[(1, .dat false (.slice (gs.map gateV))), (2, .dat false (.slice (m.map entV))), (5, .ptr 5 0), (9, .ptr 9 0), (17, .dat true (.int .i64 n)), (20, .dat false (.int .i64 g.plain)), (21, .dat true (.int .i64 at')), (22, .dat true (.bool known)), (23, .own 169 0 0 q.2.length), (113, .dat false (.slice (gs.map gateV))), (114, .dat true (.int .i64 (gs.map gateV).length)), (115, .dat true (.int .i64 q.1))],
        [(5, .cells false true (r.cells.map (.dat false))), (9, .cells false true (f.cells.map (.dat false))), (169, .row 0 false false 9 (q.2.map outV))], 173⟩)
      (fun q => q.1 ≤ gs.length ∧ q.2 = outsG r (gs.take q.1) g.plain port at' known f) (fun q => gs.length - q.1) (0, []) ⟨Nat.zero_le _, by with_unfolding_all rfl⟩
      (Wk_gen (fun g => if g = 169 then none else some g) rfl rfl (by (repeat' (first | exact trivial | rfl | exact listLe_map _ | exact ⟨_, rfl, .inl rfl⟩ | exact ⟨_, rfl, .inr (.inl rfl)⟩ | exact ⟨_, rfl, .inr (.inr rfl)⟩ | refine ⟨_, _, rfl, rfl, ?_⟩ | exact ⟨_, rfl, rfl⟩ | exact ⟨_, _, _, _, rfl, rfl, rfl⟩ | exact ⟨_, rfl⟩ | exact ⟨_, _, rfl⟩ | apply And.intro))) (by (repeat' (first | exact trivial | rfl | exact listLe_map _ | exact ⟨_, rfl, .inl rfl⟩ | exact ⟨_, rfl, .inr (.inl rfl)⟩ | exact ⟨_, rfl, .inr (.inr rfl)⟩ | refine ⟨_, _, rfl, rfl, ?_⟩ | exact ⟨_, rfl, rfl⟩ | exact ⟨_, _, _, _, rfl, rfl, rfl⟩ | exact ⟨_, rfl⟩ | exact ⟨_, _, rfl⟩ | apply And.intro)))) (fun q hq => ?_)
    obtain ⟨k, outs⟩ := q
    obtain ⟨hk, ho⟩ := hq
    simp only at hk ho
    dsimp only
    by_cases hlt : k < gs.length
    · have hx1 : gs[k]? = some gs[k] := by simp [hlt]
      have hx2 : gs[(k : Int).toNat]? = some gs[k] := by simp [hlt]
      have hnx := outsG_next (r := r) (v := g.plain) (port := port) (at' := at') (known := known) (f := f) hx1
      have hug := hgr.g gs[k] (List.mem_of_getElem? hx1)
      have hpo := port_one hgr.s i2 hx1
      rw [hgp] at hpo
      generalize gs[k] = u at hx1 hx2 hnx hug hpo
      have cp2 := ref8_Passes u r g.plain hrr
      have hpi : decide ((k : Int) = (n : Int)) = decide (u.port = port) := by
        rw [Bool.eq_iff_iff, decide_eq_true_iff, decide_eq_true_iff, hpo]; omega
      have hsk : skipG r g.plain port at' known u = (decide (u.port = port) || (known && decide (u.port ≠ at')) || !u.passes r g.plain) := rfl
      have hol : outs.length ≤ 31 := by
        rw [ho]
        have := outsG_len r (gs.take k) g.plain port at' known f
        have := List.length_take_le k gs
        omega
      by_cases hpl : u.plain = g.plain
      · repeat' (first
    | refine DW_seq ?_
    | refine DW_region ?_
    | refine DW_draw ?_
    | refine dnilP ?_
    | refine dnilD (by kernel_rfl) ?_
    | refine then_normal ?_
    | refine then_exit ?_
    | refine then_ret ?_
    | refine DW_block ?_
    | refine blk_normal ?_
    | refine blk_ret ?_
    | refine blk_hit rfl ?_
    | refine blk_miss rfl ?_
    | refine loop_exit ?_
    | refine loop_ret ?_
    | refine DW_ret ?_
    | refine DW_exit ?_
    | refine DW_skip ?_
    | refine DW_cond_t rfl ?_
    | refine DW_cond_f rfl ?_
    | refine DW_cond rfl (fun hc => ?_) (fun hc => ?_)
    | (apply dpC rfl; case h => first | exact S_call cp2 rfl | (apply Pu.ok; repeat' (first | rfl | exact .inK (by simp only [InK]; omega) | exact .inK (by simp only [InK]; simp at hg; omega) | exact .wr | constructor | decide | omega)))
    | (apply dmC rfl; case h => first | exact S_appM (f := outV) (us := outs) (bs := [(u.port, ⟨f.dst, f.src, false, 0, false, 0, f.typ, f.data⟩)]) rfl rfl (.dat _ _) rfl rfl (.inl rfl) rfl (by simp only [List.length_cons, List.length_nil]; omega) | exact S_appM (f := outV) (us := outs) (bs := [(u.port, ⟨f.dst, f.src, true, f.prio, f.drop, g.plain, f.typ, f.data⟩)]) rfl rfl (.dat _ _) rfl rfl (.inl rfl) rfl (by simp only [List.length_cons, List.length_nil]; omega) | exact S_appM (f := outV) (us := outs) (bs := [(u.port, ⟨f.dst, f.src, true, 0, false, g.plain, f.typ, f.data⟩)]) rfl rfl (.dat _ _) rfl rfl (.inl rfl) rfl (by simp only [List.length_cons, List.length_nil]; omega) | exact S_appM (f := outV) (us := outs) (bs := [(u.port, ⟨f.dst, f.src, true, f.prio, f.drop, f.vid, f.typ, f.data⟩)]) rfl rfl (.dat _ _) rfl rfl (.inl rfl) rfl (by simp only [List.length_cons, List.length_nil]; omega) | exact S_appM (f := outV) (us := outs) (bs := [(u.port, ⟨f.dst, f.src, true, 0, false, f.vid, f.typ, f.data⟩)]) rfl rfl (.dat _ _) rfl rfl (.inl rfl) rfl (by simp only [List.length_cons, List.length_nil]; omega))
    | refine dpOff rfl rfl ?_
    | (apply dmOn rfl rfl; case h => first | exact S_appM (f := outV) (us := outs) (bs := [(u.port, ⟨f.dst, f.src, false, 0, false, 0, f.typ, f.data⟩)]) rfl rfl (.dat _ _) rfl rfl (.inl rfl) rfl (by simp only [List.length_cons, List.length_nil]; omega) | exact S_appM (f := outV) (us := outs) (bs := [(u.port, ⟨f.dst, f.src, true, f.prio, f.drop, g.plain, f.typ, f.data⟩)]) rfl rfl (.dat _ _) rfl rfl (.inl rfl) rfl (by simp only [List.length_cons, List.length_nil]; omega) | exact S_appM (f := outV) (us := outs) (bs := [(u.port, ⟨f.dst, f.src, true, 0, false, g.plain, f.typ, f.data⟩)]) rfl rfl (.dat _ _) rfl rfl (.inl rfl) rfl (by simp only [List.length_cons, List.length_nil]; omega) | exact S_appM (f := outV) (us := outs) (bs := [(u.port, ⟨f.dst, f.src, true, f.prio, f.drop, f.vid, f.typ, f.data⟩)]) rfl rfl (.dat _ _) rfl rfl (.inl rfl) rfl (by simp only [List.length_cons, List.length_nil]; omega) | exact S_appM (f := outV) (us := outs) (bs := [(u.port, ⟨f.dst, f.src, true, 0, false, f.vid, f.typ, f.data⟩)]) rfl rfl (.dat _ _) rfl rfl (.inl rfl) rfl (by simp only [List.length_cons, List.length_nil]; omega))
    | ((first | apply dp rfl | apply dpOn rfl rfl | apply dpMay rfl rfl (by first | exact fun _ => trivial | exact fun h => ⟨h, trivial⟩ | exact fun h => ⟨h, h, trivial⟩ | exact fun h => ⟨h, h, h, trivial⟩)); case h => ((try intro hg); first | exact as_bool (S_lss rfl rfl) (decide_eq_true (by omega : (k : Int) < ((gs.map gateV).length : Int))) | exact S_ixM rfl rfl (by omega) hx2 | exact as_bool (S_eql rfl rfl) hpi | exact as_bool (S_neq rfl rfl) (decide_eq_false (fun h => h hpl)) | exact S_call cp2 rfl | exact S_appM (f := outV) (us := outs) (bs := [(u.port, ⟨f.dst, f.src, false, 0, false, 0, f.typ, f.data⟩)]) rfl rfl (.dat _ _) rfl rfl (.inl rfl) rfl (by simp only [List.length_cons, List.length_nil]; omega) | exact S_appM (f := outV) (us := outs) (bs := [(u.port, ⟨f.dst, f.src, true, f.prio, f.drop, g.plain, f.typ, f.data⟩)]) rfl rfl (.dat _ _) rfl rfl (.inl rfl) rfl (by simp only [List.length_cons, List.length_nil]; omega) | exact S_appM (f := outV) (us := outs) (bs := [(u.port, ⟨f.dst, f.src, true, 0, false, g.plain, f.typ, f.data⟩)]) rfl rfl (.dat _ _) rfl rfl (.inl rfl) rfl (by simp only [List.length_cons, List.length_nil]; omega) | exact S_appM (f := outV) (us := outs) (bs := [(u.port, ⟨f.dst, f.src, true, f.prio, f.drop, f.vid, f.typ, f.data⟩)]) rfl rfl (.dat _ _) rfl rfl (.inl rfl) rfl (by simp only [List.length_cons, List.length_nil]; omega) | exact S_appM (f := outV) (us := outs) (bs := [(u.port, ⟨f.dst, f.src, true, 0, false, f.vid, f.typ, f.data⟩)]) rfl rfl (.dat _ _) rfl rfl (.inl rfl) rfl (by simp only [List.length_cons, List.length_nil]; omega) | (apply Pu.ok; repeat' (first | rfl | exact .inK (by simp only [InK]; omega) | exact .inK (by simp only [InK]; simp at hg; omega) | exact .wr | constructor | decide | omega))))
    | refine dpickAnd rfl rfl rfl rfl rfl ?_ | refine dpickOr rfl rfl rfl rfl rfl ?_
    | (apply dt rfl; case h => first | exact S_alloc _ rfl | exact S_box _ rfl rfl)
    | (apply ds; case h => first | exact S_store rfl rfl rfl rfl rfl rfl)
    | (apply dm rfl; case h => first | exact M_d rfl | exact S_alloc 2001 rfl | exact S_alloc 2002 rfl | exact S_alloc 2003 rfl | exact S_alloc 2004 rfl | exact S_alloc 2005 rfl)
    | fail)
        · refine loop_again (k + 1, outs) ⟨hlt, ?_⟩ (by simp only; omega) (Wk_gen some rfl rfl (by (repeat' (first | exact trivial | rfl | exact listLe_map _ | exact ⟨_, rfl, .inl rfl⟩ | exact ⟨_, rfl, .inr (.inl rfl)⟩ | exact ⟨_, rfl, .inr (.inr rfl)⟩ | refine ⟨_, _, rfl, rfl, ?_⟩ | exact ⟨_, rfl, rfl⟩ | exact ⟨_, _, _, _, rfl, rfl, rfl⟩ | exact ⟨_, rfl⟩ | exact ⟨_, _, rfl⟩ | apply And.intro))) (by (repeat' (first | exact trivial | rfl | exact listLe_map _ | exact ⟨_, rfl, .inl rfl⟩ | exact ⟨_, rfl, .inr (.inl rfl)⟩ | exact ⟨_, rfl, .inr (.inr rfl)⟩ | refine ⟨_, _, rfl, rfl, ?_⟩ | exact ⟨_, rfl, rfl⟩ | exact ⟨_, _, _, _, rfl, rfl, rfl⟩ | exact ⟨_, rfl⟩ | exact ⟨_, _, rfl⟩ | apply And.intro))))
          simp only
          rw [hnx, if_pos (hsk.trans hc), List.append_nil, ho]
        · refine loop_again (k + 1, outs ++ [(u.port, ⟨f.dst, f.src, false, 0, false, 0, f.typ, f.data⟩)]) ⟨hlt, ?_⟩ (by simp only; omega) (Wk_gen some rfl rfl (by (repeat' (first | exact trivial | rfl | exact listLe_map _ | exact ⟨_, rfl, .inl rfl⟩ | exact ⟨_, rfl, .inr (.inl rfl)⟩ | exact ⟨_, rfl, .inr (.inr rfl)⟩ | refine ⟨_, _, rfl, rfl, ?_⟩ | exact ⟨_, rfl, rfl⟩ | exact ⟨_, _, _, _, rfl, rfl, rfl⟩ | exact ⟨_, rfl⟩ | exact ⟨_, _, rfl⟩ | apply And.intro))) (by (repeat' (first | exact trivial | rfl | exact listLe_map _ | exact ⟨_, rfl, .inl rfl⟩ | exact ⟨_, rfl, .inr (.inl rfl)⟩ | exact ⟨_, rfl, .inr (.inr rfl)⟩ | refine ⟨_, _, rfl, rfl, ?_⟩ | exact ⟨_, rfl, rfl⟩ | exact ⟨_, _, _, _, rfl, rfl, rfl⟩ | exact ⟨_, rfl⟩ | exact ⟨_, _, rfl⟩ | apply And.intro))))
          simp only
          rw [hnx, if_neg (fun h => by rw [hsk.symm.trans h] at hc; cases hc), leave_plain hpl, ho]
      · repeat' (first
    | refine DW_seq ?_
    | refine DW_region ?_
    | refine DW_draw ?_
    | refine dnilP ?_
    | refine dnilD (by kernel_rfl) ?_
    | refine then_normal ?_
    | refine then_exit ?_
    | refine then_ret ?_
    | refine DW_block ?_
    | refine blk_normal ?_
    | refine blk_ret ?_
    | refine blk_hit rfl ?_
    | refine blk_miss rfl ?_
    | refine loop_exit ?_
    | refine loop_ret ?_
    | refine DW_ret ?_
    | refine DW_exit ?_
    | refine DW_skip ?_
    | refine DW_cond_t rfl ?_
    | refine DW_cond_f rfl ?_
    | refine DW_cond rfl (fun hc => ?_) (fun hc => ?_)
    | (apply dpC rfl; case h => first | exact S_call cp2 rfl | (apply Pu.ok; repeat' (first | rfl | exact .inK (by simp only [InK]; omega) | exact .inK (by simp only [InK]; simp at hg; omega) | exact .wr | constructor | decide | omega)))
    | (apply dmC rfl; case h => first | exact S_appM (f := outV) (us := outs) (bs := [(u.port, ⟨f.dst, f.src, false, 0, false, 0, f.typ, f.data⟩)]) rfl rfl (.dat _ _) rfl rfl (.inl rfl) rfl (by simp only [List.length_cons, List.length_nil]; omega) | exact S_appM (f := outV) (us := outs) (bs := [(u.port, ⟨f.dst, f.src, true, f.prio, f.drop, g.plain, f.typ, f.data⟩)]) rfl rfl (.dat _ _) rfl rfl (.inl rfl) rfl (by simp only [List.length_cons, List.length_nil]; omega) | exact S_appM (f := outV) (us := outs) (bs := [(u.port, ⟨f.dst, f.src, true, 0, false, g.plain, f.typ, f.data⟩)]) rfl rfl (.dat _ _) rfl rfl (.inl rfl) rfl (by simp only [List.length_cons, List.length_nil]; omega) | exact S_appM (f := outV) (us := outs) (bs := [(u.port, ⟨f.dst, f.src, true, f.prio, f.drop, f.vid, f.typ, f.data⟩)]) rfl rfl (.dat _ _) rfl rfl (.inl rfl) rfl (by simp only [List.length_cons, List.length_nil]; omega) | exact S_appM (f := outV) (us := outs) (bs := [(u.port, ⟨f.dst, f.src, true, 0, false, f.vid, f.typ, f.data⟩)]) rfl rfl (.dat _ _) rfl rfl (.inl rfl) rfl (by simp only [List.length_cons, List.length_nil]; omega))
    | refine dpOff rfl rfl ?_
    | (apply dmOn rfl rfl; case h => first | exact S_appM (f := outV) (us := outs) (bs := [(u.port, ⟨f.dst, f.src, false, 0, false, 0, f.typ, f.data⟩)]) rfl rfl (.dat _ _) rfl rfl (.inl rfl) rfl (by simp only [List.length_cons, List.length_nil]; omega) | exact S_appM (f := outV) (us := outs) (bs := [(u.port, ⟨f.dst, f.src, true, f.prio, f.drop, g.plain, f.typ, f.data⟩)]) rfl rfl (.dat _ _) rfl rfl (.inl rfl) rfl (by simp only [List.length_cons, List.length_nil]; omega) | exact S_appM (f := outV) (us := outs) (bs := [(u.port, ⟨f.dst, f.src, true, 0, false, g.plain, f.typ, f.data⟩)]) rfl rfl (.dat _ _) rfl rfl (.inl rfl) rfl (by simp only [List.length_cons, List.length_nil]; omega) | exact S_appM (f := outV) (us := outs) (bs := [(u.port, ⟨f.dst, f.src, true, f.prio, f.drop, f.vid, f.typ, f.data⟩)]) rfl rfl (.dat _ _) rfl rfl (.inl rfl) rfl (by simp only [List.length_cons, List.length_nil]; omega) | exact S_appM (f := outV) (us := outs) (bs := [(u.port, ⟨f.dst, f.src, true, 0, false, f.vid, f.typ, f.data⟩)]) rfl rfl (.dat _ _) rfl rfl (.inl rfl) rfl (by simp only [List.length_cons, List.length_nil]; omega))
    | ((first | apply dp rfl | apply dpOn rfl rfl | apply dpMay rfl rfl (by first | exact fun _ => trivial | exact fun h => ⟨h, trivial⟩ | exact fun h => ⟨h, h, trivial⟩ | exact fun h => ⟨h, h, h, trivial⟩)); case h => ((try intro hg); first | exact as_bool (S_lss rfl rfl) (decide_eq_true (by omega : (k : Int) < ((gs.map gateV).length : Int))) | exact S_ixM rfl rfl (by omega) hx2 | exact as_bool (S_eql rfl rfl) hpi | exact as_bool (S_neq rfl rfl) (decide_eq_true hpl) | exact S_call cp2 rfl | exact S_appM (f := outV) (us := outs) (bs := [(u.port, ⟨f.dst, f.src, false, 0, false, 0, f.typ, f.data⟩)]) rfl rfl (.dat _ _) rfl rfl (.inl rfl) rfl (by simp only [List.length_cons, List.length_nil]; omega) | exact S_appM (f := outV) (us := outs) (bs := [(u.port, ⟨f.dst, f.src, true, f.prio, f.drop, g.plain, f.typ, f.data⟩)]) rfl rfl (.dat _ _) rfl rfl (.inl rfl) rfl (by simp only [List.length_cons, List.length_nil]; omega) | exact S_appM (f := outV) (us := outs) (bs := [(u.port, ⟨f.dst, f.src, true, 0, false, g.plain, f.typ, f.data⟩)]) rfl rfl (.dat _ _) rfl rfl (.inl rfl) rfl (by simp only [List.length_cons, List.length_nil]; omega) | exact S_appM (f := outV) (us := outs) (bs := [(u.port, ⟨f.dst, f.src, true, f.prio, f.drop, f.vid, f.typ, f.data⟩)]) rfl rfl (.dat _ _) rfl rfl (.inl rfl) rfl (by simp only [List.length_cons, List.length_nil]; omega) | exact S_appM (f := outV) (us := outs) (bs := [(u.port, ⟨f.dst, f.src, true, 0, false, f.vid, f.typ, f.data⟩)]) rfl rfl (.dat _ _) rfl rfl (.inl rfl) rfl (by simp only [List.length_cons, List.length_nil]; omega) | (apply Pu.ok; repeat' (first | rfl | exact .inK (by simp only [InK]; omega) | exact .inK (by simp only [InK]; simp at hg; omega) | exact .wr | constructor | decide | omega))))
    | refine dpickAnd rfl rfl rfl rfl rfl ?_ | refine dpickOr rfl rfl rfl rfl rfl ?_
    | (apply dt rfl; case h => first | exact S_alloc _ rfl | exact S_box _ rfl rfl)
    | (apply ds; case h => first | exact S_store rfl rfl rfl rfl rfl rfl)
    | (apply dm rfl; case h => first | exact M_d rfl | exact S_alloc 2001 rfl | exact S_alloc 2002 rfl | exact S_alloc 2003 rfl | exact S_alloc 2004 rfl | exact S_alloc 2005 rfl)
    | fail)
        · refine loop_again (k + 1, outs) ⟨hlt, ?_⟩ (by simp only; omega) (Wk_gen some rfl rfl (by (repeat' (first | exact trivial | rfl | exact listLe_map _ | exact ⟨_, rfl, .inl rfl⟩ | exact ⟨_, rfl, .inr (.inl rfl)⟩ | exact ⟨_, rfl, .inr (.inr rfl)⟩ | refine ⟨_, _, rfl, rfl, ?_⟩ | exact ⟨_, rfl, rfl⟩ | exact ⟨_, _, _, _, rfl, rfl, rfl⟩ | exact ⟨_, rfl⟩ | exact ⟨_, _, rfl⟩ | apply And.intro))) (by (repeat' (first | exact trivial | rfl | exact listLe_map _ | exact ⟨_, rfl, .inl rfl⟩ | exact ⟨_, rfl, .inr (.inl rfl)⟩ | exact ⟨_, rfl, .inr (.inr rfl)⟩ | refine ⟨_, _, rfl, rfl, ?_⟩ | exact ⟨_, rfl, rfl⟩ | exact ⟨_, _, _, _, rfl, rfl, rfl⟩ | exact ⟨_, rfl⟩ | exact ⟨_, _, rfl⟩ | apply And.intro))))
          simp only
          rw [hnx, if_pos (hsk.trans hc), List.append_nil, ho]
        · rename_i hc1
          refine loop_again (k + 1, outs ++ [(u.port, ⟨f.dst, f.src, true, f.prio, f.drop, g.plain, f.typ, f.data⟩)]) ⟨hlt, ?_⟩ (by simp only; omega) (Wk_gen some rfl rfl (by (repeat' (first | exact trivial | rfl | exact listLe_map _ | exact ⟨_, rfl, .inl rfl⟩ | exact ⟨_, rfl, .inr (.inl rfl)⟩ | exact ⟨_, rfl, .inr (.inr rfl)⟩ | refine ⟨_, _, rfl, rfl, ?_⟩ | exact ⟨_, rfl, rfl⟩ | exact ⟨_, _, _, _, rfl, rfl, rfl⟩ | exact ⟨_, rfl⟩ | exact ⟨_, _, rfl⟩ | apply And.intro))) (by (repeat' (first | exact trivial | rfl | exact listLe_map _ | exact ⟨_, rfl, .inl rfl⟩ | exact ⟨_, rfl, .inr (.inl rfl)⟩ | exact ⟨_, rfl, .inr (.inr rfl)⟩ | refine ⟨_, _, rfl, rfl, ?_⟩ | exact ⟨_, rfl, rfl⟩ | exact ⟨_, _, _, _, rfl, rfl, rfl⟩ | exact ⟨_, rfl⟩ | exact ⟨_, _, rfl⟩ | apply And.intro))))
          simp only
          rw [hnx, if_neg (fun h => by rw [hsk.symm.trans h] at hc1; cases hc1), leave_tag hpl hc, ho]
        · rename_i hc1
          refine loop_again (k + 1, outs ++ [(u.port, ⟨f.dst, f.src, true, 0, false, g.plain, f.typ, f.data⟩)]) ⟨hlt, ?_⟩ (by simp only; omega) (Wk_gen some rfl rfl (by (repeat' (first | exact trivial | rfl | exact listLe_map _ | exact ⟨_, rfl, .inl rfl⟩ | exact ⟨_, rfl, .inr (.inl rfl)⟩ | exact ⟨_, rfl, .inr (.inr rfl)⟩ | refine ⟨_, _, rfl, rfl, ?_⟩ | exact ⟨_, rfl, rfl⟩ | exact ⟨_, _, _, _, rfl, rfl, rfl⟩ | exact ⟨_, rfl⟩ | exact ⟨_, _, rfl⟩ | apply And.intro))) (by (repeat' (first | exact trivial | rfl | exact listLe_map _ | exact ⟨_, rfl, .inl rfl⟩ | exact ⟨_, rfl, .inr (.inl rfl)⟩ | exact ⟨_, rfl, .inr (.inr rfl)⟩ | refine ⟨_, _, rfl, rfl, ?_⟩ | exact ⟨_, rfl, rfl⟩ | exact ⟨_, _, _, _, rfl, rfl, rfl⟩ | exact ⟨_, rfl⟩ | exact ⟨_, _, rfl⟩ | apply And.intro))))
          simp only
          rw [hnx, if_neg (fun h => by rw [hsk.symm.trans h] at hc1; cases hc1), leave_new hpl hc, ho]
    · rw [List.take_of_length_le (by omega)] at ho
      repeat' (first
    | (refine DW_seal 10 rfl rfl (by simp) ?_; refine DW_ret ?_)
    | refine DW_seq ?_
    | refine DW_region ?_
    | refine DW_draw ?_
    | refine dnilP ?_
    | refine dnilD (by kernel_rfl) ?_
    | refine then_normal ?_
    | refine then_exit ?_
    | refine then_ret ?_
    | refine DW_block ?_
    | refine blk_normal ?_
    | refine blk_ret ?_
    | refine blk_hit rfl ?_
    | refine blk_miss rfl ?_
    | refine loop_exit ?_
    | refine loop_ret ?_
    | refine DW_ret ?_
    | refine DW_exit ?_
    | refine DW_skip ?_
    | refine DW_cond_t rfl ?_
    | refine DW_cond_f rfl ?_
    | (apply dpC rfl; case h => first | (apply Pu.ok; repeat' (first | rfl | exact .inK (by simp only [InK]; omega) | exact .inK (by simp only [InK]; simp at hg; omega) | exact .wr | constructor | decide | omega)))
    | refine dpOff rfl rfl ?_
    | ((first | apply dp rfl | apply dpOn rfl rfl | apply dpMay rfl rfl (by first | exact fun _ => trivial | exact fun h => ⟨h, trivial⟩ | exact fun h => ⟨h, h, trivial⟩ | exact fun h => ⟨h, h, h, trivial⟩)); case h => ((try intro hg); first | exact as_bool (S_lss rfl rfl) (decide_eq_false (by omega : ¬ (k : Int) < ((gs.map gateV).length : Int))) | (apply Pu.ok; repeat' (first | rfl | exact .inK (by simp only [InK]; omega) | exact .inK (by simp only [InK]; simp at hg; omega) | exact .wr | constructor | decide | omega))))
    | refine dpickAnd rfl rfl rfl rfl rfl ?_ | refine dpickOr rfl rfl rfl rfl rfl ?_
    | (apply dt rfl; case h => first | exact S_alloc _ rfl | exact S_box _ rfl rfl)
    | (apply ds; case h => first | exact S_store rfl rfl rfl rfl rfl rfl)
    | (apply dm rfl; case h => first | exact M_d rfl | exact S_alloc 2001 rfl | exact S_alloc 2002 rfl | exact S_alloc 2003 rfl | exact S_alloc 2004 rfl | exact S_alloc 2005 rfl)
    | fail)
      rw [← ho]
      exact gOld (.tmp rfl (.tmp rfl (.tmp rfl .nil))) Wk_none rfl
  · rw [if_pos (by simpa using hcb)] at hwp
    subst hwp
    have hlr := (learn_right (v := f.vid) (a := f.src) (p := port) hbr).1
    have c5 := ref8_Learn l f.vid f.src port ⟨hf.s0, hf.s1⟩ (by omega)
    rw [learnR_eq hbr] at c5
    have c6 := ref8_Look (learnL l f.vid f.src port) f.vid f.dst
    generalize learnL l f.vid f.src port = m at c5 c6 hlr ⊢
    generalize (lookS m f.vid f.dst).1 = at' at c6 ⊢
    generalize (lookS m f.vid f.dst).2 = known at c6 ⊢
    repeat' (first
    | (apply DW_true rfl; case hb => exact hcb)
    | refine DW_seq ?_
    | refine DW_region ?_
    | refine DW_draw ?_
    | refine dnilP ?_
    | refine dnilD (by kernel_rfl) ?_
    | refine then_normal ?_
    | refine then_exit ?_
    | refine then_ret ?_
    | refine DW_block ?_
    | refine blk_normal ?_
    | refine blk_ret ?_
    | refine blk_hit rfl ?_
    | refine blk_miss rfl ?_
    | refine loop_exit ?_
    | refine loop_ret ?_
    | refine DW_ret ?_
    | refine DW_exit ?_
    | refine DW_skip ?_
    | refine DW_cond_t rfl ?_
    | refine DW_cond_f rfl ?_
    | refine DW_cond rfl (fun hb => ?_) (fun hb => ?_)
    | (apply dpC rfl; case h => first | exact S_call cp rfl | exact S_callGD c5 rfl | exact S_call c6 rfl | (apply Pu.ok; repeat' (first | rfl | exact .inK (by simp only [InK]; omega) | exact .inK (by simp only [InK]; simp at hg; omega) | exact .wr | constructor | decide | omega)))
    | refine dpOff rfl rfl ?_
    | ((first | apply dp rfl | apply dpOn rfl rfl | apply dpMay rfl rfl (by first | exact fun _ => trivial | exact fun h => ⟨h, trivial⟩ | exact fun h => ⟨h, h, trivial⟩ | exact fun h => ⟨h, h, h, trivial⟩)); case h => ((try intro hg); first | exact as_bool (S_lss rfl rfl) (decide_eq_false (by omega : ¬ (k : Int) < ((gs.map gateV).length : Int))) | exact as_bool (S_lss rfl rfl) (decide_eq_false (by omega : ¬ ((n : Nat) : Int) < 0)) | exact S_ixM rfl rfl (by omega) hx | exact as_int (S_quo rfl rfl (by decide)) hq16 | exact S_call cp rfl | exact S_callGD c5 rfl | exact S_call c6 rfl | (apply Pu.ok; repeat' (first | rfl | exact .inK (by simp only [InK]; omega) | exact .inK (by simp only [InK]; simp at hg; omega) | exact .wr | constructor | decide | omega))))
    | refine dpickAnd rfl rfl rfl rfl rfl ?_ | refine dpickOr rfl rfl rfl rfl rfl ?_
    | (apply dt rfl; case h => first | exact S_alloc _ rfl | exact S_box _ rfl rfl)
    | (apply ds; case h => first | exact S_store rfl rfl rfl rfl rfl rfl)
    | (apply dm rfl; case h => first | exact M_d rfl | exact S_alloc 2001 rfl | exact S_alloc 2002 rfl | exact S_alloc 2003 rfl | exact S_alloc 2004 rfl | exact S_alloc 2005 rfl)
    | fail)
    · rw [if_pos (hbl.trans hb)]
      exact gOld (.tmp rfl (.tmp rfl (.tmp rfl .nil))) Wk_none rfl
    rw [if_neg (fun h => by rw [hbl.symm.trans h] at hb; cases hb)]
    dsimp only
    refine DW_loop (fun q : Nat × List OutF => ⟨[(1, .dat false (.slice (gs.map gateV))), (2, .dat false (.slice (m.map entV))), (5, .ptr 5 0), (9, .ptr 9 0), (17, .dat true (.int .i64 n)), (20, .dat false (.int .i64 f.vid)), (21, .dat true (.int .i64 at')), (22, .dat true (.bool known)), (23, .own 169 0 0 q.2.length), (113, .dat false (.slice (gs.map gateV))), (114, .dat true (.int .i64 (gs.map gateV).length)), (115, .dat true (.int .i64 q.1))],
        [(5, .cells false true (r.cells.map (.dat false))), (9, .cells false true (f.cells.map (.dat false))), (169, .row 0 false false 9 (q.2.map outV))], 173⟩)
      (fun q => q.1 ≤ gs.length ∧ q.2 = outsG r (gs.take q.1) f.vid port at' known f) (fun q => gs.length - q.1) (0, []) ⟨Nat.zero_le _, by with_unfolding_all rfl⟩
      (Wk_gen (fun g => if g = 169 then none else some g) rfl rfl (by (repeat' (first | exact trivial | rfl | exact listLe_map _ | exact ⟨_, rfl, .inl rfl⟩ | exact ⟨_, rfl, .inr (.inl rfl)⟩ | exact ⟨_, rfl, .inr (.inr rfl)⟩ | refine ⟨_, _, rfl, rfl, ?_⟩ | exact ⟨_, rfl, rfl⟩ | exact ⟨_, _, _, _, rfl, rfl, rfl⟩ | exact ⟨_, rfl⟩ | exact ⟨_, _, rfl⟩ | apply And.intro))) (by (repeat' (first | exact trivial | rfl | exact listLe_map _ | exact ⟨_, rfl, .inl rfl⟩ | exact ⟨_, rfl, .inr (.inl rfl)⟩ | exact ⟨_, rfl, .inr (.inr rfl)⟩ | refine ⟨_, _, rfl, rfl, ?_⟩ | exact ⟨_, rfl, rfl⟩ | exact ⟨_, _, _, _, rfl, rfl, rfl⟩ | exact ⟨_, rfl⟩ | exact ⟨_, _, rfl⟩ | apply And.intro)))) (fun q hq => ?_)
    obtain ⟨k, outs⟩ := q
    obtain ⟨hk, ho⟩ := hq
    simp only at hk ho
    dsimp only
    by_cases hlt : k < gs.length
    · have hx1 : gs[k]? = some gs[k] := by simp [hlt]
      have hx2 : gs[(k : Int).toNat]? = some gs[k] := by simp [hlt]
      have hnx := outsG_next (r := r) (v := f.vid) (port := port) (at' := at') (known := known) (f := f) hx1
      have hug := hgr.g gs[k] (List.mem_of_getElem? hx1)
      have hpo := port_one hgr.s i2 hx1
      rw [hgp] at hpo
      generalize gs[k] = u at hx1 hx2 hnx hug hpo
      have cp2 := ref8_Passes u r f.vid hrr
      have hpi : decide ((k : Int) = (n : Int)) = decide (u.port = port) := by
        rw [Bool.eq_iff_iff, decide_eq_true_iff, decide_eq_true_iff, hpo]; omega
      have hsk : skipG r f.vid port at' known u = (decide (u.port = port) || (known && decide (u.port ≠ at')) || !u.passes r f.vid) := rfl
      have hol : outs.length ≤ 31 := by
        rw [ho]
        have := outsG_len r (gs.take k) f.vid port at' known f
        have := List.length_take_le k gs
        omega
      by_cases hpl : u.plain = f.vid
      · repeat' (first
    | refine DW_seq ?_
    | refine DW_region ?_
    | refine DW_draw ?_
    | refine dnilP ?_
    | refine dnilD (by kernel_rfl) ?_
    | refine then_normal ?_
    | refine then_exit ?_
    | refine then_ret ?_
    | refine DW_block ?_
    | refine blk_normal ?_
    | refine blk_ret ?_
    | refine blk_hit rfl ?_
    | refine blk_miss rfl ?_
    | refine loop_exit ?_
    | refine loop_ret ?_
    | refine DW_ret ?_
    | refine DW_exit ?_
    | refine DW_skip ?_
    | refine DW_cond_t rfl ?_
    | refine DW_cond_f rfl ?_
    | refine DW_cond rfl (fun hc => ?_) (fun hc => ?_)
    | (apply dpC rfl; case h => first | exact S_call cp2 rfl | (apply Pu.ok; repeat' (first | rfl | exact .inK (by simp only [InK]; omega) | exact .inK (by simp only [InK]; simp at hg; omega) | exact .wr | constructor | decide | omega)))
    | (apply dmC rfl; case h => first | exact S_appM (f := outV) (us := outs) (bs := [(u.port, ⟨f.dst, f.src, false, 0, false, 0, f.typ, f.data⟩)]) rfl rfl (.dat _ _) rfl rfl (.inl rfl) rfl (by simp only [List.length_cons, List.length_nil]; omega) | exact S_appM (f := outV) (us := outs) (bs := [(u.port, ⟨f.dst, f.src, true, f.prio, f.drop, g.plain, f.typ, f.data⟩)]) rfl rfl (.dat _ _) rfl rfl (.inl rfl) rfl (by simp only [List.length_cons, List.length_nil]; omega) | exact S_appM (f := outV) (us := outs) (bs := [(u.port, ⟨f.dst, f.src, true, 0, false, g.plain, f.typ, f.data⟩)]) rfl rfl (.dat _ _) rfl rfl (.inl rfl) rfl (by simp only [List.length_cons, List.length_nil]; omega) | exact S_appM (f := outV) (us := outs) (bs := [(u.port, ⟨f.dst, f.src, true, f.prio, f.drop, f.vid, f.typ, f.data⟩)]) rfl rfl (.dat _ _) rfl rfl (.inl rfl) rfl (by simp only [List.length_cons, List.length_nil]; omega) | exact S_appM (f := outV) (us := outs) (bs := [(u.port, ⟨f.dst, f.src, true, 0, false, f.vid, f.typ, f.data⟩)]) rfl rfl (.dat _ _) rfl rfl (.inl rfl) rfl (by simp only [List.length_cons, List.length_nil]; omega))
    | refine dpOff rfl rfl ?_
    | (apply dmOn rfl rfl; case h => first | exact S_appM (f := outV) (us := outs) (bs := [(u.port, ⟨f.dst, f.src, false, 0, false, 0, f.typ, f.data⟩)]) rfl rfl (.dat _ _) rfl rfl (.inl rfl) rfl (by simp only [List.length_cons, List.length_nil]; omega) | exact S_appM (f := outV) (us := outs) (bs := [(u.port, ⟨f.dst, f.src, true, f.prio, f.drop, g.plain, f.typ, f.data⟩)]) rfl rfl (.dat _ _) rfl rfl (.inl rfl) rfl (by simp only [List.length_cons, List.length_nil]; omega) | exact S_appM (f := outV) (us := outs) (bs := [(u.port, ⟨f.dst, f.src, true, 0, false, g.plain, f.typ, f.data⟩)]) rfl rfl (.dat _ _) rfl rfl (.inl rfl) rfl (by simp only [List.length_cons, List.length_nil]; omega) | exact S_appM (f := outV) (us := outs) (bs := [(u.port, ⟨f.dst, f.src, true, f.prio, f.drop, f.vid, f.typ, f.data⟩)]) rfl rfl (.dat _ _) rfl rfl (.inl rfl) rfl (by simp only [List.length_cons, List.length_nil]; omega) | exact S_appM (f := outV) (us := outs) (bs := [(u.port, ⟨f.dst, f.src, true, 0, false, f.vid, f.typ, f.data⟩)]) rfl rfl (.dat _ _) rfl rfl (.inl rfl) rfl (by simp only [List.length_cons, List.length_nil]; omega))
    | ((first | apply dp rfl | apply dpOn rfl rfl | apply dpMay rfl rfl (by first | exact fun _ => trivial | exact fun h => ⟨h, trivial⟩ | exact fun h => ⟨h, h, trivial⟩ | exact fun h => ⟨h, h, h, trivial⟩)); case h => ((try intro hg); first | exact as_bool (S_lss rfl rfl) (decide_eq_true (by omega : (k : Int) < ((gs.map gateV).length : Int))) | exact S_ixM rfl rfl (by omega) hx2 | exact as_bool (S_eql rfl rfl) hpi | exact as_bool (S_neq rfl rfl) (decide_eq_false (fun h => h hpl)) | exact S_call cp2 rfl | exact S_appM (f := outV) (us := outs) (bs := [(u.port, ⟨f.dst, f.src, false, 0, false, 0, f.typ, f.data⟩)]) rfl rfl (.dat _ _) rfl rfl (.inl rfl) rfl (by simp only [List.length_cons, List.length_nil]; omega) | exact S_appM (f := outV) (us := outs) (bs := [(u.port, ⟨f.dst, f.src, true, f.prio, f.drop, g.plain, f.typ, f.data⟩)]) rfl rfl (.dat _ _) rfl rfl (.inl rfl) rfl (by simp only [List.length_cons, List.length_nil]; omega) | exact S_appM (f := outV) (us := outs) (bs := [(u.port, ⟨f.dst, f.src, true, 0, false, g.plain, f.typ, f.data⟩)]) rfl rfl (.dat _ _) rfl rfl (.inl rfl) rfl (by simp only [List.length_cons, List.length_nil]; omega) | exact S_appM (f := outV) (us := outs) (bs := [(u.port, ⟨f.dst, f.src, true, f.prio, f.drop, f.vid, f.typ, f.data⟩)]) rfl rfl (.dat _ _) rfl rfl (.inl rfl) rfl (by simp only [List.length_cons, List.length_nil]; omega) | exact S_appM (f := outV) (us := outs) (bs := [(u.port, ⟨f.dst, f.src, true, 0, false, f.vid, f.typ, f.data⟩)]) rfl rfl (.dat _ _) rfl rfl (.inl rfl) rfl (by simp only [List.length_cons, List.length_nil]; omega) | (apply Pu.ok; repeat' (first | rfl | exact .inK (by simp only [InK]; omega) | exact .inK (by simp only [InK]; simp at hg; omega) | exact .wr | constructor | decide | omega))))
    | refine dpickAnd rfl rfl rfl rfl rfl ?_ | refine dpickOr rfl rfl rfl rfl rfl ?_
    | (apply dt rfl; case h => first | exact S_alloc _ rfl | exact S_box _ rfl rfl)
    | (apply ds; case h => first | exact S_store rfl rfl rfl rfl rfl rfl)
    | (apply dm rfl; case h => first | exact M_d rfl | exact S_alloc 2001 rfl | exact S_alloc 2002 rfl | exact S_alloc 2003 rfl | exact S_alloc 2004 rfl | exact S_alloc 2005 rfl)
    | fail)
        · refine loop_again (k + 1, outs) ⟨hlt, ?_⟩ (by simp only; omega) (Wk_gen some rfl rfl (by (repeat' (first | exact trivial | rfl | exact listLe_map _ | exact ⟨_, rfl, .inl rfl⟩ | exact ⟨_, rfl, .inr (.inl rfl)⟩ | exact ⟨_, rfl, .inr (.inr rfl)⟩ | refine ⟨_, _, rfl, rfl, ?_⟩ | exact ⟨_, rfl, rfl⟩ | exact ⟨_, _, _, _, rfl, rfl, rfl⟩ | exact ⟨_, rfl⟩ | exact ⟨_, _, rfl⟩ | apply And.intro))) (by (repeat' (first | exact trivial | rfl | exact listLe_map _ | exact ⟨_, rfl, .inl rfl⟩ | exact ⟨_, rfl, .inr (.inl rfl)⟩ | exact ⟨_, rfl, .inr (.inr rfl)⟩ | refine ⟨_, _, rfl, rfl, ?_⟩ | exact ⟨_, rfl, rfl⟩ | exact ⟨_, _, _, _, rfl, rfl, rfl⟩ | exact ⟨_, rfl⟩ | exact ⟨_, _, rfl⟩ | apply And.intro))))
          simp only
          rw [hnx, if_pos (hsk.trans hc), List.append_nil, ho]
        · refine loop_again (k + 1, outs ++ [(u.port, ⟨f.dst, f.src, false, 0, false, 0, f.typ, f.data⟩)]) ⟨hlt, ?_⟩ (by simp only; omega) (Wk_gen some rfl rfl (by (repeat' (first | exact trivial | rfl | exact listLe_map _ | exact ⟨_, rfl, .inl rfl⟩ | exact ⟨_, rfl, .inr (.inl rfl)⟩ | exact ⟨_, rfl, .inr (.inr rfl)⟩ | refine ⟨_, _, rfl, rfl, ?_⟩ | exact ⟨_, rfl, rfl⟩ | exact ⟨_, _, _, _, rfl, rfl, rfl⟩ | exact ⟨_, rfl⟩ | exact ⟨_, _, rfl⟩ | apply And.intro))) (by (repeat' (first | exact trivial | rfl | exact listLe_map _ | exact ⟨_, rfl, .inl rfl⟩ | exact ⟨_, rfl, .inr (.inl rfl)⟩ | exact ⟨_, rfl, .inr (.inr rfl)⟩ | refine ⟨_, _, rfl, rfl, ?_⟩ | exact ⟨_, rfl, rfl⟩ | exact ⟨_, _, _, _, rfl, rfl, rfl⟩ | exact ⟨_, rfl⟩ | exact ⟨_, _, rfl⟩ | apply And.intro))))
          simp only
          rw [hnx, if_neg (fun h => by rw [hsk.symm.trans h] at hc; cases hc), leave_plain hpl, ho]
      · repeat' (first
    | refine DW_seq ?_
    | refine DW_region ?_
    | refine DW_draw ?_
    | refine dnilP ?_
    | refine dnilD (by kernel_rfl) ?_
    | refine then_normal ?_
    | refine then_exit ?_
    | refine then_ret ?_
    | refine DW_block ?_
    | refine blk_normal ?_
    | refine blk_ret ?_
    | refine blk_hit rfl ?_
    | refine blk_miss rfl ?_
    | refine loop_exit ?_
    | refine loop_ret ?_
    | refine DW_ret ?_
    | refine DW_exit ?_
    | refine DW_skip ?_
    | refine DW_cond_t rfl ?_
    | refine DW_cond_f rfl ?_
    | refine DW_cond rfl (fun hc => ?_) (fun hc => ?_)
    | (apply dpC rfl; case h => first | exact S_call cp2 rfl | (apply Pu.ok; repeat' (first | rfl | exact .inK (by simp only [InK]; omega) | exact .inK (by simp only [InK]; simp at hg; omega) | exact .wr | constructor | decide | omega)))
    | (apply dmC rfl; case h => first | exact S_appM (f := outV) (us := outs) (bs := [(u.port, ⟨f.dst, f.src, false, 0, false, 0, f.typ, f.data⟩)]) rfl rfl (.dat _ _) rfl rfl (.inl rfl) rfl (by simp only [List.length_cons, List.length_nil]; omega) | exact S_appM (f := outV) (us := outs) (bs := [(u.port, ⟨f.dst, f.src, true, f.prio, f.drop, g.plain, f.typ, f.data⟩)]) rfl rfl (.dat _ _) rfl rfl (.inl rfl) rfl (by simp only [List.length_cons, List.length_nil]; omega) | exact S_appM (f := outV) (us := outs) (bs := [(u.port, ⟨f.dst, f.src, true, 0, false, g.plain, f.typ, f.data⟩)]) rfl rfl (.dat _ _) rfl rfl (.inl rfl) rfl (by simp only [List.length_cons, List.length_nil]; omega) | exact S_appM (f := outV) (us := outs) (bs := [(u.port, ⟨f.dst, f.src, true, f.prio, f.drop, f.vid, f.typ, f.data⟩)]) rfl rfl (.dat _ _) rfl rfl (.inl rfl) rfl (by simp only [List.length_cons, List.length_nil]; omega) | exact S_appM (f := outV) (us := outs) (bs := [(u.port, ⟨f.dst, f.src, true, 0, false, f.vid, f.typ, f.data⟩)]) rfl rfl (.dat _ _) rfl rfl (.inl rfl) rfl (by simp only [List.length_cons, List.length_nil]; omega))
    | refine dpOff rfl rfl ?_
    | (apply dmOn rfl rfl; case h => first | exact S_appM (f := outV) (us := outs) (bs := [(u.port, ⟨f.dst, f.src, false, 0, false, 0, f.typ, f.data⟩)]) rfl rfl (.dat _ _) rfl rfl (.inl rfl) rfl (by simp only [List.length_cons, List.length_nil]; omega) | exact S_appM (f := outV) (us := outs) (bs := [(u.port, ⟨f.dst, f.src, true, f.prio, f.drop, g.plain, f.typ, f.data⟩)]) rfl rfl (.dat _ _) rfl rfl (.inl rfl) rfl (by simp only [List.length_cons, List.length_nil]; omega) | exact S_appM (f := outV) (us := outs) (bs := [(u.port, ⟨f.dst, f.src, true, 0, false, g.plain, f.typ, f.data⟩)]) rfl rfl (.dat _ _) rfl rfl (.inl rfl) rfl (by simp only [List.length_cons, List.length_nil]; omega) | exact S_appM (f := outV) (us := outs) (bs := [(u.port, ⟨f.dst, f.src, true, f.prio, f.drop, f.vid, f.typ, f.data⟩)]) rfl rfl (.dat _ _) rfl rfl (.inl rfl) rfl (by simp only [List.length_cons, List.length_nil]; omega) | exact S_appM (f := outV) (us := outs) (bs := [(u.port, ⟨f.dst, f.src, true, 0, false, f.vid, f.typ, f.data⟩)]) rfl rfl (.dat _ _) rfl rfl (.inl rfl) rfl (by simp only [List.length_cons, List.length_nil]; omega))
    | ((first | apply dp rfl | apply dpOn rfl rfl | apply dpMay rfl rfl (by first | exact fun _ => trivial | exact fun h => ⟨h, trivial⟩ | exact fun h => ⟨h, h, trivial⟩ | exact fun h => ⟨h, h, h, trivial⟩)); case h => ((try intro hg); first | exact as_bool (S_lss rfl rfl) (decide_eq_true (by omega : (k : Int) < ((gs.map gateV).length : Int))) | exact S_ixM rfl rfl (by omega) hx2 | exact as_bool (S_eql rfl rfl) hpi | exact as_bool (S_neq rfl rfl) (decide_eq_true hpl) | exact S_call cp2 rfl | exact S_appM (f := outV) (us := outs) (bs := [(u.port, ⟨f.dst, f.src, false, 0, false, 0, f.typ, f.data⟩)]) rfl rfl (.dat _ _) rfl rfl (.inl rfl) rfl (by simp only [List.length_cons, List.length_nil]; omega) | exact S_appM (f := outV) (us := outs) (bs := [(u.port, ⟨f.dst, f.src, true, f.prio, f.drop, g.plain, f.typ, f.data⟩)]) rfl rfl (.dat _ _) rfl rfl (.inl rfl) rfl (by simp only [List.length_cons, List.length_nil]; omega) | exact S_appM (f := outV) (us := outs) (bs := [(u.port, ⟨f.dst, f.src, true, 0, false, g.plain, f.typ, f.data⟩)]) rfl rfl (.dat _ _) rfl rfl (.inl rfl) rfl (by simp only [List.length_cons, List.length_nil]; omega) | exact S_appM (f := outV) (us := outs) (bs := [(u.port, ⟨f.dst, f.src, true, f.prio, f.drop, f.vid, f.typ, f.data⟩)]) rfl rfl (.dat _ _) rfl rfl (.inl rfl) rfl (by simp only [List.length_cons, List.length_nil]; omega) | exact S_appM (f := outV) (us := outs) (bs := [(u.port, ⟨f.dst, f.src, true, 0, false, f.vid, f.typ, f.data⟩)]) rfl rfl (.dat _ _) rfl rfl (.inl rfl) rfl (by simp only [List.length_cons, List.length_nil]; omega) | (apply Pu.ok; repeat' (first | rfl | exact .inK (by simp only [InK]; omega) | exact .inK (by simp only [InK]; simp at hg; omega) | exact .wr | constructor | decide | omega))))
    | refine dpickAnd rfl rfl rfl rfl rfl ?_ | refine dpickOr rfl rfl rfl rfl rfl ?_
    | (apply dt rfl; case h => first | exact S_alloc _ rfl | exact S_box _ rfl rfl)
    | (apply ds; case h => first | exact S_store rfl rfl rfl rfl rfl rfl)
    | (apply dm rfl; case h => first | exact M_d rfl | exact S_alloc 2001 rfl | exact S_alloc 2002 rfl | exact S_alloc 2003 rfl | exact S_alloc 2004 rfl | exact S_alloc 2005 rfl)
    | fail)
        · refine loop_again (k + 1, outs) ⟨hlt, ?_⟩ (by simp only; omega) (Wk_gen some rfl rfl (by (repeat' (first | exact trivial | rfl | exact listLe_map _ | exact ⟨_, rfl, .inl rfl⟩ | exact ⟨_, rfl, .inr (.inl rfl)⟩ | exact ⟨_, rfl, .inr (.inr rfl)⟩ | refine ⟨_, _, rfl, rfl, ?_⟩ | exact ⟨_, rfl, rfl⟩ | exact ⟨_, _, _, _, rfl, rfl, rfl⟩ | exact ⟨_, rfl⟩ | exact ⟨_, _, rfl⟩ | apply And.intro))) (by (repeat' (first | exact trivial | rfl | exact listLe_map _ | exact ⟨_, rfl, .inl rfl⟩ | exact ⟨_, rfl, .inr (.inl rfl)⟩ | exact ⟨_, rfl, .inr (.inr rfl)⟩ | refine ⟨_, _, rfl, rfl, ?_⟩ | exact ⟨_, rfl, rfl⟩ | exact ⟨_, _, _, _, rfl, rfl, rfl⟩ | exact ⟨_, rfl⟩ | exact ⟨_, _, rfl⟩ | apply And.intro))))
          simp only
          rw [hnx, if_pos (hsk.trans hc), List.append_nil, ho]
        · rename_i hc1
          refine loop_again (k + 1, outs ++ [(u.port, ⟨f.dst, f.src, true, f.prio, f.drop, f.vid, f.typ, f.data⟩)]) ⟨hlt, ?_⟩ (by simp only; omega) (Wk_gen some rfl rfl (by (repeat' (first | exact trivial | rfl | exact listLe_map _ | exact ⟨_, rfl, .inl rfl⟩ | exact ⟨_, rfl, .inr (.inl rfl)⟩ | exact ⟨_, rfl, .inr (.inr rfl)⟩ | refine ⟨_, _, rfl, rfl, ?_⟩ | exact ⟨_, rfl, rfl⟩ | exact ⟨_, _, _, _, rfl, rfl, rfl⟩ | exact ⟨_, rfl⟩ | exact ⟨_, _, rfl⟩ | apply And.intro))) (by (repeat' (first | exact trivial | rfl | exact listLe_map _ | exact ⟨_, rfl, .inl rfl⟩ | exact ⟨_, rfl, .inr (.inl rfl)⟩ | exact ⟨_, rfl, .inr (.inr rfl)⟩ | refine ⟨_, _, rfl, rfl, ?_⟩ | exact ⟨_, rfl, rfl⟩ | exact ⟨_, _, _, _, rfl, rfl, rfl⟩ | exact ⟨_, rfl⟩ | exact ⟨_, _, rfl⟩ | apply And.intro))))
          simp only
          rw [hnx, if_neg (fun h => by rw [hsk.symm.trans h] at hc1; cases hc1), leave_tag hpl hc, ho]
        · rename_i hc1
          refine loop_again (k + 1, outs ++ [(u.port, ⟨f.dst, f.src, true, 0, false, f.vid, f.typ, f.data⟩)]) ⟨hlt, ?_⟩ (by simp only; omega) (Wk_gen some rfl rfl (by (repeat' (first | exact trivial | rfl | exact listLe_map _ | exact ⟨_, rfl, .inl rfl⟩ | exact ⟨_, rfl, .inr (.inl rfl)⟩ | exact ⟨_, rfl, .inr (.inr rfl)⟩ | refine ⟨_, _, rfl, rfl, ?_⟩ | exact ⟨_, rfl, rfl⟩ | exact ⟨_, _, _, _, rfl, rfl, rfl⟩ | exact ⟨_, rfl⟩ | exact ⟨_, _, rfl⟩ | apply And.intro))) (by (repeat' (first | exact trivial | rfl | exact listLe_map _ | exact ⟨_, rfl, .inl rfl⟩ | exact ⟨_, rfl, .inr (.inl rfl)⟩ | exact ⟨_, rfl, .inr (.inr rfl)⟩ | refine ⟨_, _, rfl, rfl, ?_⟩ | exact ⟨_, rfl, rfl⟩ | exact ⟨_, _, _, _, rfl, rfl, rfl⟩ | exact ⟨_, rfl⟩ | exact ⟨_, _, rfl⟩ | apply And.intro))))
          simp only
          rw [hnx, if_neg (fun h => by rw [hsk.symm.trans h] at hc1; cases hc1), leave_new hpl hc, ho]
    · rw [List.take_of_length_le (by omega)] at ho
      repeat' (first
    | (refine DW_seal 10 rfl rfl (by simp) ?_; refine DW_ret ?_)
    | refine DW_seq ?_
    | refine DW_region ?_
    | refine DW_draw ?_
    | refine dnilP ?_
    | refine dnilD (by kernel_rfl) ?_
    | refine then_normal ?_
    | refine then_exit ?_
    | refine then_ret ?_
    | refine DW_block ?_
    | refine blk_normal ?_
    | refine blk_ret ?_
    | refine blk_hit rfl ?_
    | refine blk_miss rfl ?_
    | refine loop_exit ?_
    | refine loop_ret ?_
    | refine DW_ret ?_
    | refine DW_exit ?_
    | refine DW_skip ?_
    | refine DW_cond_t rfl ?_
    | refine DW_cond_f rfl ?_
    | (apply dpC rfl; case h => first | (apply Pu.ok; repeat' (first | rfl | exact .inK (by simp only [InK]; omega) | exact .inK (by simp only [InK]; simp at hg; omega) | exact .wr | constructor | decide | omega)))
    | refine dpOff rfl rfl ?_
    | ((first | apply dp rfl | apply dpOn rfl rfl | apply dpMay rfl rfl (by first | exact fun _ => trivial | exact fun h => ⟨h, trivial⟩ | exact fun h => ⟨h, h, trivial⟩ | exact fun h => ⟨h, h, h, trivial⟩)); case h => ((try intro hg); first | exact as_bool (S_lss rfl rfl) (decide_eq_false (by omega : ¬ (k : Int) < ((gs.map gateV).length : Int))) | (apply Pu.ok; repeat' (first | rfl | exact .inK (by simp only [InK]; omega) | exact .inK (by simp only [InK]; simp at hg; omega) | exact .wr | constructor | decide | omega))))
    | refine dpickAnd rfl rfl rfl rfl rfl ?_ | refine dpickOr rfl rfl rfl rfl rfl ?_
    | (apply dt rfl; case h => first | exact S_alloc _ rfl | exact S_box _ rfl rfl)
    | (apply ds; case h => first | exact S_store rfl rfl rfl rfl rfl rfl)
    | (apply dm rfl; case h => first | exact M_d rfl | exact S_alloc 2001 rfl | exact S_alloc 2002 rfl | exact S_alloc 2003 rfl | exact S_alloc 2004 rfl | exact S_alloc 2005 rfl)
    | fail)
      rw [← ho]
      exact gOld (.tmp rfl (.tmp rfl (.tmp rfl .nil))) Wk_none rfl
end Go.Proofs.Ytpdoplmnedpdaaa
