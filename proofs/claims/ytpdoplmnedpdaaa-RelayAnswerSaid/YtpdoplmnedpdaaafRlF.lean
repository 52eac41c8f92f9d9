/- The law RelayFlood. -/
import Derived.Test.YtpdoplmnedpdaaafRlG
namespace Go.Proofs.Ytpdoplmnedpdaaa
open Go.RowKit
def countW (r : Region) (port v : Int) (gs : List Gate) : Nat := (gs.filter (fun u => decide (u.port ≠ port) && u.passes r v)).length
theorem countW_next {r : Region} {port v : Int} {gs : List Gate} {k : Nat} {u : Gate} (h : gs[k]? = some u) : countW r port v (gs.take (k + 1)) = countW r port v (gs.take k) + if decide (u.port ≠ port) && u.passes r v then 1 else 0 := by
  unfold countW
  rw [List.take_add_one, h, List.filter_append, List.length_append]
  congr 1
  cases hs : (decide (u.port ≠ port) && u.passes r v) <;> simp only [Option.toList_some, List.filter_cons, List.filter_nil, hs] <;> rfl
theorem countW_le (r : Region) (port v : Int) (gs : List Gate) : countW r port v gs ≤ gs.length := List.length_filter_le _ _
theorem outs_flood (r : Region) (gs : List Gate) (v port at' : Int) (f : Frame) : (outsG r gs v port at' false f).length = countW r port v gs := by
  unfold outsG countW
  rw [List.length_map]
  congr 1
  apply List.filter_congr
  intro u _
  unfold skipG
  by_cases hp : u.port = port <;> cases u.passes r v <;> simp [hp]
theorem outs_known {r : Region} {gs : List Gate} {v port at' : Int} {f : Frame} (hs : gs.Pairwise (fun a b => a.port < b.port)) : (outsG r gs v port at' true f).length ≤ 1 := by
  have h1 := outs_sorted (r := r) (v := v) (port := port) (at' := at') (known := true) (f := f) hs
  have h2 : ∀ o ∈ outsG r gs v port at' true f, o.1 = at' := fun o ho => by
    obtain ⟨u, _, rfl, _, h, _⟩ := outs_mem ho
    exact h rfl
  generalize outsG r gs v port at' true f = L at h1 h2
  match L, h1, h2 with
  | [], _, _ => simp
  | [_], _, _ => simp
  | a :: b :: _, h1, h2 =>
    have := (List.pairwise_cons.1 h1).1 b (by simp)
    rw [h2 a (by simp), h2 b (by simp)] at this
    omega
attribute [local irreducible] SStep DW DWin DOps thenQ inBlk loopQ retQ retQG FnF FnG Wk IntKind.wrap IntKind.andI IntKind.orI IntKind.xorI IntKind.andNotI IntKind.shlI IntKind.shrI Ent.cmp bsG lookS lookE learnL learnR outsG Gate.passes wayOf leaveF gateAt countW
set_option maxHeartbeats 4000000 in
theorem law_RelayFlood (r : Region) (gs : List Gate) (l : List Ent) (port : Int) (f : Frame) (hrl : r.ways.length ≤ 9223372036854775807) (hf : f.ok) :
    FnF Try.prog 10 [r.v, .slice (gs.map gateV), .slice (l.map entV), .int .i64 port, f.v] (.bool true) := by
  refine fnF_of Try.func10 rfl rfl rfl ?_
  simp only [envOf]
  have h3 := relay_Relay r gs l port f hrl hf
  rcases relay_cases r gs l port f with ⟨e1, e2, e3⟩ | ⟨ha, g, hg, e⟩
  · generalize relayS r gs l port f = R at h3 e1 e2 e3
    obtain ⟨outs, m, e⟩ := R
    simp only at h3 e1 e2 e3
    repeat' (first
    | refine DW_seq ?_
    | refine DW_region ?_
    | refine DW_draw ?_
    | refine dnilP ?_
    | refine dnilD (by kernel_rfl) ?_
    | refine then_normal ?_
    | refine then_exit ?_
    | refine then_ret ?_
    | refine DW_block ?_
    | refine blk_normal ?_
    | refine blk_ret ?_
    | refine blk_hit rfl ?_
    | refine blk_miss rfl ?_
    | refine loop_exit ?_
    | refine loop_ret ?_
    | refine DW_ret ?_
    | refine DW_exit ?_
    | refine DW_skip ?_
    | refine DW_cond_t rfl ?_
    | refine DW_cond_f rfl ?_
    | (apply dpC rfl; case h => first | exact S_call alive9 rfl | exact S_call h3 rfl | (apply Pu.ok; repeat' (first | rfl | exact .inK (by simp only [InK]; omega) | exact .inK (by simp only [InK]; simp at hg; omega) | exact .wr | constructor | decide | omega)))
    | refine dpOff rfl rfl ?_
    | ((first | apply dp rfl | apply dpOn rfl rfl | apply dpMay rfl rfl (by first | exact fun _ => trivial | exact fun h => ⟨h, trivial⟩ | exact fun h => ⟨h, h, trivial⟩ | exact fun h => ⟨h, h, h, trivial⟩)); case h => ((try intro hg); first | exact as_bool (S_neq rfl rfl) (decide_eq_true e1) | exact S_call alive9 rfl | exact S_call h3 rfl | (apply Pu.ok; repeat' (first | rfl | exact .inK (by simp only [InK]; omega) | exact .inK (by simp only [InK]; simp at hg; omega) | exact .wr | constructor | decide | omega))))
    | refine dpickAnd rfl rfl rfl rfl rfl ?_ | refine dpickOr rfl rfl rfl rfl rfl ?_
    | (apply dt rfl; case h => first | exact S_alloc _ rfl | exact S_box _ rfl rfl)
    | (apply ds; case h => first | exact S_store rfl rfl rfl rfl rfl rfl)
    | (apply dm rfl; case h => first | exact M_d rfl | exact S_alloc 2001 rfl | exact S_alloc 2002 rfl | exact S_alloc 2003 rfl | exact S_alloc 2004 rfl | exact S_alloc 2005 rfl)
    | fail)
    exact ret1 rfl (.inl rfl) rfl
  rw [e] at h3
  have hrr := region_right ha.r
  have hgr := rightG_of ha.g
  have hbr := right_of ha.b
  have hgn := hgr.n
  have hml : (gs.map gateV).length = gs.length := by simp
  have ca := at_some hg
  have cw := law9_way g f
  have cpg := ref8_Passes g r (wayOf g f) hrr
  have hbl : blockB g r f = (decide (wayOf g f = 0) || !g.passes r (wayOf g f) || decide (IntKind.u64.shrI f.dst 4 = 103282638848)) := rfl
  unfold relayG at h3
  cases hb : blockB g r f with
  | true =>
    rw [if_pos hb] at h3
    have cl := book_Look2 hbr (wayOf g f) f.dst
    have sm := ref8_Same l
    rw [hb] at hbl
    generalize wayOf g f = v at cw cpg hbl cl h3
    simp only at h3
    repeat' (first
    | (apply DW_true rfl; case hb => exact hbl.symm)
    | refine DW_seq ?_
    | refine DW_region ?_
    | refine DW_draw ?_
    | refine dnilP ?_
    | refine dnilD (by kernel_rfl) ?_
    | refine then_normal ?_
    | refine then_exit ?_
    | refine then_ret ?_
    | refine DW_block ?_
    | refine blk_normal ?_
    | refine blk_ret ?_
    | refine blk_hit rfl ?_
    | refine blk_miss rfl ?_
    | refine loop_exit ?_
    | refine loop_ret ?_
    | refine DW_ret ?_
    | refine DW_exit ?_
    | refine DW_skip ?_
    | refine DW_cond_t rfl ?_
    | refine DW_cond_f rfl ?_
    | (apply dpC rfl; case h => first | exact S_call alive9 rfl | exact S_call h3 rfl | exact S_callGD ca rfl | exact S_call cw rfl | exact S_call cl rfl | exact S_call cpg rfl | exact S_call sm rfl | (apply Pu.ok; repeat' (first | rfl | exact .inK (by simp only [InK]; omega) | exact .inK (by simp only [InK]; simp at hg; omega) | exact .wr | constructor | decide | omega)))
    | refine dpOff rfl rfl ?_
    | ((first | apply dp rfl | apply dpOn rfl rfl | apply dpMay rfl rfl (by first | exact fun _ => trivial | exact fun h => ⟨h, trivial⟩ | exact fun h => ⟨h, h, trivial⟩ | exact fun h => ⟨h, h, h, trivial⟩)); case h => ((try intro hg); first | exact as_bool (b := false) (S_neq rfl rfl) rfl | exact as_bool (b := true) (S_eql rfl rfl) rfl | exact S_call alive9 rfl | exact S_call h3 rfl | exact S_callGD ca rfl | exact S_call cw rfl | exact S_call cl rfl | exact S_call cpg rfl | exact S_call sm rfl | (apply Pu.ok; repeat' (first | rfl | exact .inK (by simp only [InK]; omega) | exact .inK (by simp only [InK]; simp at hg; omega) | exact .wr | constructor | decide | omega))))
    | refine dpickAnd rfl rfl rfl rfl rfl ?_ | refine dpickOr rfl rfl rfl rfl rfl ?_
    | (apply dt rfl; case h => first | exact S_alloc _ rfl | exact S_box _ rfl rfl)
    | (apply ds; case h => first | exact S_store rfl rfl rfl rfl rfl rfl)
    | (apply dm rfl; case h => first | exact M_d rfl | exact S_alloc 2001 rfl | exact S_alloc 2002 rfl | exact S_alloc 2003 rfl | exact S_alloc 2004 rfl | exact S_alloc 2005 rfl)
    | fail)
    exact ret1 rfl (.inl rfl) rfl
  | false =>
    rw [if_neg (by rw [hb]; simp)] at h3
    have hlr := (learn_right (v := wayOf g f) (a := f.src) (p := port) hbr).1
    have cl := book_Look2 hlr (wayOf g f) f.dst
    have hfl := outs_flood r gs (wayOf g f) port (lookS (learnL l (wayOf g f) f.src port) (wayOf g f) f.dst).1 f
    have hkn := outs_known (r := r) (v := wayOf g f) (port := port) (at' := (lookS (learnL l (wayOf g f) f.src port) (wayOf g f) f.dst).1) (f := f) hgr.s
    rw [hb] at hbl
    generalize wayOf g f = v at cw cpg hbl cl h3 hlr hfl hkn
    simp only at h3
    generalize learnL l v f.src port = m at h3 hlr cl hfl hkn
    generalize (lookS m v f.dst).1 = at' at h3 cl hfl hkn
    generalize (lookS m v f.dst).2 = known at h3 cl
    repeat' (first
    | (apply DW_false rfl; case hb => exact hbl.symm)
    | refine DW_seq ?_
    | refine DW_region ?_
    | refine DW_draw ?_
    | refine dnilP ?_
    | refine dnilD (by kernel_rfl) ?_
    | refine then_normal ?_
    | refine then_exit ?_
    | refine then_ret ?_
    | refine DW_block ?_
    | refine blk_normal ?_
    | refine blk_ret ?_
    | refine blk_hit rfl ?_
    | refine blk_miss rfl ?_
    | refine loop_exit ?_
    | refine loop_ret ?_
    | refine DW_ret ?_
    | refine DW_exit ?_
    | refine DW_skip ?_
    | refine DW_cond_t rfl ?_
    | refine DW_cond_f rfl ?_
    | (apply dpC rfl; case h => first | exact S_call alive9 rfl | exact S_call h3 rfl | exact S_callGD ca rfl | exact S_call cw rfl | exact S_call cl rfl | exact S_call cpg rfl | (apply Pu.ok; repeat' (first | rfl | exact .inK (by simp only [InK]; omega) | exact .inK (by simp only [InK]; simp at hg; omega) | exact .wr | constructor | decide | omega)))
    | refine dpOff rfl rfl ?_
    | ((first | apply dp rfl | apply dpOn rfl rfl | apply dpMay rfl rfl (by first | exact fun _ => trivial | exact fun h => ⟨h, trivial⟩ | exact fun h => ⟨h, h, trivial⟩ | exact fun h => ⟨h, h, h, trivial⟩)); case h => ((try intro hg); first | exact as_bool (b := false) (S_neq rfl rfl) rfl | exact S_call alive9 rfl | exact S_call h3 rfl | exact S_callGD ca rfl | exact S_call cw rfl | exact S_call cl rfl | exact S_call cpg rfl | (apply Pu.ok; repeat' (first | rfl | exact .inK (by simp only [InK]; omega) | exact .inK (by simp only [InK]; simp at hg; omega) | exact .wr | constructor | decide | omega))))
    | refine dpickAnd rfl rfl rfl rfl rfl ?_ | refine dpickOr rfl rfl rfl rfl rfl ?_
    | (apply dt rfl; case h => first | exact S_alloc _ rfl | exact S_box _ rfl rfl)
    | (apply ds; case h => first | exact S_store rfl rfl rfl rfl rfl rfl)
    | (apply dm rfl; case h => first | exact M_d rfl | exact S_alloc 2001 rfl | exact S_alloc 2002 rfl | exact S_alloc 2003 rfl | exact S_alloc 2004 rfl | exact S_alloc 2005 rfl)
    | fail)
    refine DW_loop (fun q : Nat × Nat => ⟨[(1, .dat false (.slice (gs.map gateV))), (3, .dat false (.int .i64 port)), (5, .ptr 5 0), (9, .ptr 9 0), (11, .dat true (.slice ((outsG r gs v port at' known f).map outV))), (15, .dat true (.int .i64 v)), (17, .dat true (.bool known)), (18, .dat true (.int .i64 q.2)), (72, .dat false (.slice (gs.map gateV))), (73, .dat true (.int .i64 (gs.map gateV).length)), (74, .dat true (.int .i64 q.1))],
        [(5, .cells false true (r.cells.map (.dat false))), (9, .cells false true (f.cells.map (.dat false)))], 99⟩)
      (fun q => q.1 ≤ gs.length ∧ q.2 = countW r port v (gs.take q.1)) (fun q => gs.length - q.1) (0, 0) ⟨Nat.zero_le _, by with_unfolding_all rfl⟩
      (Wk_gen some rfl rfl (by (repeat' (first | exact trivial | rfl | exact listLe_map _ | exact ⟨_, rfl, .inl rfl⟩ | exact ⟨_, rfl, .inr (.inl rfl)⟩ | exact ⟨_, rfl, .inr (.inr rfl)⟩ | refine ⟨_, _, rfl, rfl, ?_⟩ | exact ⟨_, rfl, rfl⟩ | exact ⟨_, _, _, _, rfl, rfl, rfl⟩ | exact ⟨_, rfl⟩ | exact ⟨_, _, rfl⟩ | apply And.intro))) (by (repeat' (first | exact trivial | rfl | exact listLe_map _ | exact ⟨_, rfl, .inl rfl⟩ | exact ⟨_, rfl, .inr (.inl rfl)⟩ | exact ⟨_, rfl, .inr (.inr rfl)⟩ | refine ⟨_, _, rfl, rfl, ?_⟩ | exact ⟨_, rfl, rfl⟩ | exact ⟨_, _, _, _, rfl, rfl, rfl⟩ | exact ⟨_, rfl⟩ | exact ⟨_, _, rfl⟩ | apply And.intro)))) (fun q hq => ?_)
    obtain ⟨k, w⟩ := q
    obtain ⟨hk, hw⟩ := hq
    simp only at hk hw
    dsimp only
    by_cases hlt : k < gs.length
    · have hx : gs[(k : Int).toNat]? = some gs[k] := by simp [hlt]
      have hx1 : gs[k]? = some gs[k] := by simp [hlt]
      have hnx := countW_next (r := r) (port := port) (v := v) hx1
      have hwl : w ≤ 31 := by
        rw [hw]
        have := countW_le r port v (gs.take k)
        have := List.length_take_le k gs
        omega
      generalize gs[k] = u at hx hx1 hnx
      have cpu := ref8_Passes u r v hrr
      repeat' (first
    | refine DW_seq ?_
    | refine DW_region ?_
    | refine DW_draw ?_
    | refine dnilP ?_
    | refine dnilD (by kernel_rfl) ?_
    | refine then_normal ?_
    | refine then_exit ?_
    | refine then_ret ?_
    | refine DW_block ?_
    | refine blk_normal ?_
    | refine blk_ret ?_
    | refine blk_hit rfl ?_
    | refine blk_miss rfl ?_
    | refine loop_exit ?_
    | refine loop_ret ?_
    | refine DW_ret ?_
    | refine DW_exit ?_
    | refine DW_skip ?_
    | refine DW_cond_t rfl ?_
    | refine DW_cond_f rfl ?_
    | refine DW_cond rfl (fun hc => ?_) (fun hc => ?_)
    | (apply dpC rfl; case h => first | exact S_call cpu rfl | (apply Pu.ok; repeat' (first | rfl | exact .inK (by simp only [InK]; omega) | exact .inK (by simp only [InK]; simp at hg; omega) | exact .wr | constructor | decide | omega)))
    | refine dpOff rfl rfl ?_
    | ((first | apply dp rfl | apply dpOn rfl rfl | apply dpMay rfl rfl (by first | exact fun _ => trivial | exact fun h => ⟨h, trivial⟩ | exact fun h => ⟨h, h, trivial⟩ | exact fun h => ⟨h, h, h, trivial⟩)); case h => ((try intro hg); first | exact as_bool (S_lss rfl rfl) (decide_eq_true (by omega : (k : Int) < ((gs.map gateV).length : Int))) | exact S_ixM rfl rfl (by omega) hx | exact S_call cpu rfl | (apply Pu.ok; repeat' (first | rfl | exact .inK (by simp only [InK]; omega) | exact .inK (by simp only [InK]; simp at hg; omega) | exact .wr | constructor | decide | omega))))
    | refine dpickAnd rfl rfl rfl rfl rfl ?_ | refine dpickOr rfl rfl rfl rfl rfl ?_
    | (apply dt rfl; case h => first | exact S_alloc _ rfl | exact S_box _ rfl rfl)
    | (apply ds; case h => first | exact S_store rfl rfl rfl rfl rfl rfl)
    | (apply dm rfl; case h => first | exact M_d rfl | exact S_alloc 2001 rfl | exact S_alloc 2002 rfl | exact S_alloc 2003 rfl | exact S_alloc 2004 rfl | exact S_alloc 2005 rfl)
    | fail)
      · exact loop_again (k + 1, w + 1) ⟨hlt, by simp only; rw [hnx, if_pos hc, hw]⟩ (by simp only; omega) (Wk_gen some rfl rfl (by (repeat' (first | exact trivial | rfl | exact listLe_map _ | exact ⟨_, rfl, .inl rfl⟩ | exact ⟨_, rfl, .inr (.inl rfl)⟩ | exact ⟨_, rfl, .inr (.inr rfl)⟩ | refine ⟨_, _, rfl, rfl, ?_⟩ | exact ⟨_, rfl, rfl⟩ | exact ⟨_, _, _, _, rfl, rfl, rfl⟩ | exact ⟨_, rfl⟩ | exact ⟨_, _, rfl⟩ | apply And.intro))) (by (repeat' (first | exact trivial | rfl | exact listLe_map _ | exact ⟨_, rfl, .inl rfl⟩ | exact ⟨_, rfl, .inr (.inl rfl)⟩ | exact ⟨_, rfl, .inr (.inr rfl)⟩ | refine ⟨_, _, rfl, rfl, ?_⟩ | exact ⟨_, rfl, rfl⟩ | exact ⟨_, _, _, _, rfl, rfl, rfl⟩ | exact ⟨_, rfl⟩ | exact ⟨_, _, rfl⟩ | apply And.intro))))
      · exact loop_again (k + 1, w) ⟨hlt, by simp only; rw [hnx, if_neg (by rw [hc]; simp), hw]; rfl⟩ (by simp only; omega) (Wk_gen some rfl rfl (by (repeat' (first | exact trivial | rfl | exact listLe_map _ | exact ⟨_, rfl, .inl rfl⟩ | exact ⟨_, rfl, .inr (.inl rfl)⟩ | exact ⟨_, rfl, .inr (.inr rfl)⟩ | refine ⟨_, _, rfl, rfl, ?_⟩ | exact ⟨_, rfl, rfl⟩ | exact ⟨_, _, _, _, rfl, rfl, rfl⟩ | exact ⟨_, rfl⟩ | exact ⟨_, _, rfl⟩ | apply And.intro))) (by (repeat' (first | exact trivial | rfl | exact listLe_map _ | exact ⟨_, rfl, .inl rfl⟩ | exact ⟨_, rfl, .inr (.inl rfl)⟩ | exact ⟨_, rfl, .inr (.inr rfl)⟩ | refine ⟨_, _, rfl, rfl, ?_⟩ | exact ⟨_, rfl, rfl⟩ | exact ⟨_, _, _, _, rfl, rfl, rfl⟩ | exact ⟨_, rfl⟩ | exact ⟨_, _, rfl⟩ | apply And.intro))))
    · rw [List.take_of_length_le (by omega)] at hw
      cases known
      · rw [← hw] at hfl
        generalize outsG r gs v port at' false f = outs at hfl
        have hol : (outs.map outV).length = w := by simpa using hfl
        repeat' (first
    | refine DW_seq ?_
    | refine DW_region ?_
    | refine DW_draw ?_
    | refine dnilP ?_
    | refine dnilD (by kernel_rfl) ?_
    | refine then_normal ?_
    | refine then_exit ?_
    | refine then_ret ?_
    | refine DW_block ?_
    | refine blk_normal ?_
    | refine blk_ret ?_
    | refine blk_hit rfl ?_
    | refine blk_miss rfl ?_
    | refine loop_exit ?_
    | refine loop_ret ?_
    | refine DW_ret ?_
    | refine DW_exit ?_
    | refine DW_skip ?_
    | refine DW_cond_t rfl ?_
    | refine DW_cond_f rfl ?_
    | (apply dpC rfl; case h => first | (apply Pu.ok; repeat' (first | rfl | exact .inK (by simp only [InK]; omega) | exact .inK (by simp only [InK]; simp at hg; omega) | exact .wr | constructor | decide | omega)))
    | refine dpOff rfl rfl ?_
    | ((first | apply dp rfl | apply dpOn rfl rfl | apply dpMay rfl rfl (by first | exact fun _ => trivial | exact fun h => ⟨h, trivial⟩ | exact fun h => ⟨h, h, trivial⟩ | exact fun h => ⟨h, h, h, trivial⟩)); case h => ((try intro hg); first | exact as_bool (S_lss rfl rfl) (decide_eq_false (by omega : ¬ (k : Int) < ((gs.map gateV).length : Int))) | exact as_bool (S_eql rfl rfl) (decide_eq_true (by omega : ((outs.map outV).length : Int) = (w : Int))) | (apply Pu.ok; repeat' (first | rfl | exact .inK (by simp only [InK]; omega) | exact .inK (by simp only [InK]; simp at hg; omega) | exact .wr | constructor | decide | omega))))
    | refine dpickAnd rfl rfl rfl rfl rfl ?_ | refine dpickOr rfl rfl rfl rfl rfl ?_
    | (apply dt rfl; case h => first | exact S_alloc _ rfl | exact S_box _ rfl rfl)
    | (apply ds; case h => first | exact S_store rfl rfl rfl rfl rfl rfl)
    | (apply dm rfl; case h => first | exact M_d rfl | exact S_alloc 2001 rfl | exact S_alloc 2002 rfl | exact S_alloc 2003 rfl | exact S_alloc 2004 rfl | exact S_alloc 2005 rfl)
    | fail)
        exact ret1 rfl (.inl rfl) rfl
      · generalize outsG r gs v port at' true f = outs at hkn
        have hol : (outs.map outV).length = outs.length := by simp
        repeat' (first
    | refine DW_seq ?_
    | refine DW_region ?_
    | refine DW_draw ?_
    | refine dnilP ?_
    | refine dnilD (by kernel_rfl) ?_
    | refine then_normal ?_
    | refine then_exit ?_
    | refine then_ret ?_
    | refine DW_block ?_
    | refine blk_normal ?_
    | refine blk_ret ?_
    | refine blk_hit rfl ?_
    | refine blk_miss rfl ?_
    | refine loop_exit ?_
    | refine loop_ret ?_
    | refine DW_ret ?_
    | refine DW_exit ?_
    | refine DW_skip ?_
    | refine DW_cond_t rfl ?_
    | refine DW_cond_f rfl ?_
    | (apply dpC rfl; case h => first | (apply Pu.ok; repeat' (first | rfl | exact .inK (by simp only [InK]; omega) | exact .inK (by simp only [InK]; simp at hg; omega) | exact .wr | constructor | decide | omega)))
    | refine dpOff rfl rfl ?_
    | ((first | apply dp rfl | apply dpOn rfl rfl | apply dpMay rfl rfl (by first | exact fun _ => trivial | exact fun h => ⟨h, trivial⟩ | exact fun h => ⟨h, h, trivial⟩ | exact fun h => ⟨h, h, h, trivial⟩)); case h => ((try intro hg); first | exact as_bool (S_lss rfl rfl) (decide_eq_false (by omega : ¬ (k : Int) < ((gs.map gateV).length : Int))) | exact as_bool (S_leq rfl rfl) (decide_eq_true (by omega : ((outs.map outV).length : Int) ≤ 1)) | (apply Pu.ok; repeat' (first | rfl | exact .inK (by simp only [InK]; omega) | exact .inK (by simp only [InK]; simp at hg; omega) | exact .wr | constructor | decide | omega))))
    | refine dpickAnd rfl rfl rfl rfl rfl ?_ | refine dpickOr rfl rfl rfl rfl rfl ?_
    | (apply dt rfl; case h => first | exact S_alloc _ rfl | exact S_box _ rfl rfl)
    | (apply ds; case h => first | exact S_store rfl rfl rfl rfl rfl rfl)
    | (apply dm rfl; case h => first | exact M_d rfl | exact S_alloc 2001 rfl | exact S_alloc 2002 rfl | exact S_alloc 2003 rfl | exact S_alloc 2004 rfl | exact S_alloc 2005 rfl)
    | fail)
        exact ret1 rfl (.inl rfl) rfl
end Go.Proofs.Ytpdoplmnedpdaaa
