/- The law RelayGates. -/
import Derived.Test.YtpdoplmnedpdaaadSam
namespace Go.Proofs.Ytpdoplmnedpdaaa
open Go.RowKit
def lastO (outs : List OutF) : Nat → Int
  | 0 => -1
  | k + 1 => ((outs[k]?).map (·.1)).getD 0
theorem lastO_succ {outs : List OutF} {k : Nat} {o : OutF} (h : outs[k]? = some o) : lastO outs (k + 1) = o.1 := by simp [lastO, h]
theorem outs_mem {r : Region} {gs : List Gate} {v port at' : Int} {known : Bool} {f : Frame} {o : OutF} (h : o ∈ outsG r gs v port at' known f) : ∃ u ∈ gs, o = (u.port, leaveF u f v) ∧ u.port ≠ port ∧ (known = true → u.port = at') ∧ u.passes r v = true := by
  unfold outsG at h
  obtain ⟨u, hu, rfl⟩ := List.mem_map.1 h
  obtain ⟨h1, h2⟩ := List.mem_filter.1 hu
  refine ⟨u, h1, rfl, ?_⟩
  unfold skipG at h2
  simp only [Bool.not_eq_true', Bool.or_eq_false_iff, Bool.not_eq_false', decide_eq_false_iff_not] at h2
  refine ⟨h2.1.1, fun hk => ?_, h2.2⟩
  have h3 := h2.1.2
  rw [hk] at h3
  simpa using h3
theorem outs_sorted {r : Region} {gs : List Gate} {v port at' : Int} {known : Bool} {f : Frame} (hs : gs.Pairwise (fun a b => a.port < b.port)) : (outsG r gs v port at' known f).Pairwise (fun a b => a.1 < b.1) := by
  unfold outsG
  rw [List.pairwise_map]
  exact List.Pairwise.sublist List.filter_sublist hs
theorem last_lt {outs : List OutF} (hs : outs.Pairwise (fun a b => a.1 < b.1)) (h0 : ∀ o ∈ outs, 0 ≤ o.1) {k : Nat} {o : OutF} (h : outs[k]? = some o) : lastO outs k < o.1 := by
  cases k with
  | zero =>
    have := h0 o (List.mem_of_getElem? h)
    show -1 < o.1
    omega
  | succ k =>
    obtain ⟨a1, a2⟩ := List.getElem?_eq_some_iff.1 h
    have := List.pairwise_iff_getElem.1 hs k (k + 1) (by omega) a1 (by omega)
    rw [a2] at this
    show ((outs[k]?).map (·.1)).getD 0 < o.1
    rw [List.getElem?_eq_getElem (by omega)]
    exact this
structure OutOK (r : Region) (gs : List Gate) (port : Int) (f : Frame) (g : Gate) (v : Int) (outs : List OutF) : Prop where
  s : outs.Pairwise (fun a b => a.1 < b.1)
  p : ∀ o ∈ outs, ∃ u, u ∈ gs ∧ gateAt gs o.1 = some u ∧ o = (u.port, leaveF u f v) ∧ o.1 ≠ port ∧ u.passes r v = true ∧ g.passes r v = true ∧ 0 ≤ o.1
theorem relay_out {r : Region} {gs : List Gate} {l : List Ent} {port : Int} {f : Frame} {g : Gate} (ha : AllRight r gs l f) (h : gateAt gs port = some g) : OutOK r gs port f g (wayOf g f) (relayG r gs l port f g).1 := by
  unfold relayG
  split
  · exact ⟨List.Pairwise.nil, fun o ho => by cases ho⟩
  · rename_i hb
    have hgr := rightG_of ha.g
    refine ⟨outs_sorted hgr.s, fun o ho => ?_⟩
    obtain ⟨u, hu, rfl, h1, _, h3⟩ := outs_mem ho
    obtain ⟨n, hn⟩ := List.getElem?_of_mem hu
    refine ⟨u, hu, gateAt_of hgr.s hn, rfl, h1, h3, ?_, ?_⟩
    · unfold blockB at hb
      simp only [Bool.or_eq_true, Bool.not_eq_true', not_or, Bool.not_eq_false] at hb
      exact hb.1.2
    · have := (hgr.g u hu).b
      unfold Gate.bad at this
      show 0 ≤ u.port
      omega
attribute [local irreducible] SStep DW DWin DOps thenQ inBlk loopQ retQ retQG FnF FnG Wk IntKind.wrap IntKind.andI IntKind.orI IntKind.xorI IntKind.andNotI IntKind.shlI IntKind.shrI Ent.cmp bsG lookS lookE learnL learnR outsG Gate.passes wayOf leaveF gateAt lastO
theorem at_some {gs : List Gate} {p : Int} {g : Gate} (h : gateAt gs p = some g) : FnG Try.prog 33 [.dat false (.slice (gs.map gateV)), .dat false (.int .i64 p)] [] (.dat false (.agg (gateV g))) [] := by
  have := law9_at gs p
  rw [show gs.find? (fun g => decide (g.port = p)) = some g by with_unfolding_all exact h] at this
  exact this
set_option maxHeartbeats 4000000 in
theorem law_RelayGates (r : Region) (gs : List Gate) (l : List Ent) (port : Int) (f : Frame) (hrl : r.ways.length ≤ 9223372036854775807) (hf : f.ok) :
    FnF Try.prog 9 [r.v, .slice (gs.map gateV), .slice (l.map entV), .int .i64 port, f.v] (.bool true) := by
  refine fnF_of Try.func9 rfl rfl rfl ?_
  simp only [envOf]
  have h3 := relay_Relay r gs l port f hrl hf
  rcases relay_cases r gs l port f with ⟨e1, e2, e3⟩ | ⟨ha, g, hg, e⟩
  · generalize relayS r gs l port f = R at h3 e1 e2 e3
    obtain ⟨outs, m, e⟩ := R
    simp only at h3 e1 e2 e3
    subst e2 e3
    repeat' (first
    | refine DW_seq ?_
    | refine DW_region ?_
    | refine DW_draw ?_
    | refine dnilP ?_
    | refine dnilD (by kernel_rfl) ?_
    | refine then_normal ?_
    | refine then_exit ?_
    | refine then_ret ?_
    | refine DW_block ?_
    | refine blk_normal ?_
    | refine blk_ret ?_
    | refine blk_hit rfl ?_
    | refine blk_miss rfl ?_
    | refine loop_exit ?_
    | refine loop_ret ?_
    | refine DW_ret ?_
    | refine DW_exit ?_
    | refine DW_skip ?_
    | refine DW_cond_t rfl ?_
    | refine DW_cond_f rfl ?_
    | (apply dpC rfl; case h => first | exact S_call alive9 rfl | exact S_call h3 rfl | (apply Pu.ok; repeat' (first | rfl | exact .inK (by simp only [InK]; omega) | exact .inK (by simp only [InK]; simp at hg; omega) | exact .wr | constructor | decide | omega)))
    | refine dpOff rfl rfl ?_
    | ((first | apply dp rfl | apply dpOn rfl rfl | apply dpMay rfl rfl (by first | exact fun _ => trivial | exact fun h => ⟨h, trivial⟩ | exact fun h => ⟨h, h, trivial⟩ | exact fun h => ⟨h, h, h, trivial⟩)); case h => ((try intro hg); first | exact as_bool (S_neq rfl rfl) (decide_eq_true e1) | exact as_bool (b := true) (S_eql rfl rfl) rfl | exact S_call alive9 rfl | exact S_call h3 rfl | (apply Pu.ok; repeat' (first | rfl | exact .inK (by simp only [InK]; omega) | exact .inK (by simp only [InK]; simp at hg; omega) | exact .wr | constructor | decide | omega))))
    | refine dpickAnd rfl rfl rfl rfl rfl ?_ | refine dpickOr rfl rfl rfl rfl rfl ?_
    | (apply dt rfl; case h => first | exact S_alloc _ rfl | exact S_box _ rfl rfl)
    | (apply ds; case h => first | exact S_store rfl rfl rfl rfl rfl rfl)
    | (apply dm rfl; case h => first | exact M_d rfl | exact S_alloc 2001 rfl | exact S_alloc 2002 rfl | exact S_alloc 2003 rfl | exact S_alloc 2004 rfl | exact S_alloc 2005 rfl)
    | fail)
    exact ret1 rfl (.inl rfl) rfl
  rw [e] at h3
  have ho := relay_out ha hg
  have hrr := region_right ha.r
  have he : (relayG r gs l port f g).2.2 = 0 := by unfold relayG; split <;> rfl
  rw [he] at h3
  generalize relayG r gs l port f g = R at h3 ho
  obtain ⟨outs, m, q⟩ := R
  simp only at h3 ho
  have hml : (outs.map outV).length = outs.length := by simp
  have ca := at_some hg
  have cw := law9_way g f
  have cpg := ref8_Passes g r (wayOf g f) hrr
  generalize wayOf g f = v at ho cw cpg
  repeat' (first
    | refine DW_seq ?_
    | refine DW_region ?_
    | refine DW_draw ?_
    | refine dnilP ?_
    | refine dnilD (by kernel_rfl) ?_
    | refine then_normal ?_
    | refine then_exit ?_
    | refine then_ret ?_
    | refine DW_block ?_
    | refine blk_normal ?_
    | refine blk_ret ?_
    | refine blk_hit rfl ?_
    | refine blk_miss rfl ?_
    | refine loop_exit ?_
    | refine loop_ret ?_
    | refine DW_ret ?_
    | refine DW_exit ?_
    | refine DW_skip ?_
    | refine DW_cond_t rfl ?_
    | refine DW_cond_f rfl ?_
    | (apply dpC rfl; case h => first | exact S_call alive9 rfl | exact S_call h3 rfl | (apply Pu.ok; repeat' (first | rfl | exact .inK (by simp only [InK]; omega) | exact .inK (by simp only [InK]; simp at hg; omega) | exact .wr | constructor | decide | omega)))
    | refine dpOff rfl rfl ?_
    | ((first | apply dp rfl | apply dpOn rfl rfl | apply dpMay rfl rfl (by first | exact fun _ => trivial | exact fun h => ⟨h, trivial⟩ | exact fun h => ⟨h, h, trivial⟩ | exact fun h => ⟨h, h, h, trivial⟩)); case h => ((try intro hg); first | exact as_bool (b := false) (S_neq rfl rfl) rfl | exact S_call alive9 rfl | exact S_call h3 rfl | (apply Pu.ok; repeat' (first | rfl | exact .inK (by simp only [InK]; omega) | exact .inK (by simp only [InK]; simp at hg; omega) | exact .wr | constructor | decide | omega))))
    | refine dpickAnd rfl rfl rfl rfl rfl ?_ | refine dpickOr rfl rfl rfl rfl rfl ?_
    | (apply dt rfl; case h => first | exact S_alloc _ rfl | exact S_box _ rfl rfl)
    | (apply ds; case h => first | exact S_store rfl rfl rfl rfl rfl rfl)
    | (apply dm rfl; case h => first | exact M_d rfl | exact S_alloc 2001 rfl | exact S_alloc 2002 rfl | exact S_alloc 2003 rfl | exact S_alloc 2004 rfl | exact S_alloc 2005 rfl)
    | fail)
  refine DW_len 36 rfl (fun hlen => ?_)
  refine DW_loop (fun k : Nat => ⟨[(1, .dat false (.slice (gs.map gateV))), (3, .dat false (.int .i64 port)), (5, .ptr 5 0), (9, .ptr 9 0), (14, .dat false (.int .i64 (lastO outs k))), (36, .dat true (.slice (outs.map outV))), (37, .dat true (.int .i64 (outs.map outV).length)), (38, .dat true (.int .i64 k))],
      [(5, .cells false true (r.cells.map (.dat false))), (9, .cells false true (f.cells.map (.dat false)))], 80⟩)
    (fun k => k ≤ outs.length) (fun k => outs.length - k) 0 (Nat.zero_le _)
    (by with_unfolding_all exact Wk_gen some rfl rfl (by (repeat' (first | exact trivial | rfl | exact listLe_map _ | exact ⟨_, rfl, .inl rfl⟩ | exact ⟨_, rfl, .inr (.inl rfl)⟩ | exact ⟨_, rfl, .inr (.inr rfl)⟩ | refine ⟨_, _, rfl, rfl, ?_⟩ | exact ⟨_, rfl, rfl⟩ | exact ⟨_, _, _, _, rfl, rfl, rfl⟩ | exact ⟨_, rfl⟩ | exact ⟨_, _, rfl⟩ | apply And.intro))) (by (repeat' (first | exact trivial | rfl | exact listLe_map _ | exact ⟨_, rfl, .inl rfl⟩ | exact ⟨_, rfl, .inr (.inl rfl)⟩ | exact ⟨_, rfl, .inr (.inr rfl)⟩ | refine ⟨_, _, rfl, rfl, ?_⟩ | exact ⟨_, rfl, rfl⟩ | exact ⟨_, _, _, _, rfl, rfl, rfl⟩ | exact ⟨_, rfl⟩ | exact ⟨_, _, rfl⟩ | apply And.intro)))) (fun k hk => ?_)
  by_cases hlt : k < outs.length
  · have hx : outs[(k : Int).toNat]? = some outs[k] := by simp [hlt]
    have hx1 : outs[k]? = some outs[k] := by simp [hlt]
    have hl := last_lt ho.s (fun o h => by obtain ⟨_, _, _, _, _, _, _, h⟩ := ho.p o h; exact h) hx1
    have hla : lastO outs (k + 1) = (outs[k]).1 := lastO_succ hx1
    obtain ⟨u, hu, hgu, houv, hnp, hup, hgp, _⟩ := ho.p _ (List.getElem_mem hlt)
    generalize outs[k] = o at hx hx1 hl hla hgu houv hnp
    subst houv
    simp only at hl hla hgu hnp
    have cu := at_some hgu
    have cpu := ref8_Passes u r v hrr
    rw [hup] at cpu
    rw [hgp] at cpg
    generalize lastO outs k = la at hl
    repeat' (first
    | refine DW_seq ?_
    | refine DW_region ?_
    | refine DW_draw ?_
    | refine dnilP ?_
    | refine dnilD (by kernel_rfl) ?_
    | refine then_normal ?_
    | refine then_exit ?_
    | refine then_ret ?_
    | refine DW_block ?_
    | refine blk_normal ?_
    | refine blk_ret ?_
    | refine blk_hit rfl ?_
    | refine blk_miss rfl ?_
    | refine loop_exit ?_
    | refine loop_ret ?_
    | refine DW_ret ?_
    | refine DW_exit ?_
    | refine DW_skip ?_
    | refine DW_cond_t rfl ?_
    | refine DW_cond_f rfl ?_
    | (apply dpC rfl; case h => first | exact S_callGD cu rfl | exact S_callGD ca rfl | exact S_call cw rfl | exact S_call cpu rfl | exact S_call cpg rfl | (apply Pu.ok; repeat' (first | rfl | exact .inK (by simp only [InK]; omega) | exact .inK (by simp only [InK]; simp at hg; omega) | exact .wr | constructor | decide | omega)))
    | refine dpOff rfl rfl ?_
    | ((first | apply dp rfl | apply dpOn rfl rfl | apply dpMay rfl rfl (by first | exact fun _ => trivial | exact fun h => ⟨h, trivial⟩ | exact fun h => ⟨h, h, trivial⟩ | exact fun h => ⟨h, h, h, trivial⟩)); case h => ((try intro hg); first | exact as_bool (S_lss rfl rfl) (decide_eq_true (by omega : (k : Int) < ((outs.map outV).length : Int))) | exact S_ixM rfl rfl (by omega) hx | exact as_bool (S_eql rfl rfl) (decide_eq_false hnp) | exact as_bool (S_leq rfl rfl) (decide_eq_false (by omega : ¬ u.port ≤ la)) | exact S_callGD cu rfl | exact S_callGD ca rfl | exact S_call cw rfl | exact S_call cpu rfl | exact S_call cpg rfl | (apply Pu.ok; repeat' (first | rfl | exact .inK (by simp only [InK]; omega) | exact .inK (by simp only [InK]; simp at hg; omega) | exact .wr | constructor | decide | omega))))
    | refine dpickAnd rfl rfl rfl rfl rfl ?_ | refine dpickOr rfl rfl rfl rfl rfl ?_
    | (apply dt rfl; case h => first | exact S_alloc _ rfl | exact S_box _ rfl rfl)
    | (apply ds; case h => first | exact S_store rfl rfl rfl rfl rfl rfl)
    | (apply dm rfl; case h => first | exact M_d rfl | exact S_alloc 2001 rfl | exact S_alloc 2002 rfl | exact S_alloc 2003 rfl | exact S_alloc 2004 rfl | exact S_alloc 2005 rfl)
    | fail)
    refine loop_again (k + 1) hlt (by omega) ?_
    rw [hla]
    exact Wk_gen some rfl rfl (by (repeat' (first | exact trivial | rfl | exact listLe_map _ | exact ⟨_, rfl, .inl rfl⟩ | exact ⟨_, rfl, .inr (.inl rfl)⟩ | exact ⟨_, rfl, .inr (.inr rfl)⟩ | refine ⟨_, _, rfl, rfl, ?_⟩ | exact ⟨_, rfl, rfl⟩ | exact ⟨_, _, _, _, rfl, rfl, rfl⟩ | exact ⟨_, rfl⟩ | exact ⟨_, _, rfl⟩ | apply And.intro))) (by (repeat' (first | exact trivial | rfl | exact listLe_map _ | exact ⟨_, rfl, .inl rfl⟩ | exact ⟨_, rfl, .inr (.inl rfl)⟩ | exact ⟨_, rfl, .inr (.inr rfl)⟩ | refine ⟨_, _, rfl, rfl, ?_⟩ | exact ⟨_, rfl, rfl⟩ | exact ⟨_, _, _, _, rfl, rfl, rfl⟩ | exact ⟨_, rfl⟩ | exact ⟨_, _, rfl⟩ | apply And.intro)))
  · repeat' (first
    | refine DW_seq ?_
    | refine DW_region ?_
    | refine DW_draw ?_
    | refine dnilP ?_
    | refine dnilD (by kernel_rfl) ?_
    | refine then_normal ?_
    | refine then_exit ?_
    | refine then_ret ?_
    | refine DW_block ?_
    | refine blk_normal ?_
    | refine blk_ret ?_
    | refine blk_hit rfl ?_
    | refine blk_miss rfl ?_
    | refine loop_exit ?_
    | refine loop_ret ?_
    | refine DW_ret ?_
    | refine DW_exit ?_
    | refine DW_skip ?_
    | refine DW_cond_t rfl ?_
    | refine DW_cond_f rfl ?_
    | (apply dpC rfl; case h => first | (apply Pu.ok; repeat' (first | rfl | exact .inK (by simp only [InK]; omega) | exact .inK (by simp only [InK]; simp at hg; omega) | exact .wr | constructor | decide | omega)))
    | refine dpOff rfl rfl ?_
    | ((first | apply dp rfl | apply dpOn rfl rfl | apply dpMay rfl rfl (by first | exact fun _ => trivial | exact fun h => ⟨h, trivial⟩ | exact fun h => ⟨h, h, trivial⟩ | exact fun h => ⟨h, h, h, trivial⟩)); case h => ((try intro hg); first | exact as_bool (S_lss rfl rfl) (decide_eq_false (by omega : ¬ (k : Int) < ((outs.map outV).length : Int))) | (apply Pu.ok; repeat' (first | rfl | exact .inK (by simp only [InK]; omega) | exact .inK (by simp only [InK]; simp at hg; omega) | exact .wr | constructor | decide | omega))))
    | refine dpickAnd rfl rfl rfl rfl rfl ?_ | refine dpickOr rfl rfl rfl rfl rfl ?_
    | (apply dt rfl; case h => first | exact S_alloc _ rfl | exact S_box _ rfl rfl)
    | (apply ds; case h => first | exact S_store rfl rfl rfl rfl rfl rfl)
    | (apply dm rfl; case h => first | exact M_d rfl | exact S_alloc 2001 rfl | exact S_alloc 2002 rfl | exact S_alloc 2003 rfl | exact S_alloc 2004 rfl | exact S_alloc 2005 rfl)
    | fail)
    exact ret1 rfl (.inl rfl) rfl
end Go.Proofs.Ytpdoplmnedpdaaa
