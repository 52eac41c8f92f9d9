/- Law: TalkOpens. -/
import Derived.Test.YtpgcemabkjmliaaydTas
namespace Go.Proofs.Ytpgcemabkjmliaa
open Go.RowKit
theorem calm_nonneg {n : Net} {t : List (List Mind)} (ht : goodT n t) {l : List Mind} (hl : l ∈ t) (i j : Nat) : 0 ≤ cAt (mAt l i) j := by
  unfold cAt
  by_cases hi : i < l.length
  · have hm := (ht.m l hl).2 i _ (mAt_get hi)
    by_cases hj : j < (mAt l i).calm.length
    · rw [List.getElem?_eq_getElem hj]; exact (hm.b _ (List.getElem_mem hj)).1
    · rw [List.getElem?_eq_none (by omega)]; exact Int.le_refl _
  · unfold mAt
    rw [show l[i]? = none from List.getElem?_eq_none (by omega)]; exact Int.le_refl _
theorem opensT_at {m : Net} (hg : m.good) {t1 : List (List Mind)} (ht : goodT m t1) {T : Nat} (hT : 90 ≤ T) {k i : Nat} (hk : k < t1.length) (hi : i < m.bridges.length) {p : Int} (hp : p ∈ portsOf m.links i) :
    opensT (ticksN m t1 T) k i p = decide (roleF m k i p = 1 ∨ roleF m k i p = 2) := by
  have hkl : k < (ticksN m t1 T).length := by rw [ticks_len]; exact hk
  have hmem : t1[k] ∈ t1 := List.getElem_mem hk
  have hl1 := (ht.m t1[k] hmem).1
  have hget : (ticksN m t1 T)[k]? = some (tkN m k t1[k] T) := by rw [ticksN_get, List.getElem?_eq_getElem hk]; rfl
  unfold opensT
  rw [if_neg (by omega)]
  simp only [Int.toNat_natCast]
  rw [hget, Option.getD_some, if_neg (by rw [tkN_len]; omega)]
  exact opens_at hg k hl1 (fun i j => calm_nonneg ht hmem i j) hi hT hp
attribute [local irreducible] SStep DW DWin DOps thenQ inBlk loopQ retQ retQG FnF FnG FnI FnM Wk IntKind.wrap IntKind.andI IntKind.orI IntKind.xorI IntKind.andNotI IntKind.shlI IntKind.shrI playA onA ticksN tkN planF planA portsOf roleF opensT
set_option maxHeartbeats 8000000 in
theorem law_TalkOpens (n : Net) (ht : n.typed) (trees : Int) (l : List Doing) (hlb : l.length ≤ 1048576) : FnF Try.prog 9 [n.v, .int .i64 trees, .slice (l.map Doing.cells)] (.bool true) := by
  refine fnF_of Try.func9 rfl rfl rfl ?_
  simp only [envOf]
  have hml : (l.map Doing.cells).length = l.length := by simp
  by_cases c3 : 29 < l.length
  · repeat' (first | (apply Wa; constructor) | refine Wb rfl ?_ | refine Wc rfl ?_ | refine Wd (by kernel_rfl) ?_ | refine We rfl ?_ | refine Wf rfl ?_ | refine Wg rfl (by omega) ?_ | refine Wh rfl (by omega) ?_ | refine Wi rfl rfl ?_ | ((first | apply dX rfl | apply Da rfl rfl | apply Db rfl rfl (by intro h; first | trivial | exact ⟨h, trivial⟩ | exact ⟨h, h, trivial⟩)); (focus ((try intro hg); first | exact S_call law7_alive rfl | exact Ca rfl rfl (by constructor) (by omega) | exact Cb rfl rfl (by constructor) (by omega) | exact S_al rfl | exact S_bx rfl rfl | exact S_store rfl rfl rfl rfl rfl rfl | (apply Pu.ok; repeat' (first | rfl | exact .inK (by simp only [InK]; omega) | exact .wr | constructor | decide | omega)))); constructor) | refine Pa rfl rfl rfl rfl rfl ?_ | refine Po rfl rfl rfl rfl rfl ?_ | fail)
    refine ret1 rfl (by first | exact .inl rfl | exact .inr (flat_of rfl)) ?_
    rfl
  have hp := talk_Play n ht trees (l ++ [tickD 90])
  have ht90 := law7_ticks 90
  rcases playA_cases ht trees (l ++ [tickD 90]) with ⟨f, hf, hne⟩ | ⟨hg, h0, h1, h2, hl, ⟨m, t⟩, hon, hpl⟩
  · rw [hf] at hp
    rw [← whole_eq (f := Doing.cells) (us := l ++ [tickD 90]) rfl] at hp
    obtain ⟨e, i⟩ := f
    simp only at hne
    repeat' (first | (apply dt rfl; case h => exact S_litO (els := []) _ rfl rfl rfl rfl rfl) | (apply Wa; constructor) | refine Wb rfl ?_ | refine Wc rfl ?_ | refine Wd (by kernel_rfl) ?_ | refine We rfl ?_ | refine Wf rfl ?_ | refine Wg rfl (by omega) ?_ | refine Wh rfl (by omega) ?_ | refine Wi rfl rfl ?_ | ((first | apply dX rfl | apply Da rfl rfl | apply Db rfl rfl (by intro h; first | trivial | exact ⟨h, trivial⟩ | exact ⟨h, h, trivial⟩)); (focus ((try intro hg); first | exact S_call law7_alive rfl | exact S_call ht90 rfl | exact S_appM (f := Doing.cells) (us := []) (bs := l) rfl rfl (.dat _ _) rfl rfl (.inr ⟨rfl, inferInstance⟩) rfl (by simp only [List.length_nil]; omega) | exact S_appM (f := Doing.cells) (us := l) (bs := [tickD 90]) rfl rfl (.dat _ _) rfl rfl (.inr ⟨rfl, inferInstance⟩) rfl (by simp only [List.length_singleton]; omega) | exact S_call hp rfl | exact Ca rfl rfl (by constructor) (by omega) | exact Cb rfl rfl (by constructor) (by omega) | exact S_al rfl | exact S_bx rfl rfl | exact S_store rfl rfl rfl rfl rfl rfl | (apply Pu.ok; repeat' (first | rfl | exact .inK (by simp only [InK]; omega) | exact .wr | constructor | decide | omega)))); constructor) | refine Pa rfl rfl rfl rfl rfl ?_ | refine Po rfl rfl rfl rfl rfl ?_ | fail)
    refine ret1 rfl (by first | exact .inl rfl | exact .inr (flat_of rfl)) ?_
    rfl
  rw [hpl] at hp
  obtain ⟨mg, mt, m0, mk, mgt, mtl⟩ := play_two ht hpl hg h0 h1 h2 hon
  obtain ⟨t1, hon1, htt⟩ := run_ticks (by decide) hon
  simp only at hon1 htt
  have hgt1 := (run_good hg h2 hon1).2
  have hop : ∀ (k i : Nat) p, k < t.length → i < m.bridges.length → p ∈ portsOf m.links i → opensT t k i p = decide (roleF m k i p = 1 ∨ roleF m k i p = 2) := fun k i p hk hi hp => by
    rw [htt] at hk ⊢
    rw [ticks_len] at hk
    exact opensT_at mg hgt1 (by decide) hk hi hp
  clear htt hon1 hgt1
  change FnF _ _ _ (.tuple [m.v, talkV t, faultV (0, 0)]) at hp
  rw [← whole_eq (f := Doing.cells) (us := l ++ [tickD 90]) rfl] at hp
  have hmt : (t.map mindsRow).length = t.length := by simp
  have htl := mgt.l
  have hnb := mg.nb
  repeat' (first | (apply dt rfl; case h => exact S_litO (els := []) _ rfl rfl rfl rfl rfl) | (apply Wa; constructor) | refine Wb rfl ?_ | refine Wc rfl ?_ | refine Wd (by kernel_rfl) ?_ | refine We rfl ?_ | refine Wf rfl ?_ | refine Wg rfl (by omega) ?_ | refine Wh rfl (by omega) ?_ | refine Wi rfl rfl ?_ | ((first | apply dX rfl | apply Da rfl rfl | apply Db rfl rfl (by intro h; first | trivial | exact ⟨h, trivial⟩ | exact ⟨h, h, trivial⟩)); (focus ((try intro hg); first | exact S_call law7_alive rfl | exact S_call ht90 rfl | exact S_appM (f := Doing.cells) (us := []) (bs := l) rfl rfl (.dat _ _) rfl rfl (.inr ⟨rfl, inferInstance⟩) rfl (by simp only [List.length_nil]; omega) | exact S_appM (f := Doing.cells) (us := l) (bs := [tickD 90]) rfl rfl (.dat _ _) rfl rfl (.inr ⟨rfl, inferInstance⟩) rfl (by simp only [List.length_singleton]; omega) | exact S_call hp rfl | exact Ca rfl rfl (by constructor) (by omega) | exact Cb rfl rfl (by constructor) (by omega) | exact S_al rfl | exact S_bx rfl rfl | exact S_store rfl rfl rfl rfl rfl rfl | (apply Pu.ok; repeat' (first | rfl | exact .inK (by simp only [InK]; omega) | exact .wr | constructor | decide | omega)))); constructor) | refine Pa rfl rfl rfl rfl rfl ?_ | refine Po rfl rfl rfl rfl rfl ?_ | fail)
  refine DW_loop (fun k : Nat => ⟨[(7, .ptr 7 0), (8, .ptr 8 0), (41, .dat true (.int .i64 (t.map mindsRow).length)), (42, .dat true (.int .i64 k))], [(7, .cells false true (m.cells.map (.dat true))), (8, .cells false true [.dat true (.slice (t.map mindsRow))])], 93⟩)
    (fun k => k ≤ t.length) (fun k => t.length - k) 0 (Nat.zero_le _) (Wk_g some rfl rfl (by (repeat' (first | exact trivial | rfl | exact listLe_map _ | exact ⟨_, rfl, .inl rfl⟩ | exact ⟨_, rfl, .inr (.inl rfl)⟩ | exact ⟨_, rfl, .inr (.inr rfl)⟩ | refine ⟨_, _, rfl, rfl, ?_⟩ | exact ⟨_, rfl, rfl⟩ | exact ⟨_, _, _, _, rfl, rfl, rfl⟩ | exact ⟨_, rfl⟩ | exact ⟨_, _, rfl⟩ | apply And.intro)))) (fun k hk => ?_)
  by_cases hlt : k < t.length
  · have hpp := plan_Plan m mt k
    rw [planA_good m0 (by omega)] at hpp
    change FnF _ _ _ (.tuple [.slice ((planF m k).map Place.cells), faultV (0, 0)]) at hpp
    have hpl2 := plan_len m k
    have hmp : ((planF m k).map Place.cells).length = m.bridges.length := by rw [List.length_map, hpl2]
    repeat' (first | (apply Wa; constructor) | refine Wb rfl ?_ | refine Wc rfl ?_ | refine Wd (by kernel_rfl) ?_ | refine We rfl ?_ | refine Wf rfl ?_ | refine Wg rfl (by omega) ?_ | refine Wh rfl (by omega) ?_ | refine Wi rfl rfl ?_ | ((first | apply dX rfl | apply Da rfl rfl | apply Db rfl rfl (by intro h; first | trivial | exact ⟨h, trivial⟩ | exact ⟨h, h, trivial⟩)); (focus ((try intro hg); first | exact S_call hpp rfl | exact Ca rfl rfl (by constructor) (by omega) | exact Cb rfl rfl (by constructor) (by omega) | exact S_al rfl | exact S_bx rfl rfl | exact S_store rfl rfl rfl rfl rfl rfl | (apply Pu.ok; repeat' (first | rfl | exact .inK (by simp only [InK]; omega) | exact .wr | constructor | decide | omega)))); constructor) | refine Pa rfl rfl rfl rfl rfl ?_ | refine Po rfl rfl rfl rfl rfl ?_ | fail)
    refine DW_loop (fun i : Nat => ⟨[(7, .ptr 7 0), (8, .ptr 8 0), (41, .dat true (.int .i64 (t.map mindsRow).length)), (42, .dat true (.int .i64 k)), (10, .dat true (.int .i64 k)), (11, .dat true (.slice ((planF m k).map Place.cells))), (55, .dat true (.int .i64 ((planF m k).map Place.cells).length)), (56, .dat true (.int .i64 i))], [(7, .cells false true (m.cells.map (.dat true))), (8, .cells false true [.dat true (.slice (t.map mindsRow))])], 93⟩)
      (fun i => i ≤ m.bridges.length) (fun i => m.bridges.length - i) 0 (Nat.zero_le _) (Wk_g some rfl rfl (by (repeat' (first | exact trivial | rfl | exact listLe_map _ | exact ⟨_, rfl, .inl rfl⟩ | exact ⟨_, rfl, .inr (.inl rfl)⟩ | exact ⟨_, rfl, .inr (.inr rfl)⟩ | refine ⟨_, _, rfl, rfl, ?_⟩ | exact ⟨_, rfl, rfl⟩ | exact ⟨_, _, _, _, rfl, rfl, rfl⟩ | exact ⟨_, rfl⟩ | exact ⟨_, _, rfl⟩ | apply And.intro)))) (fun i hi => ?_)
    by_cases hli : i < m.bridges.length
    · have hy : (planF m k)[(i : Int).toNat]? = some ⟨sF m k i, pF m k i, portsOf m.links i, (portsOf m.links i).map (roleF m k i)⟩ := by rw [Int.toNat_natCast]; exact plan_get hli
      have hpo : (portsOf m.links i).length ≤ 80 := by
        have := rawP_len m.links i
        have := mg.nl
        rw [portsOf_eq]; unfold sortI; rw [List.length_mergeSort]; omega
      have hopi := fun p hp => hop k i p hlt hli hp
      obtain ⟨ps, hps⟩ : ∃ ps, ps = portsOf m.links i := ⟨_, rfl⟩
      rw [← hps] at hy hpo hopi
      have hmps : (ps.map intV1).length = ps.length := by simp
      generalize sF m k i = v at hy
      generalize pF m k i = rp at hy
      generalize hrf : roleF m k i = rf at hy hopi
      repeat' (first | (apply Wa; constructor) | refine Wb rfl ?_ | refine Wc rfl ?_ | refine Wd (by kernel_rfl) ?_ | refine We rfl ?_ | refine Wf rfl ?_ | refine Wg rfl (by omega) ?_ | refine Wh rfl (by omega) ?_ | refine Wi rfl rfl ?_ | ((first | apply dX rfl | apply Da rfl rfl | apply Db rfl rfl (by intro h; first | trivial | exact ⟨h, trivial⟩ | exact ⟨h, h, trivial⟩)); (focus ((try intro hg); first | exact S_ixM rfl rfl (by omega) hy | exact Ca rfl rfl (by constructor) (by omega) | exact Cb rfl rfl (by constructor) (by omega) | exact S_al rfl | exact S_bx rfl rfl | exact S_store rfl rfl rfl rfl rfl rfl | (apply Pu.ok; repeat' (first | rfl | exact .inK (by simp only [InK]; omega) | exact .wr | constructor | decide | omega)))); constructor) | refine Pa rfl rfl rfl rfl rfl ?_ | refine Po rfl rfl rfl rfl rfl ?_ | fail)
      refine DW_loop (fun j : Nat => ⟨[(7, .ptr 7 0), (8, .ptr 8 0), (41, .dat true (.int .i64 (t.map mindsRow).length)), (42, .dat true (.int .i64 k)), (10, .dat true (.int .i64 k)), (11, .dat true (.slice ((planF m k).map Place.cells))), (55, .dat true (.int .i64 ((planF m k).map Place.cells).length)), (56, .dat true (.int .i64 i)), (13, .dat true (.int .i64 i)), (63, .dat true (.slice (ps.map intV1))), (64, .dat true (.int .i64 (ps.map intV1).length)), (65, .dat true (.int .i64 j))], [(7, .cells false true (m.cells.map (.dat true))), (8, .cells false true [.dat true (.slice (t.map mindsRow))])], 93⟩)
        (fun j => j ≤ ps.length) (fun j => ps.length - j) 0 (Nat.zero_le _) (Wk_g some rfl rfl (by (repeat' (first | exact trivial | rfl | exact listLe_map _ | exact ⟨_, rfl, .inl rfl⟩ | exact ⟨_, rfl, .inr (.inl rfl)⟩ | exact ⟨_, rfl, .inr (.inr rfl)⟩ | refine ⟨_, _, rfl, rfl, ?_⟩ | exact ⟨_, rfl, rfl⟩ | exact ⟨_, _, _, _, rfl, rfl, rfl⟩ | exact ⟨_, rfl⟩ | exact ⟨_, _, rfl⟩ | apply And.intro)))) (fun j hj => ?_)
      by_cases hlj : j < ps.length
      · have hz : ps[(j : Int).toNat]? = some ps[j] := by simp [hlj]
        have hzr : (ps.map rf)[(j : Int).toNat]? = some (rf ps[j]) := by simp [hlj]
        have hov := hopi ps[j] (List.getElem_mem hlj)
        generalize ps[j] = p at hz hzr hov
        have hoc := talk_Opens m mg t mgt k i p
        rw [hov] at hoc
        generalize rf p = r at hzr hoc
        by_cases r1 : r = 1
        · rw [decide_eq_true (.inl r1)] at hoc
          repeat' (first | (apply Wa; constructor) | refine Wb rfl ?_ | refine Wc rfl ?_ | refine Wd (by kernel_rfl) ?_ | refine We rfl ?_ | refine Wf rfl ?_ | refine Wg rfl (by omega) ?_ | refine Wh rfl (by omega) ?_ | refine Wi rfl rfl ?_ | ((first | apply dX rfl | apply Da rfl rfl | apply Db rfl rfl (by intro h; first | trivial | exact ⟨h, trivial⟩ | exact ⟨h, h, trivial⟩)); (focus ((try intro hg); first | exact S_ixM rfl rfl (by omega) hy | exact S_ixM rfl rfl (by omega) hz | exact S_ixM rfl rfl (by omega) hzr | exact S_call hoc rfl | exact Ca rfl rfl (by constructor) (by omega) | exact Cb rfl rfl (by constructor) (by omega) | exact S_al rfl | exact S_bx rfl rfl | exact S_store rfl rfl rfl rfl rfl rfl | (apply Pu.ok; repeat' (first | rfl | exact .inK (by simp only [InK]; omega) | exact .wr | constructor | decide | omega)))); constructor) | refine Pa rfl rfl rfl rfl rfl ?_ | refine Po rfl rfl rfl rfl rfl ?_ | fail)
          exact loop_again (j + 1) hlj (by omega) (Wk_g some rfl rfl (by (repeat' (first | exact trivial | rfl | exact listLe_map _ | exact ⟨_, rfl, .inl rfl⟩ | exact ⟨_, rfl, .inr (.inl rfl)⟩ | exact ⟨_, rfl, .inr (.inr rfl)⟩ | refine ⟨_, _, rfl, rfl, ?_⟩ | exact ⟨_, rfl, rfl⟩ | exact ⟨_, _, _, _, rfl, rfl, rfl⟩ | exact ⟨_, rfl⟩ | exact ⟨_, _, rfl⟩ | apply And.intro))))
        by_cases r2 : r = 2
        · rw [decide_eq_true (.inr r2)] at hoc
          repeat' (first | (apply Wa; constructor) | refine Wb rfl ?_ | refine Wc rfl ?_ | refine Wd (by kernel_rfl) ?_ | refine We rfl ?_ | refine Wf rfl ?_ | refine Wg rfl (by omega) ?_ | refine Wh rfl (by omega) ?_ | refine Wi rfl rfl ?_ | ((first | apply dX rfl | apply Da rfl rfl | apply Db rfl rfl (by intro h; first | trivial | exact ⟨h, trivial⟩ | exact ⟨h, h, trivial⟩)); (focus ((try intro hg); first | exact S_ixM rfl rfl (by omega) hy | exact S_ixM rfl rfl (by omega) hz | exact S_ixM rfl rfl (by omega) hzr | exact S_call hoc rfl | exact Ca rfl rfl (by constructor) (by omega) | exact Cb rfl rfl (by constructor) (by omega) | exact S_al rfl | exact S_bx rfl rfl | exact S_store rfl rfl rfl rfl rfl rfl | (apply Pu.ok; repeat' (first | rfl | exact .inK (by simp only [InK]; omega) | exact .wr | constructor | decide | omega)))); constructor) | refine Pa rfl rfl rfl rfl rfl ?_ | refine Po rfl rfl rfl rfl rfl ?_ | fail)
          exact loop_again (j + 1) hlj (by omega) (Wk_g some rfl rfl (by (repeat' (first | exact trivial | rfl | exact listLe_map _ | exact ⟨_, rfl, .inl rfl⟩ | exact ⟨_, rfl, .inr (.inl rfl)⟩ | exact ⟨_, rfl, .inr (.inr rfl)⟩ | refine ⟨_, _, rfl, rfl, ?_⟩ | exact ⟨_, rfl, rfl⟩ | exact ⟨_, _, _, _, rfl, rfl, rfl⟩ | exact ⟨_, rfl⟩ | exact ⟨_, _, rfl⟩ | apply And.intro))))
        · rw [decide_eq_false (by omega)] at hoc
          repeat' (first | (apply Wa; constructor) | refine Wb rfl ?_ | refine Wc rfl ?_ | refine Wd (by kernel_rfl) ?_ | refine We rfl ?_ | refine Wf rfl ?_ | refine Wg rfl (by omega) ?_ | refine Wh rfl (by omega) ?_ | refine Wi rfl rfl ?_ | ((first | apply dX rfl | apply Da rfl rfl | apply Db rfl rfl (by intro h; first | trivial | exact ⟨h, trivial⟩ | exact ⟨h, h, trivial⟩)); (focus ((try intro hg); first | exact S_ixM rfl rfl (by omega) hy | exact S_ixM rfl rfl (by omega) hz | exact S_ixM rfl rfl (by omega) hzr | exact S_call hoc rfl | exact Ca rfl rfl (by constructor) (by omega) | exact Cb rfl rfl (by constructor) (by omega) | exact S_al rfl | exact S_bx rfl rfl | exact S_store rfl rfl rfl rfl rfl rfl | (apply Pu.ok; repeat' (first | rfl | exact .inK (by simp only [InK]; omega) | exact .wr | constructor | decide | omega)))); constructor) | refine Pa rfl rfl rfl rfl rfl ?_ | refine Po rfl rfl rfl rfl rfl ?_ | fail)
          exact loop_again (j + 1) hlj (by omega) (Wk_g some rfl rfl (by (repeat' (first | exact trivial | rfl | exact listLe_map _ | exact ⟨_, rfl, .inl rfl⟩ | exact ⟨_, rfl, .inr (.inl rfl)⟩ | exact ⟨_, rfl, .inr (.inr rfl)⟩ | refine ⟨_, _, rfl, rfl, ?_⟩ | exact ⟨_, rfl, rfl⟩ | exact ⟨_, _, _, _, rfl, rfl, rfl⟩ | exact ⟨_, rfl⟩ | exact ⟨_, _, rfl⟩ | apply And.intro))))
      · repeat' (first | (apply Wa; constructor) | refine Wb rfl ?_ | refine Wc rfl ?_ | refine Wd (by kernel_rfl) ?_ | refine We rfl ?_ | refine Wf rfl ?_ | refine Wg rfl (by omega) ?_ | refine Wh rfl (by omega) ?_ | refine Wi rfl rfl ?_ | ((first | apply dX rfl | apply Da rfl rfl | apply Db rfl rfl (by intro h; first | trivial | exact ⟨h, trivial⟩ | exact ⟨h, h, trivial⟩)); (focus ((try intro hg); first | exact Ca rfl rfl (by constructor) (by omega) | exact Cb rfl rfl (by constructor) (by omega) | exact S_al rfl | exact S_bx rfl rfl | exact S_store rfl rfl rfl rfl rfl rfl | (apply Pu.ok; repeat' (first | rfl | exact .inK (by simp only [InK]; omega) | exact .wr | constructor | decide | omega)))); constructor) | refine Pa rfl rfl rfl rfl rfl ?_ | refine Po rfl rfl rfl rfl rfl ?_ | fail)
        exact loop_again (i + 1) hli (by omega) (Wk_g some rfl rfl (by (repeat' (first | exact trivial | rfl | exact listLe_map _ | exact ⟨_, rfl, .inl rfl⟩ | exact ⟨_, rfl, .inr (.inl rfl)⟩ | exact ⟨_, rfl, .inr (.inr rfl)⟩ | refine ⟨_, _, rfl, rfl, ?_⟩ | exact ⟨_, rfl, rfl⟩ | exact ⟨_, _, _, _, rfl, rfl, rfl⟩ | exact ⟨_, rfl⟩ | exact ⟨_, _, rfl⟩ | apply And.intro))))
    · repeat' (first | (apply Wa; constructor) | refine Wb rfl ?_ | refine Wc rfl ?_ | refine Wd (by kernel_rfl) ?_ | refine We rfl ?_ | refine Wf rfl ?_ | refine Wg rfl (by omega) ?_ | refine Wh rfl (by omega) ?_ | refine Wi rfl rfl ?_ | ((first | apply dX rfl | apply Da rfl rfl | apply Db rfl rfl (by intro h; first | trivial | exact ⟨h, trivial⟩ | exact ⟨h, h, trivial⟩)); (focus ((try intro hg); first | exact Ca rfl rfl (by constructor) (by omega) | exact Cb rfl rfl (by constructor) (by omega) | exact S_al rfl | exact S_bx rfl rfl | exact S_store rfl rfl rfl rfl rfl rfl | (apply Pu.ok; repeat' (first | rfl | exact .inK (by simp only [InK]; omega) | exact .wr | constructor | decide | omega)))); constructor) | refine Pa rfl rfl rfl rfl rfl ?_ | refine Po rfl rfl rfl rfl rfl ?_ | fail)
      exact loop_again (k + 1) hlt (by omega) (Wk_g some rfl rfl (by (repeat' (first | exact trivial | rfl | exact listLe_map _ | exact ⟨_, rfl, .inl rfl⟩ | exact ⟨_, rfl, .inr (.inl rfl)⟩ | exact ⟨_, rfl, .inr (.inr rfl)⟩ | refine ⟨_, _, rfl, rfl, ?_⟩ | exact ⟨_, rfl, rfl⟩ | exact ⟨_, _, _, _, rfl, rfl, rfl⟩ | exact ⟨_, rfl⟩ | exact ⟨_, _, rfl⟩ | apply And.intro))))
  · repeat' (first | (apply Wa; constructor) | refine Wb rfl ?_ | refine Wc rfl ?_ | refine Wd (by kernel_rfl) ?_ | refine We rfl ?_ | refine Wf rfl ?_ | refine Wg rfl (by omega) ?_ | refine Wh rfl (by omega) ?_ | refine Wi rfl rfl ?_ | ((first | apply dX rfl | apply Da rfl rfl | apply Db rfl rfl (by intro h; first | trivial | exact ⟨h, trivial⟩ | exact ⟨h, h, trivial⟩)); (focus ((try intro hg); first | exact Ca rfl rfl (by constructor) (by omega) | exact Cb rfl rfl (by constructor) (by omega) | exact S_al rfl | exact S_bx rfl rfl | exact S_store rfl rfl rfl rfl rfl rfl | (apply Pu.ok; repeat' (first | rfl | exact .inK (by simp only [InK]; omega) | exact .wr | constructor | decide | omega)))); constructor) | refine Pa rfl rfl rfl rfl rfl ?_ | refine Po rfl rfl rfl rfl rfl ?_ | fail)
    refine ret1 rfl (by first | exact .inl rfl | exact .inr (flat_of rfl)) ?_
    rfl
end Go.Proofs.Ytpgcemabkjmliaa
