/- Law: TalkQuiet. -/
import Derived.Test.YtpgcemabkjmliaaydTas
namespace Go.Proofs.Ytpgcemabkjmliaa
open Go.RowKit
theorem ticksN_add (n : Net) (t : List (List Mind)) (a : Nat) : ∀ b, ticksN n (ticksN n t a) b = ticksN n t (a + b)
  | 0 => rfl
  | b + 1 => by
    show tickN n (ticksN n (ticksN n t a) b) = tickN n (ticksN n t (a + b))
    rw [ticksN_add n t a b]
theorem ports_le {n : Net} (h : n.good) (i : Int) : (portsOf n.links i).length ≤ 80 := by
  have := rawP_len n.links i
  have := h.nl
  rw [portsOf_eq]; unfold sortI; rw [List.length_mergeSort]; omega
theorem quiet_tick {m : Net} (hg : m.good) {t1 : List (List Mind)} (ht : goodT m t1) {T : Nat} (hT : 33 ≤ T) {k : Nat} {u : List Mind} (hu : (ticksN m t1 T)[k]? = some u) :
    ∃ u', (ticksN m t1 (T + 1))[k]? = some u' ∧ u.length = m.bridges.length ∧ u'.length = u.length ∧ ∀ i, i < u.length → (mAt u' i).vec = (mAt u i).vec ∧ (mAt u' i).age = (mAt u i).age ∧ (mAt u' i).rootPort = (mAt u i).rootPort ∧ (mAt u' i).roles = (mAt u i).roles ∧ (mAt u' i).calm.length = (mAt u i).calm.length ∧ (mAt u i).roles.length = (mAt u i).calm.length ∧ (mAt u i).calm.length ≤ 80 ∧
      (∀ c ∈ (mAt u i).calm, 0 ≤ c ∧ c ≤ 50) ∧ ∀ j, j < (mAt u' i).calm.length → ((mAt u' i).calm[j]?).getD 0 = calmOf (rAt (mAt u i) j) (cAt (mAt u i) j) := by
  rw [ticksN_get] at hu
  obtain ⟨l0, h0, rfl⟩ := Option.map_eq_some_iff.1 hu
  have hl0 := (ht.m l0 (List.mem_of_getElem? h0)).1
  refine ⟨tkN m k l0 (T + 1), by rw [ticksN_get, h0]; rfl, by rw [tkN_len]; exact hl0, by rw [tkN_len, tkN_len], fun i hi => ?_⟩
  rw [tkN_len] at hi
  obtain ⟨q1, q2, q3, q4, q5⟩ := quiet hg k hl0 (i := i) (by omega) hT
  have gu := ticksN_good ht T
  have gu2 := ticksN_good ht (T + 1)
  have hu1 : (ticksN m t1 T)[k]? = some (tkN m k l0 T) := by rw [ticksN_get, h0]; rfl
  have hu2 : (ticksN m t1 (T + 1))[k]? = some (tkN m k l0 (T + 1)) := by rw [ticksN_get, h0]; rfl
  have m1 := (gu.m _ (List.mem_of_getElem? hu1)).2 i _ (mAt_get (by rw [tkN_len]; exact hi))
  have m2 := (gu2.m _ (List.mem_of_getElem? hu2)).2 i _ (mAt_get (by rw [tkN_len]; exact hi))
  refine ⟨q1, q2, q3, q5, by rw [m2.c, m1.c], by rw [m1.r, m1.c], by rw [m1.c]; exact ports_le hg i, m1.b, fun j hj => ?_⟩
  · have := calm_tk (n := m) (tree := k) (l := l0) (k := T) (i := i) (j := j) hi (by rw [← m2.c]; exact hj)
    have e : rAt (mAt (tkN m k l0 (T + 1)) i) j = rAt (mAt (tkN m k l0 T) i) j := by unfold rAt; rw [q5]
    rw [e] at this
    exact this
attribute [local irreducible] SStep DW DWin DOps thenQ inBlk loopQ retQ retQG FnF FnG FnI FnM Wk IntKind.wrap IntKind.andI IntKind.orI IntKind.xorI IntKind.andNotI IntKind.shlI IntKind.shrI playA onA ticksN tkN calmOf
set_option maxHeartbeats 8000000 in
theorem law_TalkQuiet (n : Net) (ht : n.typed) (trees : Int) (l : List Doing) (hlb : l.length ≤ 1048576) : FnF Try.prog 6 [n.v, .int .i64 trees, .slice (l.map Doing.cells)] (.bool true) := by
  refine fnF_of Try.func6 rfl rfl rfl ?_
  simp only [envOf]
  have hml : (l.map Doing.cells).length = l.length := by simp
  by_cases c3 : 29 < l.length
  · repeat' (first | (apply Wa; constructor) | refine Wb rfl ?_ | refine Wc rfl ?_ | refine Wd (by kernel_rfl) ?_ | refine We rfl ?_ | refine Wf rfl ?_ | refine Wg rfl (by omega) ?_ | refine Wh rfl (by omega) ?_ | refine Wi rfl rfl ?_ | ((first | apply dX rfl | apply Da rfl rfl | apply Db rfl rfl (by intro h; first | trivial | exact ⟨h, trivial⟩ | exact ⟨h, h, trivial⟩)); (focus ((try intro hg); first | exact S_call law7_alive rfl | exact Ca rfl rfl (by constructor) (by omega) | exact Cb rfl rfl (by constructor) (by omega) | exact S_al rfl | exact S_bx rfl rfl | exact S_store rfl rfl rfl rfl rfl rfl | (apply Pu.ok; repeat' (first | rfl | exact .inK (by simp only [InK]; omega) | exact .wr | constructor | decide | omega)))); constructor) | refine Pa rfl rfl rfl rfl rfl ?_ | refine Po rfl rfl rfl rfl rfl ?_ | fail)
    refine ret1 rfl (by first | exact .inl rfl | exact .inr (flat_of rfl)) ?_
    rfl
  have hp := talk_Play n ht trees (l ++ [tickD 40])
  have ht40 := law7_ticks 40
  have ht1 := law7_ticks 1
  rcases playA_cases ht trees (l ++ [tickD 40]) with ⟨f, hf, hne⟩ | ⟨hg, h0, h1, h2, hl, ⟨m, t⟩, hon, hpl⟩
  · rw [hf] at hp
    rw [← whole_eq (f := Doing.cells) (us := l ++ [tickD 40]) rfl] at hp
    obtain ⟨e, i⟩ := f
    simp only at hne
    repeat' (first | (apply dt rfl; case h => exact S_litO (els := []) _ rfl rfl rfl rfl rfl) | (apply Wa; constructor) | refine Wb rfl ?_ | refine Wc rfl ?_ | refine Wd (by kernel_rfl) ?_ | refine We rfl ?_ | refine Wf rfl ?_ | refine Wg rfl (by omega) ?_ | refine Wh rfl (by omega) ?_ | refine Wi rfl rfl ?_ | ((first | apply dX rfl | apply Da rfl rfl | apply Db rfl rfl (by intro h; first | trivial | exact ⟨h, trivial⟩ | exact ⟨h, h, trivial⟩)); (focus ((try intro hg); first | exact S_call law7_alive rfl | exact S_call ht40 rfl | exact S_appM (f := Doing.cells) (us := []) (bs := l) rfl rfl (.dat _ _) rfl rfl (.inr ⟨rfl, inferInstance⟩) rfl (by simp only [List.length_nil]; omega) | exact S_appM (f := Doing.cells) (us := l) (bs := [tickD 40]) rfl rfl (.dat _ _) rfl rfl (.inr ⟨rfl, inferInstance⟩) rfl (by simp only [List.length_singleton]; omega) | exact S_call hp rfl | exact Ca rfl rfl (by constructor) (by omega) | exact Cb rfl rfl (by constructor) (by omega) | exact S_al rfl | exact S_bx rfl rfl | exact S_store rfl rfl rfl rfl rfl rfl | (apply Pu.ok; repeat' (first | rfl | exact .inK (by simp only [InK]; omega) | exact .wr | constructor | decide | omega)))); constructor) | refine Pa rfl rfl rfl rfl rfl ?_ | refine Po rfl rfl rfl rfl rfl ?_ | fail)
    refine ret1 rfl (by first | exact .inl rfl | exact .inr (flat_of rfl)) ?_
    rfl
  rw [hpl] at hp
  obtain ⟨mg, mt, m0, mk, mgt, mtl⟩ := play_two ht hpl hg h0 h1 h2 hon
  obtain ⟨t1, hon1, htt⟩ := run_ticks (by decide) hon
  simp only at hon1 htt
  have hgt1 := (run_good hg h2 hon1).2
  have hq := talk_On m mt t (fun _ => ⟨mgt, by omega⟩) [tickD 1]
  rw [onA_loop m0 (by simp), onLoop_tick (by decide)] at hq
  have hqt := fun (k : Nat) (u : List Mind) (hu : t[k]? = some u) => quiet_tick mg hgt1 (T := 40) (by decide) (k := k) (u := u) (by rw [htt] at hu; exact hu)
  have hww : ticksN m t (1 : Int).toNat = ticksN m t1 41 := by
    rw [htt, ticksN_add]; rfl
  rw [hww] at hq
  have hwl : (ticksN m t1 41).length = t.length := by rw [htt, ticks_len, ticks_len]
  change FnF _ _ _ (.tuple [m.v, talkV t, faultV (0, 0)]) at hp
  change FnF _ _ _ (.tuple [m.v, talkV (ticksN m t1 41), faultV (0, 0)]) at hq
  change ∀ k u, t[k]? = some u → ∃ u', (ticksN m t1 41)[k]? = some u' ∧ _ at hqt
  generalize ticksN m t1 41 = w at hq hqt hwl
  rw [← whole_eq (f := Doing.cells) (us := l ++ [tickD 40]) rfl] at hp
  have hmt : (t.map mindsRow).length = t.length := by simp
  have hmw : (w.map mindsRow).length = t.length := by simp [hwl]
  have htl := mgt.l
  have hnb := mg.nb
  clear htt hww hon1 hgt1 hon hpl
  repeat' (first | (apply dt rfl; case h => exact S_litO (els := []) _ rfl rfl rfl rfl rfl) | (apply Wa; constructor) | refine Wb rfl ?_ | refine Wc rfl ?_ | refine Wd (by kernel_rfl) ?_ | refine We rfl ?_ | refine Wf rfl ?_ | refine Wg rfl (by omega) ?_ | refine Wh rfl (by omega) ?_ | refine Wi rfl rfl ?_ | ((first | apply dX rfl | apply Da rfl rfl | apply Db rfl rfl (by intro h; first | trivial | exact ⟨h, trivial⟩ | exact ⟨h, h, trivial⟩)); (focus ((try intro hg); first | exact S_call law7_alive rfl | exact S_call ht40 rfl | exact S_call ht1 rfl | exact S_appM (f := Doing.cells) (us := []) (bs := l) rfl rfl (.dat _ _) rfl rfl (.inr ⟨rfl, inferInstance⟩) rfl (by simp only [List.length_nil]; omega) | exact S_appM (f := Doing.cells) (us := l) (bs := [tickD 40]) rfl rfl (.dat _ _) rfl rfl (.inr ⟨rfl, inferInstance⟩) rfl (by simp only [List.length_singleton]; omega) | exact S_call hp rfl | exact S_call hq rfl | exact Ca rfl rfl (by constructor) (by omega) | exact Cb rfl rfl (by constructor) (by omega) | exact S_al rfl | exact S_bx rfl rfl | exact S_store rfl rfl rfl rfl rfl rfl | (apply Pu.ok; repeat' (first | rfl | exact .inK (by simp only [InK]; omega) | exact .wr | constructor | decide | omega)))); constructor) | refine Pa rfl rfl rfl rfl rfl ?_ | refine Po rfl rfl rfl rfl rfl ?_ | fail)
  refine DW_loop (fun k : Nat => ⟨[(8, .ptr 8 0), (11, .ptr 11 0), (63, .dat true (.int .i64 (t.map mindsRow).length)), (64, .dat true (.int .i64 k))], [(8, .cells false true [.dat true (.slice (t.map mindsRow))]), (11, .cells false true [.dat true (.slice (w.map mindsRow))])], 164⟩)
    (fun k => k ≤ t.length) (fun k => t.length - k) 0 (Nat.zero_le _) (Wk_g some rfl rfl (by (repeat' (first | exact trivial | rfl | exact listLe_map _ | exact ⟨_, rfl, .inl rfl⟩ | exact ⟨_, rfl, .inr (.inl rfl)⟩ | exact ⟨_, rfl, .inr (.inr rfl)⟩ | refine ⟨_, _, rfl, rfl, ?_⟩ | exact ⟨_, rfl, rfl⟩ | exact ⟨_, _, _, _, rfl, rfl, rfl⟩ | exact ⟨_, rfl⟩ | exact ⟨_, _, rfl⟩ | apply And.intro)))) (fun k hk => ?_)
  by_cases hlt : k < t.length
  · have hx : t[(k : Int).toNat]? = some t[k] := by simp [hlt]
    obtain ⟨u', hx2, hul, hul2, hqi⟩ := hqt k t[k] (by simp [hlt])
    have hx2' : w[(k : Int).toNat]? = some u' := by rw [Int.toNat_natCast]; exact hx2
    generalize t[k] = u at hx hul hul2 hqi
    have hmu : (u.map Mind.cells).length = u.length := by simp
    have hmu2 : (u'.map Mind.cells).length = u.length := by simp [hul2]
    repeat' (first | (apply Wa; constructor) | refine Wb rfl ?_ | refine Wc rfl ?_ | refine Wd (by kernel_rfl) ?_ | refine We rfl ?_ | refine Wf rfl ?_ | refine Wg rfl (by omega) ?_ | refine Wh rfl (by omega) ?_ | refine Wi rfl rfl ?_ | ((first | apply dX rfl | apply Da rfl rfl | apply Db rfl rfl (by intro h; first | trivial | exact ⟨h, trivial⟩ | exact ⟨h, h, trivial⟩)); (focus ((try intro hg); first | exact S_ixM rfl rfl (by omega) hx | exact Ca rfl rfl (by constructor) (by omega) | exact Cb rfl rfl (by constructor) (by omega) | exact S_al rfl | exact S_bx rfl rfl | exact S_store rfl rfl rfl rfl rfl rfl | (apply Pu.ok; repeat' (first | rfl | exact .inK (by simp only [InK]; omega) | exact .wr | constructor | decide | omega)))); constructor) | refine Pa rfl rfl rfl rfl rfl ?_ | refine Po rfl rfl rfl rfl rfl ?_ | fail)
    refine DW_loop (fun i : Nat => ⟨[(8, .ptr 8 0), (11, .ptr 11 0), (63, .dat true (.int .i64 (t.map mindsRow).length)), (64, .dat true (.int .i64 k)), (12, .dat true (.int .i64 k)), (71, .dat true (.slice (u.map Mind.cells))), (72, .dat true (.int .i64 (u.map Mind.cells).length)), (73, .dat true (.int .i64 i))], [(8, .cells false true [.dat true (.slice (t.map mindsRow))]), (11, .cells false true [.dat true (.slice (w.map mindsRow))])], 164⟩)
      (fun i => i ≤ u.length) (fun i => u.length - i) 0 (Nat.zero_le _) (Wk_g some rfl rfl (by (repeat' (first | exact trivial | rfl | exact listLe_map _ | exact ⟨_, rfl, .inl rfl⟩ | exact ⟨_, rfl, .inr (.inl rfl)⟩ | exact ⟨_, rfl, .inr (.inr rfl)⟩ | refine ⟨_, _, rfl, rfl, ?_⟩ | exact ⟨_, rfl, rfl⟩ | exact ⟨_, _, _, _, rfl, rfl, rfl⟩ | exact ⟨_, rfl⟩ | exact ⟨_, _, rfl⟩ | apply And.intro)))) (fun i hi => ?_)
    by_cases hli : i < u.length
    · have hy : u[(i : Int).toNat]? = some (mAt u i) := by rw [Int.toNat_natCast]; exact mAt_get hli
      obtain ⟨b1, b2, b3, b4, hcl, hrl, h80, hcb, hcs⟩ := hqi i hli
      have hy2 : u'[(i : Int).toNat]? = some (mAt u' i) := by rw [Int.toNat_natCast]; exact mAt_get (by omega)
      generalize mAt u i = a at hy b1 b2 b3 b4 hcl hrl h80 hcb hcs
      generalize mAt u' i = b at hy2 b1 b2 b3 b4 hcl hcs
      have hve : eqL a.vec.cells b.vec.cells = some true := by rw [b1]; exact eqL_vec a.vec
      have m1 : (b.calm.map intV1).length = a.calm.length := by simp [hcl]
      have m4 : (b.roles.map intV1).length = a.calm.length := by simp [hrl, b4]
      have m2 : (a.calm.map intV1).length = a.calm.length := by simp
      have m3 : (a.roles.map intV1).length = a.calm.length := by simp [hrl]
      repeat' (first | (apply Wa; constructor) | refine Wb rfl ?_ | refine Wc rfl ?_ | refine Wd (by kernel_rfl) ?_ | refine We rfl ?_ | refine Wf rfl ?_ | refine Wg rfl (by omega) ?_ | refine Wh rfl (by omega) ?_ | refine Wi rfl rfl ?_ | ((first | apply dX rfl | apply Da rfl rfl | apply Db rfl rfl (by intro h; first | trivial | exact ⟨h, trivial⟩ | exact ⟨h, h, trivial⟩)); (focus ((try intro hg); first | exact S_ixM rfl rfl (by omega) hx2' | exact S_ixM rfl rfl (by omega) hy | exact S_ixM rfl rfl (by omega) hy2 | exact as_bool (S_neqA rfl rfl rfl rfl hve) rfl | exact Ca rfl rfl (by constructor) (by omega) | exact Cb rfl rfl (by constructor) (by omega) | exact S_al rfl | exact S_bx rfl rfl | exact S_store rfl rfl rfl rfl rfl rfl | (apply Pu.ok; repeat' (first | rfl | exact .inK (by simp only [InK]; omega) | exact .wr | constructor | decide | omega)))); constructor) | refine Pa rfl rfl rfl rfl rfl ?_ | refine Po rfl rfl rfl rfl rfl ?_ | fail)
      refine DW_loop (fun j : Nat => ⟨[(8, .ptr 8 0), (11, .ptr 11 0), (63, .dat true (.int .i64 (t.map mindsRow).length)), (64, .dat true (.int .i64 k)), (12, .dat true (.int .i64 k)), (71, .dat true (.slice (u.map Mind.cells))), (72, .dat true (.int .i64 (u.map Mind.cells).length)), (73, .dat true (.int .i64 i)), (13, .dat true (.int .i64 i)), (14, .ptr 14 0), (15, .ptr 15 0), (116, .dat true (.int .i64 (a.calm.map intV1).length)), (117, .dat true (.int .i64 j))], [(8, .cells false true [.dat true (.slice (t.map mindsRow))]), (11, .cells false true [.dat true (.slice (w.map mindsRow))]), (14, .cells false true ((Mind.cells a).map (.dat true))), (15, .cells false true ((Mind.cells b).map (.dat true)))], 164⟩)
        (fun j => j ≤ a.calm.length) (fun j => a.calm.length - j) 0 (Nat.zero_le _) (Wk_g some rfl rfl (by (repeat' (first | exact trivial | rfl | exact listLe_map _ | exact ⟨_, rfl, .inl rfl⟩ | exact ⟨_, rfl, .inr (.inl rfl)⟩ | exact ⟨_, rfl, .inr (.inr rfl)⟩ | refine ⟨_, _, rfl, rfl, ?_⟩ | exact ⟨_, rfl, rfl⟩ | exact ⟨_, _, _, _, rfl, rfl, rfl⟩ | exact ⟨_, rfl⟩ | exact ⟨_, _, rfl⟩ | apply And.intro)))) (fun j hj => ?_)
      by_cases hlj : j < a.calm.length
      · have z1 : a.roles[(j : Int).toNat]? = some (rAt a j) := by unfold rAt; simp [show j < a.roles.length by omega]
        have z2 : a.calm[(j : Int).toNat]? = some (cAt a j) := by unfold cAt; simp [hlj]
        have hcj := hcs j (by omega)
        have z3 : b.calm[(j : Int).toNat]? = some (calmOf (rAt a j) (cAt a j)) := by rw [← hcj]; simp [show j < b.calm.length by omega]
        have z4 : b.roles[(j : Int).toNat]? = some (rAt a j) := by rw [b4]; exact z1
        have hb2 := hcb (cAt a j) (List.mem_of_getElem? z2)
        clear hcj
        generalize rAt a j = r at z1 z3 z4
        generalize cAt a j = c at z2 z3 hb2
        by_cases r1 : r = 1
        · have hv : calmOf r c = min (c + 1) 50 := by with_unfolding_all (unfold calmOf; rw [if_pos (.inl r1)]; split <;> omega)
          rw [hv] at z3
          repeat' (first | (apply Wa; constructor) | refine Wb rfl ?_ | refine Wc rfl ?_ | refine Wd (by kernel_rfl) ?_ | refine We rfl ?_ | refine Wf rfl ?_ | refine Wg rfl (by omega) ?_ | refine Wh rfl (by omega) ?_ | refine Wi rfl rfl ?_ | ((first | apply dX rfl | apply Da rfl rfl | apply Db rfl rfl (by intro h; first | trivial | exact ⟨h, trivial⟩ | exact ⟨h, h, trivial⟩)); (focus ((try intro hg); first | exact S_ixM rfl rfl (by omega) z1 | exact S_ixM rfl rfl (by omega) z2 | exact S_ixM rfl rfl (by omega) z3 | exact S_ixM rfl rfl (by omega) z4 | exact S_min rfl rfl | exact Ca rfl rfl (by constructor) (by omega) | exact Cb rfl rfl (by constructor) (by omega) | exact S_al rfl | exact S_bx rfl rfl | exact S_store rfl rfl rfl rfl rfl rfl | (apply Pu.ok; repeat' (first | rfl | exact .inK (by simp only [InK]; omega) | exact .wr | constructor | decide | omega)))); constructor) | refine Pa rfl rfl rfl rfl rfl ?_ | refine Po rfl rfl rfl rfl rfl ?_ | fail)
          exact loop_again (j + 1) hlj (by omega) (Wk_g some rfl rfl (by (repeat' (first | exact trivial | rfl | exact listLe_map _ | exact ⟨_, rfl, .inl rfl⟩ | exact ⟨_, rfl, .inr (.inl rfl)⟩ | exact ⟨_, rfl, .inr (.inr rfl)⟩ | refine ⟨_, _, rfl, rfl, ?_⟩ | exact ⟨_, rfl, rfl⟩ | exact ⟨_, _, _, _, rfl, rfl, rfl⟩ | exact ⟨_, rfl⟩ | exact ⟨_, _, rfl⟩ | apply And.intro))))
        by_cases r2 : r = 2
        · have hv : calmOf r c = min (c + 1) 50 := by with_unfolding_all (unfold calmOf; rw [if_pos (.inr r2)]; split <;> omega)
          rw [hv] at z3
          repeat' (first | (apply Wa; constructor) | refine Wb rfl ?_ | refine Wc rfl ?_ | refine Wd (by kernel_rfl) ?_ | refine We rfl ?_ | refine Wf rfl ?_ | refine Wg rfl (by omega) ?_ | refine Wh rfl (by omega) ?_ | refine Wi rfl rfl ?_ | ((first | apply dX rfl | apply Da rfl rfl | apply Db rfl rfl (by intro h; first | trivial | exact ⟨h, trivial⟩ | exact ⟨h, h, trivial⟩)); (focus ((try intro hg); first | exact S_ixM rfl rfl (by omega) z1 | exact S_ixM rfl rfl (by omega) z2 | exact S_ixM rfl rfl (by omega) z3 | exact S_ixM rfl rfl (by omega) z4 | exact S_min rfl rfl | exact Ca rfl rfl (by constructor) (by omega) | exact Cb rfl rfl (by constructor) (by omega) | exact S_al rfl | exact S_bx rfl rfl | exact S_store rfl rfl rfl rfl rfl rfl | (apply Pu.ok; repeat' (first | rfl | exact .inK (by simp only [InK]; omega) | exact .wr | constructor | decide | omega)))); constructor) | refine Pa rfl rfl rfl rfl rfl ?_ | refine Po rfl rfl rfl rfl rfl ?_ | fail)
          exact loop_again (j + 1) hlj (by omega) (Wk_g some rfl rfl (by (repeat' (first | exact trivial | rfl | exact listLe_map _ | exact ⟨_, rfl, .inl rfl⟩ | exact ⟨_, rfl, .inr (.inl rfl)⟩ | exact ⟨_, rfl, .inr (.inr rfl)⟩ | refine ⟨_, _, rfl, rfl, ?_⟩ | exact ⟨_, rfl, rfl⟩ | exact ⟨_, _, _, _, rfl, rfl, rfl⟩ | exact ⟨_, rfl⟩ | exact ⟨_, _, rfl⟩ | apply And.intro))))
        · have hv : calmOf r c = 0 := by with_unfolding_all (unfold calmOf; rw [if_neg (by omega)])
          rw [hv] at z3
          repeat' (first | (apply Wa; constructor) | refine Wb rfl ?_ | refine Wc rfl ?_ | refine Wd (by kernel_rfl) ?_ | refine We rfl ?_ | refine Wf rfl ?_ | refine Wg rfl (by omega) ?_ | refine Wh rfl (by omega) ?_ | refine Wi rfl rfl ?_ | ((first | apply dX rfl | apply Da rfl rfl | apply Db rfl rfl (by intro h; first | trivial | exact ⟨h, trivial⟩ | exact ⟨h, h, trivial⟩)); (focus ((try intro hg); first | exact S_ixM rfl rfl (by omega) z1 | exact S_ixM rfl rfl (by omega) z2 | exact S_ixM rfl rfl (by omega) z3 | exact S_ixM rfl rfl (by omega) z4 | exact S_min rfl rfl | exact Ca rfl rfl (by constructor) (by omega) | exact Cb rfl rfl (by constructor) (by omega) | exact S_al rfl | exact S_bx rfl rfl | exact S_store rfl rfl rfl rfl rfl rfl | (apply Pu.ok; repeat' (first | rfl | exact .inK (by simp only [InK]; omega) | exact .wr | constructor | decide | omega)))); constructor) | refine Pa rfl rfl rfl rfl rfl ?_ | refine Po rfl rfl rfl rfl rfl ?_ | fail)
          exact loop_again (j + 1) hlj (by omega) (Wk_g some rfl rfl (by (repeat' (first | exact trivial | rfl | exact listLe_map _ | exact ⟨_, rfl, .inl rfl⟩ | exact ⟨_, rfl, .inr (.inl rfl)⟩ | exact ⟨_, rfl, .inr (.inr rfl)⟩ | refine ⟨_, _, rfl, rfl, ?_⟩ | exact ⟨_, rfl, rfl⟩ | exact ⟨_, _, _, _, rfl, rfl, rfl⟩ | exact ⟨_, rfl⟩ | exact ⟨_, _, rfl⟩ | apply And.intro))))
      · repeat' (first | (apply Wa; constructor) | refine Wb rfl ?_ | refine Wc rfl ?_ | refine Wd (by kernel_rfl) ?_ | refine We rfl ?_ | refine Wf rfl ?_ | refine Wg rfl (by omega) ?_ | refine Wh rfl (by omega) ?_ | refine Wi rfl rfl ?_ | ((first | apply dX rfl | apply Da rfl rfl | apply Db rfl rfl (by intro h; first | trivial | exact ⟨h, trivial⟩ | exact ⟨h, h, trivial⟩)); (focus ((try intro hg); first | exact Ca rfl rfl (by constructor) (by omega) | exact Cb rfl rfl (by constructor) (by omega) | exact S_al rfl | exact S_bx rfl rfl | exact S_store rfl rfl rfl rfl rfl rfl | (apply Pu.ok; repeat' (first | rfl | exact .inK (by simp only [InK]; omega) | exact .wr | constructor | decide | omega)))); constructor) | refine Pa rfl rfl rfl rfl rfl ?_ | refine Po rfl rfl rfl rfl rfl ?_ | fail)
        exact loop_again (i + 1) hli (by omega) (Wk_g some rfl rfl (by (repeat' (first | exact trivial | rfl | exact listLe_map _ | exact ⟨_, rfl, .inl rfl⟩ | exact ⟨_, rfl, .inr (.inl rfl)⟩ | exact ⟨_, rfl, .inr (.inr rfl)⟩ | refine ⟨_, _, rfl, rfl, ?_⟩ | exact ⟨_, rfl, rfl⟩ | exact ⟨_, _, _, _, rfl, rfl, rfl⟩ | exact ⟨_, rfl⟩ | exact ⟨_, _, rfl⟩ | apply And.intro))))
    · repeat' (first | (apply Wa; constructor) | refine Wb rfl ?_ | refine Wc rfl ?_ | refine Wd (by kernel_rfl) ?_ | refine We rfl ?_ | refine Wf rfl ?_ | refine Wg rfl (by omega) ?_ | refine Wh rfl (by omega) ?_ | refine Wi rfl rfl ?_ | ((first | apply dX rfl | apply Da rfl rfl | apply Db rfl rfl (by intro h; first | trivial | exact ⟨h, trivial⟩ | exact ⟨h, h, trivial⟩)); (focus ((try intro hg); first | exact Ca rfl rfl (by constructor) (by omega) | exact Cb rfl rfl (by constructor) (by omega) | exact S_al rfl | exact S_bx rfl rfl | exact S_store rfl rfl rfl rfl rfl rfl | (apply Pu.ok; repeat' (first | rfl | exact .inK (by simp only [InK]; omega) | exact .wr | constructor | decide | omega)))); constructor) | refine Pa rfl rfl rfl rfl rfl ?_ | refine Po rfl rfl rfl rfl rfl ?_ | fail)
      exact loop_again (k + 1) hlt (by omega) (Wk_g some rfl rfl (by (repeat' (first | exact trivial | rfl | exact listLe_map _ | exact ⟨_, rfl, .inl rfl⟩ | exact ⟨_, rfl, .inr (.inl rfl)⟩ | exact ⟨_, rfl, .inr (.inr rfl)⟩ | refine ⟨_, _, rfl, rfl, ?_⟩ | exact ⟨_, rfl, rfl⟩ | exact ⟨_, _, _, _, rfl, rfl, rfl⟩ | exact ⟨_, rfl⟩ | exact ⟨_, _, rfl⟩ | apply And.intro))))
  · repeat' (first | (apply Wa; constructor) | refine Wb rfl ?_ | refine Wc rfl ?_ | refine Wd (by kernel_rfl) ?_ | refine We rfl ?_ | refine Wf rfl ?_ | refine Wg rfl (by omega) ?_ | refine Wh rfl (by omega) ?_ | refine Wi rfl rfl ?_ | ((first | apply dX rfl | apply Da rfl rfl | apply Db rfl rfl (by intro h; first | trivial | exact ⟨h, trivial⟩ | exact ⟨h, h, trivial⟩)); (focus ((try intro hg); first | exact Ca rfl rfl (by constructor) (by omega) | exact Cb rfl rfl (by constructor) (by omega) | exact S_al rfl | exact S_bx rfl rfl | exact S_store rfl rfl rfl rfl rfl rfl | (apply Pu.ok; repeat' (first | rfl | exact .inK (by simp only [InK]; omega) | exact .wr | constructor | decide | omega)))); constructor) | refine Pa rfl rfl rfl rfl rfl ?_ | refine Po rfl rfl rfl rfl rfl ?_ | fail)
    refine ret1 rfl (by first | exact .inl rfl | exact .inr (flat_of rfl)) ?_
    rfl
end Go.Proofs.Ytpgcemabkjmliaa
