/- Contracts: talk.offers, mind, tick. -/
import Derived.Test.YtfmaehhloffabaaycChM
import Derived.Test.YtfmaehhloffabaaycTlk
import Derived.Test.YtfmaehhloffabaaydPlP
namespace Go.Proofs.Ytfmaehhloffabaa
open Go.RowKit
attribute [local irreducible] SStep DW DWin DOps thenQ inBlk loopQ retQ retQG FnF FnG FnI Wk IntKind.wrap IntKind.andI IntKind.orI IntKind.xorI IntKind.andNotI IntKind.shlI IntKind.shrI
set_option maxHeartbeats 1000000 in
theorem talk_offers (ends : List End) (l : List Mind) (hl : ends.length ≤ 1000) (ho : ∀ e ∈ ends, 0 ≤ e.other ∧ e.other < l.length) : FnF Try.prog 62 [.slice (ends.map endV), .slice (l.map Mind.cells)] (offers (hears ends l)) := by
  refine fnF_of Try.func62 rfl rfl rfl ?_
  simp only [envOf, offers]
  have hml : (ends.map endV).length = ends.length := by simp
  have hms : (l.map Mind.cells).length = l.length := by simp
  repeat' (first | (apply Wa; constructor) | refine Wb rfl ?_ | refine Wc rfl ?_ | refine Wd (by kernel_rfl) ?_ | refine We rfl ?_ | refine Wf rfl ?_ | refine Wi rfl rfl ?_ | ((first | apply dX rfl | apply Da rfl rfl | apply Db rfl rfl (by intro h; first | trivial | exact ⟨h, trivial⟩ | exact ⟨h, h, trivial⟩)); (focus ((try intro hg); first | exact S_al rfl | exact S_bx rfl rfl | exact S_store rfl rfl rfl rfl rfl rfl | (apply Pu.ok; repeat' (first | rfl | exact .inK (by simp only [InK]; omega) | exact .wr | constructor | decide | omega)))); constructor) | refine Pa rfl rfl rfl rfl rfl ?_ | refine Po rfl rfl rfl rfl rfl ?_ | fail)
  refine DW_loop (fun p : Nat × List Offer => ⟨[(1, .dat false (.slice (l.map Mind.cells))), (5, .own 5 0 0 p.2.length), (9, .dat false (.slice (ends.map endV))), (10, .dat true (.int .i64 (ends.map endV).length)), (11, .dat true (.int .i64 p.1))], [(5, .row 0 false true 7 (p.2.map Offer.cells))], 41⟩)
    (fun p => p.1 ≤ ends.length ∧ p.2 = hears (ends.take p.1) l) (fun p => ends.length - p.1) (0, []) ⟨Nat.zero_le _, rfl⟩
    (Wk_g (fun g => if g = 5 then none else some g) rfl rfl (by (repeat' (first | exact trivial | rfl | exact listLe_map _ | exact ⟨_, rfl, .inl rfl⟩ | exact ⟨_, rfl, .inr (.inl rfl)⟩ | exact ⟨_, rfl, .inr (.inr rfl)⟩ | refine ⟨_, _, rfl, rfl, ?_⟩ | exact ⟨_, rfl, rfl⟩ | exact ⟨_, _, _, _, rfl, rfl, rfl⟩ | exact ⟨_, rfl⟩ | exact ⟨_, _, rfl⟩ | apply And.intro)))) (fun p hR => ?_)
  obtain ⟨k, us⟩ := p
  obtain ⟨hk, hus⟩ := hR
  simp only at hk hus
  dsimp only
  have hul : us.length = k := by rw [hus]; simp [hears]; omega
  by_cases hlt : k < ends.length
  · have hx : ends[(k : Int).toNat]? = some ends[k] := by simp [hlt]
    have hr := ho ends[k] (List.getElem_mem hlt)
    have hnext : us ++ [hearOf l ends[k]] = hears (ends.take (k + 1)) l := by
      rw [hus, List.take_add_one, List.getElem?_eq_getElem hlt]; unfold hears; rw [List.map_append]; rfl
    generalize ends[k] = e at hx hr hnext
    have hy : l[e.other.toNat]? = some (l[e.other.toNat]'(by omega)) := List.getElem?_eq_getElem (by omega)
    have hoe : hearOf l e = ⟨e.port, e.cost, (l[e.other.toNat]'(by omega)).age, { (l[e.other.toNat]'(by omega)).vec with port := e.oport }⟩ := by unfold hearOf; rw [hy]; rfl
    generalize l[e.other.toNat]'(by omega) = m at hy hoe
    repeat' (first | (apply Wa; constructor) | refine Wb rfl ?_ | refine Wc rfl ?_ | refine Wd (by kernel_rfl) ?_ | refine We rfl ?_ | refine Wf rfl ?_ | refine Wg rfl (by omega) ?_ | refine Wh rfl (by omega) ?_ | refine Wi rfl rfl ?_ | ((first | apply dX rfl | apply Da rfl rfl | apply Db rfl rfl (by intro h; first | trivial | exact ⟨h, trivial⟩ | exact ⟨h, h, trivial⟩)); (focus ((try intro hg); first | exact S_ixM rfl rfl (by omega) hx | exact S_ixM rfl rfl hr.1 hy | exact S_appM (f := Offer.cells) (us := us) (bs := [hearOf l e]) rfl rfl (.dat _ _) (by rw [hoe]; rfl) rfl (.inr ⟨rfl, inferInstance⟩) rfl (by simp only [List.length_singleton]; omega) | exact Ca rfl rfl (by constructor) (by omega) | exact Cb rfl rfl (by constructor) (by omega) | exact S_al rfl | exact S_bx rfl rfl | exact S_store rfl rfl rfl rfl rfl rfl | (apply Pu.ok; repeat' (first | rfl | exact .inK (by simp only [InK]; omega) | exact .wr | constructor | decide | omega)))); constructor) | refine Pa rfl rfl rfl rfl rfl ?_ | refine Po rfl rfl rfl rfl rfl ?_ | fail)
    exact loop_again (k + 1, us ++ [hearOf l e]) ⟨hlt, hnext⟩ (by simp only; omega) (Wk_g some rfl rfl (by (repeat' (first | exact trivial | rfl | exact listLe_map _ | exact ⟨_, rfl, .inl rfl⟩ | exact ⟨_, rfl, .inr (.inl rfl)⟩ | exact ⟨_, rfl, .inr (.inr rfl)⟩ | refine ⟨_, _, rfl, rfl, ?_⟩ | exact ⟨_, rfl, rfl⟩ | exact ⟨_, _, _, _, rfl, rfl, rfl⟩ | exact ⟨_, rfl⟩ | exact ⟨_, _, rfl⟩ | apply And.intro))))
  · have he : us = hears ends l := by rw [hus, List.take_of_length_le (by omega)]
    refine DW_seal 5 rfl rfl (by simp) ?_
    repeat' (first | (apply Wa; constructor) | refine Wb rfl ?_ | refine Wc rfl ?_ | refine Wd (by kernel_rfl) ?_ | refine We rfl ?_ | refine Wf rfl ?_ | refine Wg rfl (by omega) ?_ | refine Wh rfl (by omega) ?_ | refine Wi rfl rfl ?_ | ((first | apply dX rfl | apply Da rfl rfl | apply Db rfl rfl (by intro h; first | trivial | exact ⟨h, trivial⟩ | exact ⟨h, h, trivial⟩)); (focus ((try intro hg); first | exact Ca rfl rfl (by constructor) (by omega) | exact Cb rfl rfl (by constructor) (by omega) | exact S_al rfl | exact S_bx rfl rfl | exact S_store rfl rfl rfl rfl rfl rfl | (apply Pu.ok; repeat' (first | rfl | exact .inK (by simp only [InK]; omega) | exact .wr | constructor | decide | omega)))); constructor) | refine Pa rfl rfl rfl rfl rfl ?_ | refine Po rfl rfl rfl rfl rfl ?_ | fail)
    refine ret1 rfl (by first | exact .inl rfl | exact .inr (flat_of rfl)) ?_
    rw [← he]
theorem calm_take {rs calm : List Int} {k : Nat} {r c : Int} (hr : rs[k]? = some r) (hc : calm[k]? = some c) : (calmsOf rs calm).take (k + 1) = (calmsOf rs calm).take k ++ [calmOf r c] := by
  have hk := (List.getElem?_eq_some_iff.1 hr).1
  have : (calmsOf rs calm)[k]? = some (calmOf r c) := by
    unfold calmsOf
    rw [List.getElem?_map, List.getElem?_range hk, Option.map_some, hr, hc]; rfl
  rw [List.take_add_one, this]; rfl
set_option maxHeartbeats 4000000 in
theorem talk_mind (n : Net) (h : n.good) (tree : Int) (i : Nat) (hi : i < n.bridges.length) (l : List Mind) (m : Mind) (hm : l[i]? = some m) (hll : l.length = n.bridges.length) (hcl : m.calm.length = (portsOf n.links i).length) (hcr : ∀ c ∈ m.calm, 0 ≤ c ∧ c ≤ 50) :
    FnF Try.prog 50 [.rp n.cells, .int .i64 tree, .int .i64 i, .slice ((endsOf n i).map endV), .slice (l.map Mind.cells)] (.agg (mindOf n tree i (endsOf n i) l).cells) := by
  refine fnF_of Try.func50 rfl rfl rfl ?_
  simp only [envOf]
  have hmb : (n.bridges.map bridgeV).length = n.bridges.length := by simp
  have hnb := h.nb
  have hnl := h.nl
  have hel := endsOf_len n i
  have hx : n.bridges[(i : Int).toNat]? = some n.bridges[i] := by simp [hi]
  have hx' : n.bridges[i]? = some n.bridges[i] := by simp [hi]
  have hbo := h.br n.bridges[i] (List.getElem_mem hi)
  have hidn := idN_of (tree := tree) hx'
  have hid := plan_Ident n.bridges[i] hbo tree
  rw [← hidn] at hid
  have hof := talk_offers (endsOf n i) l (by omega) (fun e he => by
    have h3 := (rawE_ok h (mem_endsOf.1 he)).2.2.1
    have := (rawE_ok h (mem_endsOf.1 he))
    omega)
  generalize n.bridges[i] = b at hx hid
  have hy : l[(i : Int).toNat]? = some m := by rw [Int.toNat_natCast]; exact hm
  have hlm : (l.map Mind.cells).length = l.length := by simp
  have hil : i < l.length := by omega
  have hmo : mindOf n tree i (endsOf n i) l = ⟨(chooseS (idN n tree i) (hears (endsOf n i) l)).says (idN n tree i), (chooseS (idN n tree i) (hears (endsOf n i) l)).age, (chooseS (idN n tree i) (hears (endsOf n i) l)).port, portsOf n.links i,
      rolesP (endsOf n i) ((chooseS (idN n tree i) (hears (endsOf n i) l)).says (idN n tree i)) (chooseS (idN n tree i) (hears (endsOf n i) l)).port (hears (endsOf n i) l) (portsOf n.links i),
      calmsOf (rolesP (endsOf n i) ((chooseS (idN n tree i) (hears (endsOf n i) l)).says (idN n tree i)) (chooseS (idN n tree i) (hears (endsOf n i) l)).port (hears (endsOf n i) l) (portsOf n.links i)) m.calm⟩ := by
    unfold mindOf
    rw [hm]
    rfl
  rw [hmo]
  generalize hears (endsOf n i) l = os at hof
  generalize idN n tree i = me at hid
  have hch := vec_Choose me os
  generalize hc0 : chooseS me os = c at hch
  generalize c.says me = v at hch
  obtain ⟨cb, cage, cport⟩ := c
  simp only at hch ⊢
  have hro := plan_Roles n hnl i (endsOf n i) v cport os
  have hrl := rolesP_len (endsOf n i) v cport os (portsOf n.links i)
  have hpl : (portsOf n.links i).length ≤ 80 := by
    have := rawP_len n.links i
    rw [portsOf_eq]; unfold sortI; rw [List.length_mergeSort]; omega
  generalize rolesP (endsOf n i) v cport os (portsOf n.links i) = rs at hro hrl
  generalize portsOf n.links i = ps at hro hrl hcl hpl
  have hmr : (rs.map intV1).length = rs.length := by simp
  have hmc : (m.calm.map intV1).length = m.calm.length := by simp
  repeat' (first | (apply Wa; constructor) | refine Wb rfl ?_ | refine Wc rfl ?_ | refine Wd (by kernel_rfl) ?_ | refine We rfl ?_ | refine Wf rfl ?_ | refine Wg rfl (by omega) ?_ | refine Wh rfl (by omega) ?_ | refine Wi rfl rfl ?_ | ((first | apply dX rfl | apply Da rfl rfl | apply Db rfl rfl (by intro h; first | trivial | exact ⟨h, trivial⟩ | exact ⟨h, h, trivial⟩)); (focus ((try intro hg); first | exact S_call hof rfl | exact S_ixM rfl rfl (by omega) hx | exact S_call hid rfl | exact S_call hch rfl | exact S_call hro rfl | exact Ca rfl rfl (by constructor) (by omega) | exact Cb rfl rfl (by constructor) (by omega) | exact S_al rfl | exact S_bx rfl rfl | exact S_store rfl rfl rfl rfl rfl rfl | (apply Pu.ok; repeat' (first | rfl | exact .inK (by simp only [InK]; omega) | exact .wr | constructor | decide | omega)))); constructor) | refine Pa rfl rfl rfl rfl rfl ?_ | refine Po rfl rfl rfl rfl rfl ?_ | fail)
  refine DW_loop (fun q : Nat × List Int => ⟨[(2, .dat false (.int .i64 i)), (4, .dat false (.slice (l.map Mind.cells))), (10, .ptr 10 0), (12, .ptr 12 0), (52, .dat true (.slice (rs.map intV1))), (53, .dat true (.int .i64 (rs.map intV1).length)), (54, .dat true (.int .i64 q.1))],
      [(10, .cells false true (Mind.zero.cells.map V.zD)), (12, .cells false true (v.cells.map (.dat true) ++ [.dat true (.int .i64 cage), .dat true (.int .i64 cport), .dat true (.slice (ps.map intV1)), .dat true (.slice (rs.map intV1)), .own 79 q.2.length 0 q.2.length])), (79, .row q.2.length false true 1 (q.2.map intV1))], 83⟩)
    (fun q => q.1 ≤ rs.length ∧ q.2 = (calmsOf rs m.calm).take q.1) (fun q => rs.length - q.1) (0, []) ⟨Nat.zero_le _, rfl⟩
    (Wk_g (fun g => if g = 79 then none else some g) rfl rfl (by (repeat' (first | exact trivial | rfl | exact listLe_map _ | exact ⟨_, rfl, .inl rfl⟩ | exact ⟨_, rfl, .inr (.inl rfl)⟩ | exact ⟨_, rfl, .inr (.inr rfl)⟩ | refine ⟨_, _, rfl, rfl, ?_⟩ | exact ⟨_, rfl, rfl⟩ | exact ⟨_, _, _, _, rfl, rfl, rfl⟩ | exact ⟨_, rfl⟩ | exact ⟨_, _, rfl⟩ | apply And.intro)))) (fun q hR => ?_)
  obtain ⟨k, us⟩ := q
  obtain ⟨hk, hus⟩ := hR
  simp only at hk hus
  dsimp only
  have hul : us.length = k := by rw [hus, List.length_take, calmsOf_len]; omega
  by_cases hlt : k < rs.length
  · have hxr : rs[(k : Int).toNat]? = some rs[k] := by simp [hlt]
    have hxr' : rs[k]? = some rs[k] := by simp [hlt]
    have hxc : m.calm[(k : Int).toNat]? = some (m.calm[k]'(by omega)) := by simp [show k < m.calm.length by omega]
    have hxc' : m.calm[k]? = some (m.calm[k]'(by omega)) := by simp [show k < m.calm.length by omega]
    have hcb := hcr (m.calm[k]'(by omega)) (List.getElem_mem _)
    have hst := calm_take hxr' hxc'
    generalize rs[k] = r at hxr hst
    generalize m.calm[k]'(by omega) = cc at hxc hcb hst
    by_cases hr : r = 1 ∨ r = 2
    · have hcm : calmOf r cc = min cc 49 + 1 := by unfold calmOf; rw [if_pos hr]; split <;> omega
      rw [hcm] at hst
      rcases hr with hr | hr
      · repeat' (first | (apply Wa; constructor) | refine Wb rfl ?_ | refine Wc rfl ?_ | refine Wd (by kernel_rfl) ?_ | refine We rfl ?_ | refine Wf rfl ?_ | refine Wg rfl (by omega) ?_ | refine Wh rfl (by omega) ?_ | refine Wi rfl rfl ?_ | ((first | apply dX rfl | apply Da rfl rfl | apply Db rfl rfl (by intro h; first | trivial | exact ⟨h, trivial⟩ | exact ⟨h, h, trivial⟩)); (focus ((try intro hg); first | exact S_ixM rfl rfl (by omega) hxr | exact S_ixM rfl rfl (by omega) hy | exact S_ixM rfl rfl (by omega) hxc | exact S_min rfl rfl | exact S_appM (f := intV1) (us := us) (bs := [min cc 49 + 1]) rfl rfl (.dat _ _) rfl rfl (.inr ⟨rfl, inferInstance⟩) rfl (by simp only [List.length_singleton]; omega) | exact Ca rfl rfl (by constructor) (by omega) | exact Cb rfl rfl (by constructor) (by omega) | exact S_al rfl | exact S_bx rfl rfl | exact S_store rfl rfl rfl rfl rfl rfl | (apply Pu.ok; repeat' (first | rfl | exact .inK (by simp only [InK]; omega) | exact .wr | constructor | decide | omega)))); constructor) | refine Pa rfl rfl rfl rfl rfl ?_ | refine Po rfl rfl rfl rfl rfl ?_ | fail)
        exact loop_again (k + 1, us ++ [min cc 49 + 1]) ⟨hlt, by rw [hus, ← hst]⟩ (by simp only; omega) (Wk_g some rfl rfl (by (repeat' (first | exact ownLe2 rfl rfl rfl | exact trivial | rfl | exact listLe_map _ | exact ⟨_, rfl, .inl rfl⟩ | exact ⟨_, rfl, .inr (.inl rfl)⟩ | exact ⟨_, rfl, .inr (.inr rfl)⟩ | refine ⟨_, _, rfl, rfl, ?_⟩ | exact ⟨_, rfl, rfl⟩ | exact ⟨_, _, _, _, rfl, rfl, rfl⟩ | exact ⟨_, rfl⟩ | exact ⟨_, _, rfl⟩ | apply And.intro))))
      · repeat' (first | (apply Wa; constructor) | refine Wb rfl ?_ | refine Wc rfl ?_ | refine Wd (by kernel_rfl) ?_ | refine We rfl ?_ | refine Wf rfl ?_ | refine Wg rfl (by omega) ?_ | refine Wh rfl (by omega) ?_ | refine Wi rfl rfl ?_ | ((first | apply dX rfl | apply Da rfl rfl | apply Db rfl rfl (by intro h; first | trivial | exact ⟨h, trivial⟩ | exact ⟨h, h, trivial⟩)); (focus ((try intro hg); first | exact S_ixM rfl rfl (by omega) hxr | exact S_ixM rfl rfl (by omega) hy | exact S_ixM rfl rfl (by omega) hxc | exact S_min rfl rfl | exact S_appM (f := intV1) (us := us) (bs := [min cc 49 + 1]) rfl rfl (.dat _ _) rfl rfl (.inr ⟨rfl, inferInstance⟩) rfl (by simp only [List.length_singleton]; omega) | exact Ca rfl rfl (by constructor) (by omega) | exact Cb rfl rfl (by constructor) (by omega) | exact S_al rfl | exact S_bx rfl rfl | exact S_store rfl rfl rfl rfl rfl rfl | (apply Pu.ok; repeat' (first | rfl | exact .inK (by simp only [InK]; omega) | exact .wr | constructor | decide | omega)))); constructor) | refine Pa rfl rfl rfl rfl rfl ?_ | refine Po rfl rfl rfl rfl rfl ?_ | fail)
        exact loop_again (k + 1, us ++ [min cc 49 + 1]) ⟨hlt, by rw [hus, ← hst]⟩ (by simp only; omega) (Wk_g some rfl rfl (by (repeat' (first | exact ownLe2 rfl rfl rfl | exact trivial | rfl | exact listLe_map _ | exact ⟨_, rfl, .inl rfl⟩ | exact ⟨_, rfl, .inr (.inl rfl)⟩ | exact ⟨_, rfl, .inr (.inr rfl)⟩ | refine ⟨_, _, rfl, rfl, ?_⟩ | exact ⟨_, rfl, rfl⟩ | exact ⟨_, _, _, _, rfl, rfl, rfl⟩ | exact ⟨_, rfl⟩ | exact ⟨_, _, rfl⟩ | apply And.intro))))
    · have hcm : calmOf r cc = 0 := by unfold calmOf; rw [if_neg hr]
      rw [hcm] at hst
      repeat' (first | (apply Wa; constructor) | refine Wb rfl ?_ | refine Wc rfl ?_ | refine Wd (by kernel_rfl) ?_ | refine We rfl ?_ | refine Wf rfl ?_ | refine Wg rfl (by omega) ?_ | refine Wh rfl (by omega) ?_ | refine Wi rfl rfl ?_ | ((first | apply dX rfl | apply Da rfl rfl | apply Db rfl rfl (by intro h; first | trivial | exact ⟨h, trivial⟩ | exact ⟨h, h, trivial⟩)); (focus ((try intro hg); first | exact S_ixM rfl rfl (by omega) hxr | exact S_appM (f := intV1) (us := us) (bs := [0]) rfl rfl (.dat _ _) rfl rfl (.inr ⟨rfl, inferInstance⟩) rfl (by simp only [List.length_singleton]; omega) | exact Ca rfl rfl (by constructor) (by omega) | exact Cb rfl rfl (by constructor) (by omega) | exact S_al rfl | exact S_bx rfl rfl | exact S_store rfl rfl rfl rfl rfl rfl | (apply Pu.ok; repeat' (first | rfl | exact .inK (by simp only [InK]; omega) | exact .wr | constructor | decide | omega)))); constructor) | refine Pa rfl rfl rfl rfl rfl ?_ | refine Po rfl rfl rfl rfl rfl ?_ | fail)
      exact loop_again (k + 1, us ++ [0]) ⟨hlt, by rw [hus, ← hst]⟩ (by simp only; omega) (Wk_g some rfl rfl (by (repeat' (first | exact ownLe2 rfl rfl rfl | exact trivial | rfl | exact listLe_map _ | exact ⟨_, rfl, .inl rfl⟩ | exact ⟨_, rfl, .inr (.inl rfl)⟩ | exact ⟨_, rfl, .inr (.inr rfl)⟩ | refine ⟨_, _, rfl, rfl, ?_⟩ | exact ⟨_, rfl, rfl⟩ | exact ⟨_, _, _, _, rfl, rfl, rfl⟩ | exact ⟨_, rfl⟩ | exact ⟨_, _, rfl⟩ | apply And.intro))))
  · have he : us = calmsOf rs m.calm := by rw [hus, List.take_of_length_le (by rw [calmsOf_len]; omega)]
    refine DW_weak (s' := ⟨[(10, .ptr 10 0), (12, .ptr 12 0), (53, .dat true (.int .i64 (rs.map intV1).length)), (54, .dat true (.int .i64 k))],
      [(10, .cells false true (Mind.zero.cells.map V.zD)), (12, .cells false true (v.cells.map (.dat true) ++ [.dat true (.int .i64 cage), .dat true (.int .i64 cport), .dat true (.slice (ps.map intV1)), .dat true (.slice (rs.map intV1)), .own 79 0 0 us.length])), (79, .row 0 false true 1 (us.map intV1))], 83⟩) (Wk_g some rfl rfl (by (repeat' (first | exact ownLe2 rfl rfl rfl | exact trivial | rfl | exact listLe_map _ | exact ⟨_, rfl, .inl rfl⟩ | exact ⟨_, rfl, .inr (.inl rfl)⟩ | exact ⟨_, rfl, .inr (.inr rfl)⟩ | refine ⟨_, _, rfl, rfl, ?_⟩ | exact ⟨_, rfl, rfl⟩ | exact ⟨_, _, _, _, rfl, rfl, rfl⟩ | exact ⟨_, rfl⟩ | exact ⟨_, _, rfl⟩ | apply And.intro)))) ?_
    refine DW_freeze 79 (fun _ _ _ h => by cases h) ?_
    repeat' (first | (apply Wa; constructor) | refine Wb rfl ?_ | refine Wc rfl ?_ | refine Wd (by kernel_rfl) ?_ | refine We rfl ?_ | refine Wf rfl ?_ | refine Wg rfl (by omega) ?_ | refine Wh rfl (by omega) ?_ | refine Wi rfl rfl ?_ | ((first | apply dX rfl | apply Da rfl rfl | apply Db rfl rfl (by intro h; first | trivial | exact ⟨h, trivial⟩ | exact ⟨h, h, trivial⟩)); (focus ((try intro hg); first | exact Ca rfl rfl (by constructor) (by omega) | exact Cb rfl rfl (by constructor) (by omega) | exact S_al rfl | exact S_bx rfl rfl | exact S_store rfl rfl rfl rfl rfl rfl | (apply Pu.ok; repeat' (first | rfl | exact .inK (by simp only [InK]; omega) | exact .wr | constructor | decide | omega)))); constructor) | refine Pa rfl rfl rfl rfl rfl ?_ | refine Po rfl rfl rfl rfl rfl ?_ | fail)
    refine retN (.cellA inferInstance rfl rfl rfl rfl (by first | exact .inl rfl | exact .inr (flat_of rfl)) .nil) ?_
    rw [he]
    show V.agg [_, _, _, _, _, _, _, _, V.slice (List.take _ (List.drop 0 _))] = _
    rw [List.drop_zero, List.take_of_length_le (by simp)]
    rfl
set_option maxHeartbeats 4000000 in
theorem talk_tick (n : Net) (h : n.good) (t : List (List Mind)) (ht : goodT n t) :
    FnF Try.prog 28 [.rp n.cells, .slice (((List.range n.bridges.length).map (endsOf n)).map endsRow), talkV t] (talkV (tickN n t)) := by
  refine fnF_of Try.func28 rfl rfl rfl ?_
  simp only [envOf, talkV]
  have hmt : (t.map mindsRow).length = t.length := by simp
  have hnb := h.nb
  have htl := ht.l
  repeat' (first | (apply Wa; constructor) | refine Wb rfl ?_ | refine Wc rfl ?_ | refine Wd (by kernel_rfl) ?_ | refine We rfl ?_ | refine Wf rfl ?_ | refine Wg rfl (by omega) ?_ | refine Wh rfl (by omega) ?_ | refine Wi rfl rfl ?_ | ((first | apply dX rfl | apply Da rfl rfl | apply Db rfl rfl (by intro h; first | trivial | exact ⟨h, trivial⟩ | exact ⟨h, h, trivial⟩)); (focus ((try intro hg); first | exact Ca rfl rfl (by constructor) (by omega) | exact Cb rfl rfl (by constructor) (by omega) | exact S_al rfl | exact S_bx rfl rfl | exact S_store rfl rfl rfl rfl rfl rfl | (apply Pu.ok; repeat' (first | rfl | exact .inK (by simp only [InK]; omega) | exact .wr | constructor | decide | omega)))); constructor) | refine Pa rfl rfl rfl rfl rfl ?_ | refine Po rfl rfl rfl rfl rfl ?_ | fail)
  refine DW_loop (fun q : Nat × List (List Mind) => ⟨[(0, .dat false (.rp n.cells)), (1, .dat false (.slice (((List.range n.bridges.length).map (endsOf n)).map endsRow))), (6, .ptr 6 0), (7, .ptr 7 0), (13, .dat false (.slice (t.map mindsRow))), (14, .dat true (.int .i64 (t.map mindsRow).length)), (15, .dat true (.int .i64 q.1))],
      [(6, .cells false true [.nil]), (7, .cells false true [.own 42 q.2.length 0 q.2.length]), (42, .row q.2.length false true 1 (q.2.map mindsRow))], 46⟩)
    (fun q => q.1 ≤ t.length ∧ q.2 = (tickN n t).take q.1) (fun q => t.length - q.1) (0, []) ⟨Nat.zero_le _, rfl⟩
    (Wk_g (fun g => if g = 42 then none else some g) rfl rfl (by (repeat' (first | exact trivial | rfl | exact listLe_map _ | exact ⟨_, rfl, .inl rfl⟩ | exact ⟨_, rfl, .inr (.inl rfl)⟩ | exact ⟨_, rfl, .inr (.inr rfl)⟩ | refine ⟨_, _, rfl, rfl, ?_⟩ | exact ⟨_, rfl, rfl⟩ | exact ⟨_, _, _, _, rfl, rfl, rfl⟩ | exact ⟨_, rfl⟩ | exact ⟨_, _, rfl⟩ | apply And.intro)))) (fun q hR => ?_)
  obtain ⟨k, us⟩ := q
  obtain ⟨hk, hus⟩ := hR
  simp only at hk hus
  dsimp only
  have htk : (tickN n t).length = t.length := by simp [tickN]
  have hul : us.length = k := by rw [hus, List.length_take]; omega
  by_cases hlt : k < t.length
  · have hx : t[(k : Int).toNat]? = some t[k] := by simp [hlt]
    have hx' : t[k]? = some t[k] := by simp [hlt]
    obtain ⟨hl, hm⟩ := ht.m t[k] (List.getElem_mem hlt)
    have hst : (tickN n t).take (k + 1) = us ++ [tickT n k t[k]] := by
      have : (tickN n t)[k]? = some (tickT n k t[k]) := by
        unfold tickN
        rw [List.getElem?_map, List.getElem?_range hlt, Option.map_some, hx']; rfl
      rw [List.take_add_one, this, hus]; rfl
    generalize t[k] = l at hx hl hm hst
    have hml : (l.map Mind.cells).length = l.length := by simp
    repeat' (first | (apply Wa; constructor) | refine Wb rfl ?_ | refine Wc rfl ?_ | refine Wd (by kernel_rfl) ?_ | refine We rfl ?_ | refine Wf rfl ?_ | refine Wg rfl (by omega) ?_ | refine Wh rfl (by omega) ?_ | refine Wi rfl rfl ?_ | ((first | apply dX rfl | apply Da rfl rfl | apply Db rfl rfl (by intro h; first | trivial | exact ⟨h, trivial⟩ | exact ⟨h, h, trivial⟩)); (focus ((try intro hg); first | exact S_ixM rfl rfl (by omega) hx | exact Ca rfl rfl (by constructor) (by omega) | exact Cb rfl rfl (by constructor) (by omega) | exact S_al rfl | exact S_bx rfl rfl | exact S_store rfl rfl rfl rfl rfl rfl | (apply Pu.ok; repeat' (first | rfl | exact .inK (by simp only [InK]; omega) | exact .wr | constructor | decide | omega)))); constructor) | refine Pa rfl rfl rfl rfl rfl ?_ | refine Po rfl rfl rfl rfl rfl ?_ | fail)
    refine DW_loop (fun q : Nat × List Mind => ⟨[(0, .dat false (.rp n.cells)), (1, .dat false (.slice (((List.range n.bridges.length).map (endsOf n)).map endsRow))), (6, .ptr 6 0), (7, .ptr 7 0), (13, .dat false (.slice (t.map mindsRow))), (14, .dat true (.int .i64 (t.map mindsRow).length)), (15, .dat true (.int .i64 k)), (8, .dat true (.int .i64 k)), (9, .dat false (.slice (l.map Mind.cells))), (10, .own 36 0 0 q.2.length), (21, .dat true (.int .i64 (l.map Mind.cells).length)), (22, .dat true (.int .i64 q.1))],
        [(6, .cells false true [.nil]), (7, .cells false true [.own 42 us.length 0 us.length]), (42, .row us.length false true 1 (us.map mindsRow)), (36, .row 0 false true 9 (q.2.map Mind.cells))], 46⟩)
      (fun q => q.1 ≤ l.length ∧ q.2 = (tickT n k l).take q.1) (fun q => l.length - q.1) (0, []) ⟨Nat.zero_le _, rfl⟩
      (Wk_g (fun g => if g = 36 then none else some g) rfl rfl (by (repeat' (first | exact ownLe2 rfl rfl rfl | exact trivial | rfl | exact listLe_map _ | exact ⟨_, rfl, .inl rfl⟩ | exact ⟨_, rfl, .inr (.inl rfl)⟩ | exact ⟨_, rfl, .inr (.inr rfl)⟩ | refine ⟨_, _, rfl, rfl, ?_⟩ | exact ⟨_, rfl, rfl⟩ | exact ⟨_, _, _, _, rfl, rfl, rfl⟩ | exact ⟨_, rfl⟩ | exact ⟨_, _, rfl⟩ | apply And.intro)))) (fun q hR => ?_)
    obtain ⟨j, vs⟩ := q
    obtain ⟨hj, hvs⟩ := hR
    simp only at hj hvs
    dsimp only
    have htt : (tickT n k l).length = l.length := by simp [tickT]
    have hvl : vs.length = j := by rw [hvs, List.length_take]; omega
    by_cases hlj : j < l.length
    · have hy' : l[j]? = some l[j] := by simp [hlj]
      have hgm := hm j l[j] hy'
      have hmi := talk_mind n h k j (by omega) l l[j] hy' hl hgm.c hgm.b
      have hxe : ((List.range n.bridges.length).map (endsOf n))[(j : Int).toNat]? = some (endsOf n j) := by simp [show j < n.bridges.length by omega]
      have hst2 : (tickT n k l).take (j + 1) = vs ++ [mindOf n k j (endsOf n j) l] := by
        have : (tickT n k l)[j]? = some (mindOf n k j (endsOf n j) l) := by
          unfold tickT
          rw [List.getElem?_map, List.getElem?_range hlj]; rfl
        rw [List.take_add_one, this, hvs]; rfl
      generalize mindOf n k j (endsOf n j) l = mo at hmi hst2
      repeat' (first | (apply Wa; constructor) | refine Wb rfl ?_ | refine Wc rfl ?_ | refine Wd (by kernel_rfl) ?_ | refine We rfl ?_ | refine Wf rfl ?_ | refine Wg rfl (by omega) ?_ | refine Wh rfl (by omega) ?_ | refine Wi rfl rfl ?_ | ((first | apply dX rfl | apply Da rfl rfl | apply Db rfl rfl (by intro h; first | trivial | exact ⟨h, trivial⟩ | exact ⟨h, h, trivial⟩)); (focus ((try intro hg); first | exact S_ixM rfl rfl (by omega) hxe | exact S_call hmi rfl | exact S_appM (f := Mind.cells) (us := vs) (bs := [mo]) rfl rfl (.dat _ _) rfl rfl (.inl rfl) rfl (by simp only [List.length_singleton]; omega) | exact Ca rfl rfl (by constructor) (by omega) | exact Cb rfl rfl (by constructor) (by omega) | exact S_al rfl | exact S_bx rfl rfl | exact S_store rfl rfl rfl rfl rfl rfl | (apply Pu.ok; repeat' (first | rfl | exact .inK (by simp only [InK]; omega) | exact .wr | constructor | decide | omega)))); constructor) | refine Pa rfl rfl rfl rfl rfl ?_ | refine Po rfl rfl rfl rfl rfl ?_ | fail)
      exact loop_again (j + 1, vs ++ [mo]) ⟨hlj, hst2.symm⟩ (by simp only; omega) (Wk_g some rfl rfl (by (repeat' (first | exact ownLe2 rfl rfl rfl | exact trivial | rfl | exact listLe_map _ | exact ⟨_, rfl, .inl rfl⟩ | exact ⟨_, rfl, .inr (.inl rfl)⟩ | exact ⟨_, rfl, .inr (.inr rfl)⟩ | refine ⟨_, _, rfl, rfl, ?_⟩ | exact ⟨_, rfl, rfl⟩ | exact ⟨_, _, _, _, rfl, rfl, rfl⟩ | exact ⟨_, rfl⟩ | exact ⟨_, _, rfl⟩ | apply And.intro))))
    · have he : vs = tickT n k l := by rw [hvs, List.take_of_length_le (by omega)]
      refine DW_seal 10 rfl rfl (by simp) ?_
      repeat' (first | (apply Wa; constructor) | refine Wb rfl ?_ | refine Wc rfl ?_ | refine Wd (by kernel_rfl) ?_ | refine We rfl ?_ | refine Wf rfl ?_ | refine Wg rfl (by omega) ?_ | refine Wh rfl (by omega) ?_ | refine Wi rfl rfl ?_ | ((first | apply dX rfl | apply Da rfl rfl | apply Db rfl rfl (by intro h; first | trivial | exact ⟨h, trivial⟩ | exact ⟨h, h, trivial⟩)); (focus ((try intro hg); first | exact S_appM (f := mindsRow) (us := us) (bs := [vs]) rfl rfl (.dat _ _) rfl rfl (.inl rfl) rfl (by simp only [List.length_singleton]; omega) | exact Ca rfl rfl (by constructor) (by omega) | exact Cb rfl rfl (by constructor) (by omega) | exact S_al rfl | exact S_bx rfl rfl | exact S_store rfl rfl rfl rfl rfl rfl | (apply Pu.ok; repeat' (first | rfl | exact .inK (by simp only [InK]; omega) | exact .wr | constructor | decide | omega)))); constructor) | refine Pa rfl rfl rfl rfl rfl ?_ | refine Po rfl rfl rfl rfl rfl ?_ | fail)
      exact loop_again (k + 1, us ++ [vs]) ⟨hlt, by rw [hst, he]⟩ (by simp only; omega) (Wk_g some rfl rfl (by (repeat' (first | exact ownLe2 rfl rfl rfl | exact trivial | rfl | exact listLe_map _ | exact ⟨_, rfl, .inl rfl⟩ | exact ⟨_, rfl, .inr (.inl rfl)⟩ | exact ⟨_, rfl, .inr (.inr rfl)⟩ | refine ⟨_, _, rfl, rfl, ?_⟩ | exact ⟨_, rfl, rfl⟩ | exact ⟨_, _, _, _, rfl, rfl, rfl⟩ | exact ⟨_, rfl⟩ | exact ⟨_, _, rfl⟩ | apply And.intro))))
  · have he : us = tickN n t := by rw [hus, List.take_of_length_le (by omega)]
    refine DW_weak (s' := ⟨[(6, .ptr 6 0), (7, .ptr 7 0), (14, .dat true (.int .i64 (t.map mindsRow).length)), (15, .dat true (.int .i64 k))],
      [(6, .cells false true [.nil]), (7, .cells false true [.own 42 0 0 us.length]), (42, .row 0 false true 1 (us.map mindsRow))], 46⟩) (Wk_g some rfl rfl (by (repeat' (first | exact ownLe2 rfl rfl rfl | exact trivial | rfl | exact listLe_map _ | exact ⟨_, rfl, .inl rfl⟩ | exact ⟨_, rfl, .inr (.inl rfl)⟩ | exact ⟨_, rfl, .inr (.inr rfl)⟩ | refine ⟨_, _, rfl, rfl, ?_⟩ | exact ⟨_, rfl, rfl⟩ | exact ⟨_, _, _, _, rfl, rfl, rfl⟩ | exact ⟨_, rfl⟩ | exact ⟨_, _, rfl⟩ | apply And.intro)))) ?_
    refine DW_freeze 42 (fun _ _ _ h => by cases h) ?_
    repeat' (first | (apply Wa; constructor) | refine Wb rfl ?_ | refine Wc rfl ?_ | refine Wd (by kernel_rfl) ?_ | refine We rfl ?_ | refine Wf rfl ?_ | refine Wg rfl (by omega) ?_ | refine Wh rfl (by omega) ?_ | refine Wi rfl rfl ?_ | ((first | apply dX rfl | apply Da rfl rfl | apply Db rfl rfl (by intro h; first | trivial | exact ⟨h, trivial⟩ | exact ⟨h, h, trivial⟩)); (focus ((try intro hg); first | exact Ca rfl rfl (by constructor) (by omega) | exact Cb rfl rfl (by constructor) (by omega) | exact S_al rfl | exact S_bx rfl rfl | exact S_store rfl rfl rfl rfl rfl rfl | (apply Pu.ok; repeat' (first | rfl | exact .inK (by simp only [InK]; omega) | exact .wr | constructor | decide | omega)))); constructor) | refine Pa rfl rfl rfl rfl rfl ?_ | refine Po rfl rfl rfl rfl rfl ?_ | fail)
    refine retN (.cellA inferInstance rfl rfl rfl rfl (by first | exact .inl rfl | exact .inr (flat_of rfl)) .nil) ?_
    rw [he]
    show V.agg [V.slice (List.take _ (List.drop 0 _))] = _
    rw [List.drop_zero, List.take_of_length_le (by simp)]
end Go.Proofs.Ytfmaehhloffabaa
