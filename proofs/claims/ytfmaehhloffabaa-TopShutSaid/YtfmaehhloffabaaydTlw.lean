/- Contract: talk.On at a net without bridges; at any net; talk.Play. -/
import Derived.Test.YtfmaehhloffabaaydTln
import Derived.Test.YtfmaehhloffabaaydTls
namespace Go.Proofs.Ytfmaehhloffabaa
open Go.RowKit
def net0 : Net := ⟨[], []⟩
theorem net0_of {n : Net} (h : n.good) (he : n.bridges = []) : n = net0 := by
  have hl : n.links = [] := by
    cases hl : n.links with
    | nil => rfl
    | cons l r =>
      have := h.lk l (by rw [hl]; simp)
      have h1 := this.a1
      have h2 := this.a0
      rw [he] at h1
      simp at h1
      omega
  obtain ⟨b, l⟩ := n
  simp only at he hl
  subst he; subst hl; rfl
theorem doS_net0 (d : Doing) : (doS net0 d).2 ≠ 0 := by
  unfold doS
  repeat' split
  all_goals first
    | (simp; done)
    | (exfalso; simp [net0] at *; omega)
attribute [local irreducible] SStep DW DWin DOps thenQ inBlk loopQ retQ retQG FnF FnG FnI FnM Wk IntKind.wrap IntKind.andI IntKind.orI IntKind.xorI IntKind.andNotI IntKind.shlI IntKind.shrI Net.wrong idsR endsOf liveL portsOf
theorem talk_ownE : FnF Try.prog 26 [.agg [V.slice [], V.slice []]] (.agg [V.slice [], V.slice []]) := by
  refine fnF_of Try.func26 rfl rfl rfl ?_
  simp only [envOf]
  have hcb := clone_bridgesO [] (by decide)
  have hcl := clone_linksO [] (by decide)
  repeat' (first | refine DW_mark 1 (bx := .cells false true [.own 940 1 0 0, .own 941 1 0 0]) rfl ?_ | (apply Wa; constructor) | refine Wb rfl ?_ | refine Wc rfl ?_ | refine Wd (by kernel_rfl) ?_ | refine We rfl ?_ | refine Wf rfl ?_ | refine Wi rfl rfl ?_ | (apply dt rfl; case h => first | exact S_callG0 940 hcb rfl rfl (.own _ _) | exact S_callG0 941 hcl rfl rfl (.own _ _)) | ((first | apply dX rfl | apply Da rfl rfl | apply Db rfl rfl (by intro h; first | trivial | exact ⟨h, trivial⟩ | exact ⟨h, h, trivial⟩)); (focus ((try intro hg); first | exact S_callG0 940 hcb rfl rfl (.own _ _) | exact S_callG0 941 hcl rfl rfl (.own _ _) | exact S_al rfl | exact S_bx rfl rfl | exact S_store rfl rfl rfl rfl rfl rfl | (apply Pu.ok; repeat' (first | rfl | exact .inK (by simp only [InK]; omega) | exact .wr | constructor | decide | omega)))); constructor) | refine Pa rfl rfl rfl rfl rfl ?_ | refine Po rfl rfl rfl rfl rfl ?_ | fail)
  intro _
  refine DW_weak (s' := ⟨[(1, .ptr 1 0), (2, .ptr 2 0)], [(1, .cells false true [.own 940 0 0 0, .own 941 0 0 0]), (2, .cells false true [.nil, .nil]), (940, .row 0 false false 5 []), (941, .row 0 false true 6 [])], 41⟩) (Wk_g some rfl rfl (by (repeat' (first | exact ownLe2 rfl rfl rfl | exact trivial | rfl | exact listLe_map _ | exact ⟨_, rfl, .inl rfl⟩ | exact ⟨_, rfl, .inr (.inl rfl)⟩ | exact ⟨_, rfl, .inr (.inr rfl)⟩ | refine ⟨_, _, rfl, rfl, ?_⟩ | exact ⟨_, rfl, rfl⟩ | exact ⟨_, _, _, _, rfl, rfl, rfl⟩ | exact ⟨_, rfl⟩ | exact ⟨_, _, rfl⟩ | apply And.intro)))) ?_
  refine DW_freeze 940 (fun _ _ _ h => by cases h) ?_
  refine DW_freeze 941 (fun _ _ _ h => by cases h) ?_
  repeat' (first | (apply Wa; constructor) | refine Wb rfl ?_ | refine Wc rfl ?_ | refine Wd (by kernel_rfl) ?_ | refine We rfl ?_ | refine Wf rfl ?_ | refine Wg rfl (by omega) ?_ | refine Wh rfl (by omega) ?_ | refine Wi rfl rfl ?_ | ((first | apply dX rfl | apply Da rfl rfl | apply Db rfl rfl (by intro h; first | trivial | exact ⟨h, trivial⟩ | exact ⟨h, h, trivial⟩)); (focus ((try intro hg); first | exact Ca rfl rfl (by constructor) (by omega) | exact Cb rfl rfl (by constructor) (by omega) | exact S_al rfl | exact S_bx rfl rfl | exact S_store rfl rfl rfl rfl rfl rfl | (apply Pu.ok; repeat' (first | rfl | exact .inK (by simp only [InK]; omega) | exact .wr | constructor | decide | omega)))); constructor) | refine Pa rfl rfl rfl rfl rfl ?_ | refine Po rfl rfl rfl rfl rfl ?_ | fail)
  refine DW_loop (fun _ : Unit => ⟨[(1, .ptr 1 0), (2, .ptr 2 0), (15, .dat true (.int .i64 0)), (16, .dat true (.int .i64 0))], [(1, .cells false true [.dat false (.slice []), .dat true (.slice [])]), (2, .cells false true [.nil, .nil])], 41⟩)
    (fun _ => True) (fun _ => 0) () trivial (Wk_g some rfl rfl (by (repeat' (first | exact ownLe2 rfl rfl rfl | exact trivial | rfl | exact listLe_map _ | exact ⟨_, rfl, .inl rfl⟩ | exact ⟨_, rfl, .inr (.inl rfl)⟩ | exact ⟨_, rfl, .inr (.inr rfl)⟩ | refine ⟨_, _, rfl, rfl, ?_⟩ | exact ⟨_, rfl, rfl⟩ | exact ⟨_, _, _, _, rfl, rfl, rfl⟩ | exact ⟨_, rfl⟩ | exact ⟨_, _, rfl⟩ | apply And.intro)))) (fun _ _ => ?_)
  repeat' (first | (apply Wa; constructor) | refine Wb rfl ?_ | refine Wc rfl ?_ | refine Wd (by kernel_rfl) ?_ | refine We rfl ?_ | refine Wf rfl ?_ | refine Wg rfl (by omega) ?_ | refine Wh rfl (by omega) ?_ | refine Wi rfl rfl ?_ | ((first | apply dX rfl | apply Da rfl rfl | apply Db rfl rfl (by intro h; first | trivial | exact ⟨h, trivial⟩ | exact ⟨h, h, trivial⟩)); (focus ((try intro hg); first | exact Ca rfl rfl (by constructor) (by omega) | exact Cb rfl rfl (by constructor) (by omega) | exact S_al rfl | exact S_bx rfl rfl | exact S_store rfl rfl rfl rfl rfl rfl | (apply Pu.ok; repeat' (first | rfl | exact .inK (by simp only [InK]; omega) | exact .wr | constructor | decide | omega)))); constructor) | refine Pa rfl rfl rfl rfl rfl ?_ | refine Po rfl rfl rfl rfl rfl ?_ | fail)
  refine retN (.cellA inferInstance rfl rfl rfl rfl (by first | exact .inl rfl | exact .inr (flat_of rfl)) .nil) ?_
  rfl
theorem prior_E (d : Doing) : FnF Try.prog 51 [.rp [V.slice [], V.slice []], .rp d.cells] (.int .i64 6) := by
  refine fnF_of Try.func51 rfl rfl rfl ?_
  simp only [envOf]
  have hz : (([] : List (List V)).length : Int) = 0 := rfl
  by_cases h0 : d.n < 0
  · repeat' (first | (apply Wa; constructor) | refine Wb rfl ?_ | refine Wc rfl ?_ | refine Wd (by kernel_rfl) ?_ | refine We rfl ?_ | refine Wf rfl ?_ | refine Wg rfl (by omega) ?_ | refine Wh rfl (by omega) ?_ | refine Wi rfl rfl ?_ | ((first | apply dX rfl | apply Da rfl rfl | apply Db rfl rfl (by intro h; first | trivial | exact ⟨h, trivial⟩ | exact ⟨h, h, trivial⟩)); (focus ((try intro hg); first | exact Ca rfl rfl (by constructor) (by omega) | exact Cb rfl rfl (by constructor) (by omega) | exact S_al rfl | exact S_bx rfl rfl | exact S_store rfl rfl rfl rfl rfl rfl | (apply Pu.ok; repeat' (first | rfl | exact .inK (by simp only [InK]; omega) | exact .wr | constructor | decide | omega)))); constructor) | refine Pa rfl rfl rfl rfl rfl ?_ | refine Po rfl rfl rfl rfl rfl ?_ | fail)
    refine ret1 rfl (by first | exact .inl rfl | exact .inr (flat_of rfl)) ?_
    rfl
  · repeat' (first | (apply Wa; constructor) | refine Wb rfl ?_ | refine Wc rfl ?_ | refine Wd (by kernel_rfl) ?_ | refine We rfl ?_ | refine Wf rfl ?_ | refine Wg rfl (by omega) ?_ | refine Wh rfl (by omega) ?_ | refine Wi rfl rfl ?_ | ((first | apply dX rfl | apply Da rfl rfl | apply Db rfl rfl (by intro h; first | trivial | exact ⟨h, trivial⟩ | exact ⟨h, h, trivial⟩)); (focus ((try intro hg); first | exact Ca rfl rfl (by constructor) (by omega) | exact Cb rfl rfl (by constructor) (by omega) | exact S_al rfl | exact S_bx rfl rfl | exact S_store rfl rfl rfl rfl rfl rfl | (apply Pu.ok; repeat' (first | rfl | exact .inK (by simp only [InK]; omega) | exact .wr | constructor | decide | omega)))); constructor) | refine Pa rfl rfl rfl rfl rfl ?_ | refine Po rfl rfl rfl rfl rfl ?_ | fail)
    refine ret1 rfl (by first | exact .inl rfl | exact .inr (flat_of rfl)) ?_
    rfl
set_option maxHeartbeats 4000000 in
theorem do_E (d : Doing) : FnF Try.prog 29 [.rp [V.slice [], V.slice []], .rp d.cells] (.int .i64 (doS net0 d).2) := by
  refine fnF_of Try.func29 rfl rfl rfl ?_
  simp only [envOf]
  have hz : (([] : List (List V)).length : Int) = 0 := rfl
  have hz1 : (net0.links.length : Int) = 0 := rfl
  have hz2 : (net0.bridges.length : Int) = 0 := rfl
  by_cases hq : d.kind = 2 ∨ d.kind = 3 ∨ d.kind = 4
  · rw [doS_none (n := net0) hq (by omega)]
    rcases hq with hk | hk | hk <;> by_cases h0 : d.n < 0
    · repeat' (first | (apply Wa; constructor) | refine Wb rfl ?_ | refine Wc rfl ?_ | refine Wd (by kernel_rfl) ?_ | refine We rfl ?_ | refine Wf rfl ?_ | refine Wg rfl (by omega) ?_ | refine Wh rfl (by omega) ?_ | refine Wi rfl rfl ?_ | ((first | apply dX rfl | apply Da rfl rfl | apply Db rfl rfl (by intro h; first | trivial | exact ⟨h, trivial⟩ | exact ⟨h, h, trivial⟩)); (focus ((try intro hg); first | exact Ca rfl rfl (by constructor) (by omega) | exact Cb rfl rfl (by constructor) (by omega) | exact S_al rfl | exact S_bx rfl rfl | exact S_store rfl rfl rfl rfl rfl rfl | (apply Pu.ok; repeat' (first | rfl | exact .inK (by simp only [InK]; omega) | exact .wr | constructor | decide | omega)))); constructor) | refine Pa rfl rfl rfl rfl rfl ?_ | refine Po rfl rfl rfl rfl rfl ?_ | fail)
      refine ret1 rfl (by first | exact .inl rfl | exact .inr (flat_of rfl)) ?_
      rfl
    · repeat' (first | (apply Wa; constructor) | refine Wb rfl ?_ | refine Wc rfl ?_ | refine Wd (by kernel_rfl) ?_ | refine We rfl ?_ | refine Wf rfl ?_ | refine Wg rfl (by omega) ?_ | refine Wh rfl (by omega) ?_ | refine Wi rfl rfl ?_ | ((first | apply dX rfl | apply Da rfl rfl | apply Db rfl rfl (by intro h; first | trivial | exact ⟨h, trivial⟩ | exact ⟨h, h, trivial⟩)); (focus ((try intro hg); first | exact Ca rfl rfl (by constructor) (by omega) | exact Cb rfl rfl (by constructor) (by omega) | exact S_al rfl | exact S_bx rfl rfl | exact S_store rfl rfl rfl rfl rfl rfl | (apply Pu.ok; repeat' (first | rfl | exact .inK (by simp only [InK]; omega) | exact .wr | constructor | decide | omega)))); constructor) | refine Pa rfl rfl rfl rfl rfl ?_ | refine Po rfl rfl rfl rfl rfl ?_ | fail)
      refine ret1 rfl (by first | exact .inl rfl | exact .inr (flat_of rfl)) ?_
      rfl
    · repeat' (first | (apply Wa; constructor) | refine Wb rfl ?_ | refine Wc rfl ?_ | refine Wd (by kernel_rfl) ?_ | refine We rfl ?_ | refine Wf rfl ?_ | refine Wg rfl (by omega) ?_ | refine Wh rfl (by omega) ?_ | refine Wi rfl rfl ?_ | ((first | apply dX rfl | apply Da rfl rfl | apply Db rfl rfl (by intro h; first | trivial | exact ⟨h, trivial⟩ | exact ⟨h, h, trivial⟩)); (focus ((try intro hg); first | exact Ca rfl rfl (by constructor) (by omega) | exact Cb rfl rfl (by constructor) (by omega) | exact S_al rfl | exact S_bx rfl rfl | exact S_store rfl rfl rfl rfl rfl rfl | (apply Pu.ok; repeat' (first | rfl | exact .inK (by simp only [InK]; omega) | exact .wr | constructor | decide | omega)))); constructor) | refine Pa rfl rfl rfl rfl rfl ?_ | refine Po rfl rfl rfl rfl rfl ?_ | fail)
      refine ret1 rfl (by first | exact .inl rfl | exact .inr (flat_of rfl)) ?_
      rfl
    · repeat' (first | (apply Wa; constructor) | refine Wb rfl ?_ | refine Wc rfl ?_ | refine Wd (by kernel_rfl) ?_ | refine We rfl ?_ | refine Wf rfl ?_ | refine Wg rfl (by omega) ?_ | refine Wh rfl (by omega) ?_ | refine Wi rfl rfl ?_ | ((first | apply dX rfl | apply Da rfl rfl | apply Db rfl rfl (by intro h; first | trivial | exact ⟨h, trivial⟩ | exact ⟨h, h, trivial⟩)); (focus ((try intro hg); first | exact Ca rfl rfl (by constructor) (by omega) | exact Cb rfl rfl (by constructor) (by omega) | exact S_al rfl | exact S_bx rfl rfl | exact S_store rfl rfl rfl rfl rfl rfl | (apply Pu.ok; repeat' (first | rfl | exact .inK (by simp only [InK]; omega) | exact .wr | constructor | decide | omega)))); constructor) | refine Pa rfl rfl rfl rfl rfl ?_ | refine Po rfl rfl rfl rfl rfl ?_ | fail)
      refine ret1 rfl (by first | exact .inl rfl | exact .inr (flat_of rfl)) ?_
      rfl
    · repeat' (first | (apply Wa; constructor) | refine Wb rfl ?_ | refine Wc rfl ?_ | refine Wd (by kernel_rfl) ?_ | refine We rfl ?_ | refine Wf rfl ?_ | refine Wg rfl (by omega) ?_ | refine Wh rfl (by omega) ?_ | refine Wi rfl rfl ?_ | ((first | apply dX rfl | apply Da rfl rfl | apply Db rfl rfl (by intro h; first | trivial | exact ⟨h, trivial⟩ | exact ⟨h, h, trivial⟩)); (focus ((try intro hg); first | exact Ca rfl rfl (by constructor) (by omega) | exact Cb rfl rfl (by constructor) (by omega) | exact S_al rfl | exact S_bx rfl rfl | exact S_store rfl rfl rfl rfl rfl rfl | (apply Pu.ok; repeat' (first | rfl | exact .inK (by simp only [InK]; omega) | exact .wr | constructor | decide | omega)))); constructor) | refine Pa rfl rfl rfl rfl rfl ?_ | refine Po rfl rfl rfl rfl rfl ?_ | fail)
      refine ret1 rfl (by first | exact .inl rfl | exact .inr (flat_of rfl)) ?_
      rfl
    · repeat' (first | (apply Wa; constructor) | refine Wb rfl ?_ | refine Wc rfl ?_ | refine Wd (by kernel_rfl) ?_ | refine We rfl ?_ | refine Wf rfl ?_ | refine Wg rfl (by omega) ?_ | refine Wh rfl (by omega) ?_ | refine Wi rfl rfl ?_ | ((first | apply dX rfl | apply Da rfl rfl | apply Db rfl rfl (by intro h; first | trivial | exact ⟨h, trivial⟩ | exact ⟨h, h, trivial⟩)); (focus ((try intro hg); first | exact Ca rfl rfl (by constructor) (by omega) | exact Cb rfl rfl (by constructor) (by omega) | exact S_al rfl | exact S_bx rfl rfl | exact S_store rfl rfl rfl rfl rfl rfl | (apply Pu.ok; repeat' (first | rfl | exact .inK (by simp only [InK]; omega) | exact .wr | constructor | decide | omega)))); constructor) | refine Pa rfl rfl rfl rfl rfl ?_ | refine Po rfl rfl rfl rfl rfl ?_ | fail)
      refine ret1 rfl (by first | exact .inl rfl | exact .inr (flat_of rfl)) ?_
      rfl
  · by_cases h5 : d.kind = 5
    · rw [doS_pnone (n := net0) h5 (by omega)]
      repeat' (first | (apply Wa; constructor) | refine Wb rfl ?_ | refine Wc rfl ?_ | refine Wd (by kernel_rfl) ?_ | refine We rfl ?_ | refine Wf rfl ?_ | refine Wg rfl (by omega) ?_ | refine Wh rfl (by omega) ?_ | refine Wi rfl rfl ?_ | ((first | apply dX rfl | apply Da rfl rfl | apply Db rfl rfl (by intro h; first | trivial | exact ⟨h, trivial⟩ | exact ⟨h, h, trivial⟩)); (focus ((try intro hg); first | exact S_call (prior_E d) rfl | exact Ca rfl rfl (by constructor) (by omega) | exact Cb rfl rfl (by constructor) (by omega) | exact S_al rfl | exact S_bx rfl rfl | exact S_store rfl rfl rfl rfl rfl rfl | (apply Pu.ok; repeat' (first | rfl | exact .inK (by simp only [InK]; omega) | exact .wr | constructor | decide | omega)))); constructor) | refine Pa rfl rfl rfl rfl rfl ?_ | refine Po rfl rfl rfl rfl rfl ?_ | fail)
      refine ret1 rfl (by first | exact .inl rfl | exact .inr (flat_of rfl)) ?_
      rfl
    · rw [doS_kind (n := net0) (by omega) (by omega) (by omega) h5]
      repeat' (first | (apply Wa; constructor) | refine Wb rfl ?_ | refine Wc rfl ?_ | refine Wd (by kernel_rfl) ?_ | refine We rfl ?_ | refine Wf rfl ?_ | refine Wg rfl (by omega) ?_ | refine Wh rfl (by omega) ?_ | refine Wi rfl rfl ?_ | ((first | apply dX rfl | apply Da rfl rfl | apply Db rfl rfl (by intro h; first | trivial | exact ⟨h, trivial⟩ | exact ⟨h, h, trivial⟩)); (focus ((try intro hg); first | exact Ca rfl rfl (by constructor) (by omega) | exact Cb rfl rfl (by constructor) (by omega) | exact S_al rfl | exact S_bx rfl rfl | exact S_store rfl rfl rfl rfl rfl rfl | (apply Pu.ok; repeat' (first | rfl | exact .inK (by simp only [InK]; omega) | exact .wr | constructor | decide | omega)))); constructor) | refine Pa rfl rfl rfl rfl rfl ?_ | refine Po rfl rfl rfl rfl rfl ?_ | fail)
      refine ret1 rfl (by first | exact .inl rfl | exact .inr (flat_of rfl)) ?_
      rfl
set_option maxHeartbeats 4000000 in
theorem talk_OnE (ht : net0.typed) (h0 : net0.wrong.1 = 0) (t : List (List Mind)) (htt : goodT net0 t) (h1 : 1 ≤ t.length) (l : List Doing) (hl : l.length ≤ 30) : FnF Try.prog 15 [net0.v, talkV t, .slice (l.map Doing.cells)] (onV (onLoop 0 l net0 t)) := by
  refine fnF_of Try.func15 rfl rfl rfl ?_
  simp only [envOf, talkV]
  have hwr := plan_Wrong net0 ht.wy
  rw [Net.wrong_zero h0] at hwr
  have h := ((Net.wrong_iff ht).1 h0).1
  have hri := talk_right net0 h t htt h1
  have hml : (l.map Doing.cells).length = l.length := by simp
  have hrg := plan_Regions net0 (fun b hb => (h.br b hb).r) h.nb
  have hmi := talk_mine net0 h t htt
  repeat' (first | (apply Wa; constructor) | refine Wb rfl ?_ | refine Wc rfl ?_ | refine Wd (by kernel_rfl) ?_ | refine We rfl ?_ | refine Wf rfl ?_ | refine Wg rfl (by omega) ?_ | refine Wh rfl (by omega) ?_ | refine Wi rfl rfl ?_ | ((first | apply dX rfl | apply Da rfl rfl | apply Db rfl rfl (by intro h; first | trivial | exact ⟨h, trivial⟩ | exact ⟨h, h, trivial⟩)); (focus ((try intro hg); first | exact S_call hwr rfl | exact S_call hri rfl | exact S_call talk_ownE rfl | exact S_call hrg rfl | exact S_call hmi rfl | exact Ca rfl rfl (by constructor) (by omega) | exact Cb rfl rfl (by constructor) (by omega) | exact S_al rfl | exact S_bx rfl rfl | exact S_store rfl rfl rfl rfl rfl rfl | (apply Pu.ok; repeat' (first | rfl | exact .inK (by simp only [InK]; omega) | exact .wr | constructor | decide | omega)))); constructor) | refine Pa rfl rfl rfl rfl rfl ?_ | refine Po rfl rfl rfl rfl rfl ?_ | fail)
  refine DW_loop (fun q : Nat × List (List Mind) => ⟨[(2, .dat false (.slice (l.map Doing.cells))), (3, .ptr 3 0), (4, .ptr 4 0), (6, .ptr 6 0), (7, .ptr 7 0), (8, .ptr 8 0), (10, .dat true (.slice ((idsR net0.bridges).map bytesR))), (39, .dat false (.slice (l.map Doing.cells))), (40, .dat true (.int .i64 (l.map Doing.cells).length)), (41, .dat true (.int .i64 q.1))], [(4, .cells false true [.dat true (.slice (q.2.map mindsRow))]), (3, .cells false true [.dat true (.slice []), .dat true (.slice [])]), (6, .cells false true [.nil, .nil]), (7, .cells false true [.nil]), (8, .cells false true [.dat true (.int .i64 0), .dat true (.int .i64 0)])], 93⟩)
    (fun q => q.1 ≤ l.length ∧ goodT net0 q.2 ∧ onLoop 0 l net0 t = onLoop q.1 (l.drop q.1) net0 q.2) (fun q => l.length - q.1) (0, t) ⟨Nat.zero_le _, htt, rfl⟩
    (Wk_g some rfl rfl (by (repeat' (first | exact ownLe2 rfl rfl rfl | exact trivial | rfl | exact listLe_map _ | exact ⟨_, rfl, .inl rfl⟩ | exact ⟨_, rfl, .inr (.inl rfl)⟩ | exact ⟨_, rfl, .inr (.inr rfl)⟩ | refine ⟨_, _, rfl, rfl, ?_⟩ | exact ⟨_, rfl, rfl⟩ | exact ⟨_, _, _, _, rfl, rfl, rfl⟩ | exact ⟨_, rfl⟩ | exact ⟨_, _, rfl⟩ | apply And.intro)))) (fun q hR => ?_)
  obtain ⟨i, u⟩ := q
  obtain ⟨hi, hgu, hon⟩ := hR
  simp only at hi hgu hon
  dsimp only
  rw [hon]
  by_cases hlt : i < l.length
  · have hx : l[(i : Int).toNat]? = some l[i] := by simp [hlt]
    have hdr : l.drop i = l[i] :: l.drop (i + 1) := List.drop_eq_getElem_cons hlt
    rw [hdr, onLoop]
    generalize l[i] = d at hx hdr
    by_cases hk1 : d.kind = 1
    · rw [if_pos hk1]
      by_cases hb : d.n < 0 ∨ 200 < d.n
      · rw [if_pos hb]
        by_cases hb1 : d.n < 0
        · repeat' (first | (apply Wa; constructor) | refine Wb rfl ?_ | refine Wc rfl ?_ | refine Wd (by kernel_rfl) ?_ | refine We rfl ?_ | refine Wf rfl ?_ | refine Wg rfl (by omega) ?_ | refine Wh rfl (by omega) ?_ | refine Wi rfl rfl ?_ | ((first | apply dX rfl | apply Da rfl rfl | apply Db rfl rfl (by intro h; first | trivial | exact ⟨h, trivial⟩ | exact ⟨h, h, trivial⟩)); (focus ((try intro hg); first | exact S_ixM rfl rfl (by omega) hx | exact Ca rfl rfl (by constructor) (by omega) | exact Cb rfl rfl (by constructor) (by omega) | exact S_al rfl | exact S_bx rfl rfl | exact S_store rfl rfl rfl rfl rfl rfl | (apply Pu.ok; repeat' (first | rfl | exact .inK (by simp only [InK]; omega) | exact .wr | constructor | decide | omega)))); constructor) | refine Pa rfl rfl rfl rfl rfl ?_ | refine Po rfl rfl rfl rfl rfl ?_ | fail)
          refine retN (.cellA inferInstance rfl rfl rfl rfl (by first | exact .inl rfl | exact .inr (flat_of rfl)) (.cellA inferInstance rfl rfl rfl rfl (by first | exact .inl rfl | exact .inr (flat_of rfl)) (.cellA inferInstance rfl rfl rfl rfl (by first | exact .inl rfl | exact .inr (flat_of rfl)) .nil))) ?_
          rfl
        · repeat' (first | (apply Wa; constructor) | refine Wb rfl ?_ | refine Wc rfl ?_ | refine Wd (by kernel_rfl) ?_ | refine We rfl ?_ | refine Wf rfl ?_ | refine Wg rfl (by omega) ?_ | refine Wh rfl (by omega) ?_ | refine Wi rfl rfl ?_ | ((first | apply dX rfl | apply Da rfl rfl | apply Db rfl rfl (by intro h; first | trivial | exact ⟨h, trivial⟩ | exact ⟨h, h, trivial⟩)); (focus ((try intro hg); first | exact S_ixM rfl rfl (by omega) hx | exact Ca rfl rfl (by constructor) (by omega) | exact Cb rfl rfl (by constructor) (by omega) | exact S_al rfl | exact S_bx rfl rfl | exact S_store rfl rfl rfl rfl rfl rfl | (apply Pu.ok; repeat' (first | rfl | exact .inK (by simp only [InK]; omega) | exact .wr | constructor | decide | omega)))); constructor) | refine Pa rfl rfl rfl rfl rfl ?_ | refine Po rfl rfl rfl rfl rfl ?_ | fail)
          refine retN (.cellA inferInstance rfl rfl rfl rfl (by first | exact .inl rfl | exact .inr (flat_of rfl)) (.cellA inferInstance rfl rfl rfl rfl (by first | exact .inl rfl | exact .inr (flat_of rfl)) (.cellA inferInstance rfl rfl rfl rfl (by first | exact .inl rfl | exact .inr (flat_of rfl)) .nil))) ?_
          rfl
      · rw [if_neg hb]
        obtain ⟨T, hT⟩ : ∃ T : Nat, d.n = (T : Int) := ⟨d.n.toNat, by omega⟩
        rw [hT, Int.toNat_natCast]
        have hen := plan_Ends net0 h
        repeat' (first | (apply Wa; constructor) | refine Wb rfl ?_ | refine Wc rfl ?_ | refine Wd (by kernel_rfl) ?_ | refine We rfl ?_ | refine Wf rfl ?_ | refine Wg rfl (by omega) ?_ | refine Wh rfl (by omega) ?_ | refine Wi rfl rfl ?_ | ((first | apply dX rfl | apply Da rfl rfl | apply Db rfl rfl (by intro h; first | trivial | exact ⟨h, trivial⟩ | exact ⟨h, h, trivial⟩)); (focus ((try intro hg); first | exact S_ixM rfl rfl (by omega) hx | exact S_call hen rfl | exact Ca rfl rfl (by constructor) (by omega) | exact Cb rfl rfl (by constructor) (by omega) | exact S_al rfl | exact S_bx rfl rfl | exact S_store rfl rfl rfl rfl rfl rfl | (apply Pu.ok; repeat' (first | rfl | exact .inK (by simp only [InK]; omega) | exact .wr | constructor | decide | omega)))); constructor) | refine Pa rfl rfl rfl rfl rfl ?_ | refine Po rfl rfl rfl rfl rfl ?_ | fail)
        refine DW_loop (fun k : Nat => ⟨[(2, .dat false (.slice (l.map Doing.cells))), (3, .ptr 3 0), (4, .ptr 4 0), (6, .ptr 6 0), (7, .ptr 7 0), (8, .ptr 8 0), (10, .dat true (.slice ((idsR net0.bridges).map bytesR))), (39, .dat false (.slice (l.map Doing.cells))), (40, .dat true (.int .i64 (l.map Doing.cells).length)), (41, .dat true (.int .i64 i)), (13, .dat true (.slice (((List.range net0.bridges.length).map (endsOf net0)).map endsRow))), (73, .dat false (.int .i64 d.n)), (74, .dat true (.int .i64 k))], [(4, .cells false true [.dat true (.slice ((ticksN net0 u k).map mindsRow))]), (3, .cells false true [.dat true (.slice []), .dat true (.slice [])]), (6, .cells false true [.nil, .nil]), (7, .cells false true [.nil]), (8, .cells false true [.dat true (.int .i64 0), .dat true (.int .i64 0)])], 93⟩)
          (fun k => k ≤ T) (fun k => T - k) 0 (Nat.zero_le _) (Wk_g some rfl rfl (by (repeat' (first | exact ownLe2 rfl rfl rfl | exact trivial | rfl | exact listLe_map _ | exact ⟨_, rfl, .inl rfl⟩ | exact ⟨_, rfl, .inr (.inl rfl)⟩ | exact ⟨_, rfl, .inr (.inr rfl)⟩ | refine ⟨_, _, rfl, rfl, ?_⟩ | exact ⟨_, rfl, rfl⟩ | exact ⟨_, _, _, _, rfl, rfl, rfl⟩ | exact ⟨_, rfl⟩ | exact ⟨_, _, rfl⟩ | apply And.intro)))) (fun k hk => ?_)
        by_cases hlk : k < T
        · have htk := talk_tick net0 h (ticksN net0 u k) (ticksN_good hgu k)
          repeat' (first | (apply Wa; constructor) | refine Wb rfl ?_ | refine Wc rfl ?_ | refine Wd (by kernel_rfl) ?_ | refine We rfl ?_ | refine Wf rfl ?_ | refine Wg rfl (by omega) ?_ | refine Wh rfl (by omega) ?_ | refine Wi rfl rfl ?_ | ((first | apply dX rfl | apply Da rfl rfl | apply Db rfl rfl (by intro h; first | trivial | exact ⟨h, trivial⟩ | exact ⟨h, h, trivial⟩)); (focus ((try intro hg); first | exact S_call htk rfl | exact Ca rfl rfl (by constructor) (by omega) | exact Cb rfl rfl (by constructor) (by omega) | exact S_al rfl | exact S_bx rfl rfl | exact S_store rfl rfl rfl rfl rfl rfl | (apply Pu.ok; repeat' (first | rfl | exact .inK (by simp only [InK]; omega) | exact .wr | constructor | decide | omega)))); constructor) | refine Pa rfl rfl rfl rfl rfl ?_ | refine Po rfl rfl rfl rfl rfl ?_ | fail)
          exact loop_again (k + 1) hlk (by omega) (Wk_g some rfl rfl (by (repeat' (first | exact ownLe2 rfl rfl rfl | exact trivial | rfl | exact listLe_map _ | exact ⟨_, rfl, .inl rfl⟩ | exact ⟨_, rfl, .inr (.inl rfl)⟩ | exact ⟨_, rfl, .inr (.inr rfl)⟩ | refine ⟨_, _, rfl, rfl, ?_⟩ | exact ⟨_, rfl, rfl⟩ | exact ⟨_, _, _, _, rfl, rfl, rfl⟩ | exact ⟨_, rfl⟩ | exact ⟨_, _, rfl⟩ | apply And.intro))))
        · have hkT : k = T := by omega
          subst hkT
          repeat' (first | (apply Wa; constructor) | refine Wb rfl ?_ | refine Wc rfl ?_ | refine Wd (by kernel_rfl) ?_ | refine We rfl ?_ | refine Wf rfl ?_ | refine Wg rfl (by omega) ?_ | refine Wh rfl (by omega) ?_ | refine Wi rfl rfl ?_ | ((first | apply dX rfl | apply Da rfl rfl | apply Db rfl rfl (by intro h; first | trivial | exact ⟨h, trivial⟩ | exact ⟨h, h, trivial⟩)); (focus ((try intro hg); first | exact Ca rfl rfl (by constructor) (by omega) | exact Cb rfl rfl (by constructor) (by omega) | exact S_al rfl | exact S_bx rfl rfl | exact S_store rfl rfl rfl rfl rfl rfl | (apply Pu.ok; repeat' (first | rfl | exact .inK (by simp only [InK]; omega) | exact .wr | constructor | decide | omega)))); constructor) | refine Pa rfl rfl rfl rfl rfl ?_ | refine Po rfl rfl rfl rfl rfl ?_ | fail)
          exact loop_again (i + 1, ticksN net0 u k) ⟨hlt, ticksN_good hgu k, rfl⟩ (by simp only; omega) (Wk_g some rfl rfl (by (repeat' (first | exact ownLe2 rfl rfl rfl | exact trivial | rfl | exact listLe_map _ | exact ⟨_, rfl, .inl rfl⟩ | exact ⟨_, rfl, .inr (.inl rfl)⟩ | exact ⟨_, rfl, .inr (.inr rfl)⟩ | refine ⟨_, _, rfl, rfl, ?_⟩ | exact ⟨_, rfl, rfl⟩ | exact ⟨_, _, _, _, rfl, rfl, rfl⟩ | exact ⟨_, rfl⟩ | exact ⟨_, _, rfl⟩ | apply And.intro))))
    · rw [if_neg hk1]
      have hd := do_E d
      have hne := doS_net0 d
      generalize doS net0 d = r at hd hne ⊢
      obtain ⟨n', e⟩ := r
      dsimp only at hd hne ⊢
      rw [if_pos hne]
      have hne' : ¬ e = 0 := hne
      repeat' (first | (apply Wa; constructor) | refine Wb rfl ?_ | refine Wc rfl ?_ | refine Wd (by kernel_rfl) ?_ | refine We rfl ?_ | refine Wf rfl ?_ | refine Wg rfl (by omega) ?_ | refine Wh rfl (by omega) ?_ | refine Wi rfl rfl ?_ | ((first | apply dX rfl | apply Da rfl rfl | apply Db rfl rfl (by intro h; first | trivial | exact ⟨h, trivial⟩ | exact ⟨h, h, trivial⟩)); (focus ((try intro hg); first | exact S_ixM rfl rfl (by omega) hx | exact S_call hd rfl | exact Ca rfl rfl (by constructor) (by omega) | exact Cb rfl rfl (by constructor) (by omega) | exact S_al rfl | exact S_bx rfl rfl | exact S_store rfl rfl rfl rfl rfl rfl | (apply Pu.ok; repeat' (first | rfl | exact .inK (by simp only [InK]; omega) | exact .wr | constructor | decide | omega)))); constructor) | refine Pa rfl rfl rfl rfl rfl ?_ | refine Po rfl rfl rfl rfl rfl ?_ | fail)
      refine retN (.cellA inferInstance rfl rfl rfl rfl (by first | exact .inl rfl | exact .inr (flat_of rfl)) (.cellA inferInstance rfl rfl rfl rfl (by first | exact .inl rfl | exact .inr (flat_of rfl)) (.cellA inferInstance rfl rfl rfl rfl (by first | exact .inl rfl | exact .inr (flat_of rfl)) .nil))) ?_
      rfl
  · have hdr : l.drop i = [] := List.drop_eq_nil_of_le (by omega)
    rw [hdr, onLoop]
    repeat' (first | (apply Wa; constructor) | refine Wb rfl ?_ | refine Wc rfl ?_ | refine Wd (by kernel_rfl) ?_ | refine We rfl ?_ | refine Wf rfl ?_ | refine Wg rfl (by omega) ?_ | refine Wh rfl (by omega) ?_ | refine Wi rfl rfl ?_ | ((first | apply dX rfl | apply Da rfl rfl | apply Db rfl rfl (by intro h; first | trivial | exact ⟨h, trivial⟩ | exact ⟨h, h, trivial⟩)); (focus ((try intro hg); first | exact Ca rfl rfl (by constructor) (by omega) | exact Cb rfl rfl (by constructor) (by omega) | exact S_al rfl | exact S_bx rfl rfl | exact S_store rfl rfl rfl rfl rfl rfl | (apply Pu.ok; repeat' (first | rfl | exact .inK (by simp only [InK]; omega) | exact .wr | constructor | decide | omega)))); constructor) | refine Pa rfl rfl rfl rfl rfl ?_ | refine Po rfl rfl rfl rfl rfl ?_ | fail)
    refine retN (.cellA inferInstance rfl rfl rfl rfl (by first | exact .inl rfl | exact .inr (flat_of rfl)) (.cellA inferInstance rfl rfl rfl rfl (by first | exact .inl rfl | exact .inr (flat_of rfl)) (.cellA inferInstance rfl rfl rfl rfl (by first | exact .inl rfl | exact .inr (flat_of rfl)) .nil))) ?_
    rfl
theorem talk_On (n : Net) (ht : n.typed) (t : List (List Mind)) (hf : n.wrong.1 = 0 → goodT n t ∧ 1 ≤ t.length) (l : List Doing) : FnF Try.prog 15 [n.v, talkV t, .slice (l.map Doing.cells)] (onV (onA n t l)) := by
  unfold onA
  by_cases h0 : n.wrong.1 ≠ 0
  · rw [if_pos h0]; exact talk_OnW n ht h0 t l
  · rw [if_neg h0]
    have h0 : n.wrong.1 = 0 := Decidable.not_not.1 h0
    obtain ⟨htt, h1⟩ := hf h0
    by_cases hl : 30 < l.length
    · rw [if_pos hl]; exact talk_OnM n ht h0 t htt h1 l hl
    · rw [if_neg hl]
      by_cases he : n.bridges = []
      · have := net0_of ((Net.wrong_iff ht).1 h0).1 he
        subst this
        exact talk_OnE ht h0 t htt h1 l (by omega)
      · exact talk_OnR n ht h0 t htt h1 l (by omega) he
end Go.Proofs.Ytfmaehhloffabaa
