/- Contracts: the document's Live; the plan laws' role, forwards, alive. -/
import Derived.Test.YtkppkgahdoglpaaycPlC
import Derived.Test.YtkppkgahdoglpaaydPlN
namespace Go.Proofs.Ytkppkgahdoglpaa
open Go.RowKit
def net2 : Net := ⟨[⟨1, [], ⟨[114], 0, []⟩⟩, ⟨2, [], ⟨[114], 0, []⟩⟩], [⟨0, 1, 1, 2, 5, true⟩]⟩
theorem net2_typed : net2.typed := ⟨fun b hb => by simp [net2] at hb; rcases hb with rfl | rfl <;> decide, fun b hb => by simp [net2] at hb; rcases hb with rfl | rfl <;> decide⟩
theorem net2_wrong : net2.wrong = (0, 0) := by with_unfolding_all decide
theorem net2_good : net2.good := ((Net.wrong_iff net2_typed).1 (by rw [net2_wrong])).1
theorem net2_live : liveL net2 = net2.links := by
  rw [liveL_one ⟨[114], 0, []⟩ (fun b hb => by simp [net2] at hb; rcases hb with rfl | rfl <;> rfl) (fun l hl => by simp [net2] at hl; subst hl; decide)]
  with_unfolding_all rfl
theorem net2_plan : planF net2 0 = [⟨⟨9223372036854775809, 0, 9223372036854775809, 0⟩, -1, [1], [2]⟩, ⟨⟨9223372036854775809, 5, 9223372036854775810, 0⟩, 2, [2], [1]⟩] := by
  rw [planF_C (ids := [9223372036854775809, 9223372036854775810]) (E := [[⟨1, 5, 1, 2⟩], [⟨2, 5, 0, 1⟩]]) (P := [[1], [2]]) (by with_unfolding_all rfl)
    (by
      have : (List.range net2.bridges.length).map (endsOf net2) = (List.range net2.bridges.length).map fun i => isoE (rawE net2.links i) := List.map_congr_left fun i _ => by rw [ends_iso net2_good, net2_live]
      rw [this]; with_unfolding_all rfl)
    (by
      have : (List.range net2.bridges.length).map (fun i => portsOf net2.links (i : Nat)) = (List.range net2.bridges.length).map fun i => isoP (rawP net2.links (i : Nat)) := List.map_congr_left fun i _ => ports_iso _ _
      rw [this]; with_unfolding_all rfl)]
  with_unfolding_all rfl
theorem net2_planA : planA net2 0 = (planF net2 0, (0, 0)) := by
  unfold planA
  rw [net2_wrong, if_neg (by simp), if_neg (by omega)]
attribute [local irreducible] SStep DW DWin DOps thenQ inBlk loopQ retQ retQG FnF FnG FnI Wk IntKind.wrap IntKind.andI IntKind.orI IntKind.xorI IntKind.andNotI IntKind.shlI IntKind.shrI Net.wrong Bridge.id Bridge.prio identR idsR liveB planA mix
set_option maxHeartbeats 4000000 in
theorem ref6_Live (n : Net) (h : n.good) : FnF Try.prog 20 [n.v] (.slice ((liveL n).map linkV)) := by
  refine fnF_of Try.func20 rfl rfl rfl ?_
  simp only [envOf]
  have hmb : (n.bridges.map bridgeV).length = n.bridges.length := by simp
  have hml : (n.links.map linkV).length = n.links.length := by simp
  have hnb := h.nb
  have hnl := h.nl
  obtain ⟨nb, hnbe⟩ : ∃ nb, nb = n.bridges.length := ⟨_, rfl⟩
  rw [← hnbe] at hnb hmb
  repeat' (first
    | (apply dt rfl; case h => exact S_mkM (f := bytesR) (l := nb) (c := nb) [] _ rfl rfl (by rw [hmb]) (by rw [hmb]) (Nat.le_refl _) (by omega) rfl rfl)
    | (apply Stp.go; case a => constructor)
    | refine blk_hit rfl ?_ | refine blk_miss rfl ?_ | refine dnilD (by kernel_rfl) ?_ | refine DW_cond_t rfl ?_ | refine DW_cond_f rfl ?_
    | refine dpOff rfl rfl ?_
    | ((first | apply dX rfl | apply dXon rfl rfl | apply dpMay rfl rfl (by intro h; first | trivial | exact ⟨h, trivial⟩ | exact ⟨h, h, trivial⟩ | exact ⟨h, h, h, trivial⟩)); (case h => ((try intro hg); first | exact S_al rfl | exact S_bx rfl rfl | exact S_store rfl rfl rfl rfl rfl rfl | (apply Pu.ok; repeat' (first | rfl | exact .inK (by simp only [InK]; omega) | exact .inK (by simp only [InK]; simp at hg; omega) | exact .wr | constructor | decide | omega)))); (try case hp => constructor))
    | refine dpickAnd rfl rfl rfl rfl rfl ?_ | refine dpickOr rfl rfl rfl rfl rfl ?_
    | fail)
  have hil : (idsR n.bridges).length = (List.replicate nb ([] : List UInt8)).length := by unfold idsR; simp [hnbe]
  refine DW_loop (fun k : Nat => ⟨[(1, .ptr 1 0), (3, .nil), (4, .own 12 0 0 nb), (14, .dat false (.slice (n.bridges.map bridgeV))), (15, .dat true (.int .i64 (n.bridges.map bridgeV).length)), (16, .dat true (.int .i64 k))],
      [(1, .cells false true (n.cells.map (.dat false))), (12, .row 0 false true 1 ((mix (idsR n.bridges) (List.replicate nb []) k).map bytesR))], 56⟩)
    (fun k => k ≤ nb) (fun k => nb - k) 0 (Nat.zero_le _)
    (by rw [mix_zero]; exact Wk_g some rfl rfl (by (repeat' (first | exact trivial | rfl | exact listLe_map _ | exact ⟨_, rfl, .inl rfl⟩ | exact ⟨_, rfl, .inr (.inl rfl)⟩ | exact ⟨_, rfl, .inr (.inr rfl)⟩ | refine ⟨_, _, rfl, rfl, ?_⟩ | exact ⟨_, rfl, rfl⟩ | exact ⟨_, _, _, _, rfl, rfl, rfl⟩ | exact ⟨_, rfl⟩ | exact ⟨_, _, rfl⟩ | apply And.intro)))) (fun k hk => ?_)
  by_cases hlt : k < nb
  · have hx : n.bridges[(k : Int).toNat]? = some (n.bridges[k]'(by omega)) := by simp [show k < n.bridges.length by omega]
    have hbo := h.br (n.bridges[k]'(by omega)) (List.getElem_mem _)
    have hs0 : (idsR n.bridges)[k]? = some (identR (n.bridges[k]'(by omega)).region) := by unfold idsR; simp [show k < n.bridges.length by omega]
    generalize n.bridges[k]'(by omega) = b at hx hbo hs0
    have hid := ref3_Ident b.region hbo.r
    have hset := mix_set hil hs0
    have hu : (mix (idsR n.bridges) (List.replicate nb []) k)[(k : Int).toNat]? = some [] := by rw [Int.toNat_natCast, mix_get hil]; simp [hlt]
    repeat' (first
    | (apply Stp.go; case a => constructor)
    | refine blk_hit rfl ?_ | refine blk_miss rfl ?_ | refine dnilD (by kernel_rfl) ?_ | refine DW_cond_t rfl ?_ | refine DW_cond_f rfl ?_
    | refine DW_tD rfl (by omega) ?_ | refine DW_fD rfl (by omega) ?_
    | refine dpOff rfl rfl ?_
    | ((first | apply dX rfl | apply dXon rfl rfl | apply dpMay rfl rfl (by intro h; first | trivial | exact ⟨h, trivial⟩ | exact ⟨h, h, trivial⟩ | exact ⟨h, h, h, trivial⟩)); (case h => ((try intro hg); first | exact S_ixM rfl rfl (by omega) hx | exact S_call hid rfl | exact S_ixO rfl rfl rfl (by omega) (by omega) | exact S_storeM (f := bytesR) (a := identR b.region) rfl rfl hu rfl rfl (.inl rfl) rfl rfl | exact S_al rfl | exact S_bx rfl rfl | exact S_store rfl rfl rfl rfl rfl rfl | (apply Pu.ok; repeat' (first | rfl | exact .inK (by simp only [InK]; omega) | exact .inK (by simp only [InK]; simp at hg; omega) | exact .wr | constructor | decide | omega)))); (try case hp => constructor))
    | refine dpickAnd rfl rfl rfl rfl rfl ?_ | refine dpickOr rfl rfl rfl rfl rfl ?_
    | fail)
    refine loop_again (k + 1) hlt (by omega) ?_
    rw [← hset]
    exact (Wk_g some rfl rfl (by (repeat' (first | exact trivial | rfl | exact listLe_map _ | exact ⟨_, rfl, .inl rfl⟩ | exact ⟨_, rfl, .inr (.inl rfl)⟩ | exact ⟨_, rfl, .inr (.inr rfl)⟩ | refine ⟨_, _, rfl, rfl, ?_⟩ | exact ⟨_, rfl, rfl⟩ | exact ⟨_, _, _, _, rfl, rfl, rfl⟩ | exact ⟨_, rfl⟩ | exact ⟨_, _, rfl⟩ | apply And.intro))))
  · rw [mix_all hil (by simp; omega)]
    have hil2 : (idsR n.bridges).length = nb := by rw [hil]; simp
    refine DW_seal 4 rfl rfl (by rw [List.length_map, hil2]) ?_
    repeat' (first
    | (apply Stp.go; case a => constructor)
    | refine blk_hit rfl ?_ | refine blk_miss rfl ?_ | refine dnilD (by kernel_rfl) ?_ | refine DW_cond_t rfl ?_ | refine DW_cond_f rfl ?_
    | refine DW_tD rfl (by omega) ?_ | refine DW_fD rfl (by omega) ?_
    | refine dpOff rfl rfl ?_
    | ((first | apply dX rfl | apply dXon rfl rfl | apply dpMay rfl rfl (by intro h; first | trivial | exact ⟨h, trivial⟩ | exact ⟨h, h, trivial⟩ | exact ⟨h, h, h, trivial⟩)); (case h => ((try intro hg); first | exact S_al rfl | exact S_bx rfl rfl | exact S_store rfl rfl rfl rfl rfl rfl | (apply Pu.ok; repeat' (first | rfl | exact .inK (by simp only [InK]; omega) | exact .inK (by simp only [InK]; simp at hg; omega) | exact .wr | constructor | decide | omega)))); (try case hp => constructor))
    | refine dpickAnd rfl rfl rfl rfl rfl ?_ | refine dpickOr rfl rfl rfl rfl rfl ?_
    | fail)
    refine DW_loop (fun p : Nat × List Link => ⟨[(3, .own 3 0 0 p.2.length), (4, .dat true (.slice ((idsR n.bridges).map bytesR))), (29, .dat false (.slice (n.links.map linkV))), (30, .dat true (.int .i64 (n.links.map linkV).length)), (31, .dat true (.int .i64 p.1))],
        [(3, .row 0 false true 6 (p.2.map linkV))], 56⟩)
      (fun p => p.1 ≤ n.links.length ∧ p.2 = (n.links.take p.1).filter (liveB n.bridges)) (fun p => n.links.length - p.1) (0, []) ⟨Nat.zero_le _, rfl⟩
      (Wk_g (fun g => if g = 3 then none else some g) rfl rfl (by (repeat' (first | exact trivial | rfl | exact listLe_map _ | exact ⟨_, rfl, .inl rfl⟩ | exact ⟨_, rfl, .inr (.inl rfl)⟩ | exact ⟨_, rfl, .inr (.inr rfl)⟩ | refine ⟨_, _, rfl, rfl, ?_⟩ | exact ⟨_, rfl, rfl⟩ | exact ⟨_, _, _, _, rfl, rfl, rfl⟩ | exact ⟨_, rfl⟩ | exact ⟨_, _, rfl⟩ | apply And.intro)))) (fun p hR => ?_)
    obtain ⟨k2, us⟩ := p
    obtain ⟨hk2, hus⟩ := hR
    simp only at hk2 hus
    dsimp only
    have hul : us.length ≤ 40 := by
      rw [hus]
      have := live_le n k2
      omega
    by_cases hlt2 : k2 < n.links.length
    · have hx : n.links[(k2 : Int).toNat]? = some n.links[k2] := by simp [hlt2]
      have hl := h.lk n.links[k2] (List.getElem_mem hlt2)
      have hst := live_take (bs := n.bridges) (show n.links[k2]? = some n.links[k2] by simp [hlt2])
      rw [← hus] at hst
      generalize n.links[k2] = l at hx hl hst
      have ha0 := hl.a0
      have hb0 := hl.b0
      have hxa : (idsR n.bridges)[l.a.toNat]? = some ((idsR n.bridges)[l.a.toNat]'(by have := hl.a1; omega)) := List.getElem?_eq_getElem _
      have hxb : (idsR n.bridges)[l.b.toNat]? = some ((idsR n.bridges)[l.b.toNat]'(by have := hl.b1; omega)) := List.getElem?_eq_getElem _
      generalize (idsR n.bridges)[l.a.toNat]'(by have := hl.a1; omega) = ra at hxa
      generalize (idsR n.bridges)[l.b.toNat]'(by have := hl.b1; omega) = rb at hxb
      have hbe := ref1_SameG ra rb
      have hlv : liveB n.bridges l = (l.up && decide (ra = rb)) := by with_unfolding_all (unfold liveB; rw [hxa, hxb]; simp)
      rw [hlv] at hst
      obtain ⟨a, pa, b, pb, cost, up⟩ := l
      cases up with
      | false =>
        simp only [Bool.false_and, Bool.false_eq_true, if_false, List.append_nil] at hst
        repeat' (first
    | (apply Stp.go; case a => constructor)
    | refine blk_hit rfl ?_ | refine blk_miss rfl ?_ | refine dnilD (by kernel_rfl) ?_ | refine DW_cond_t rfl ?_ | refine DW_cond_f rfl ?_
    | refine DW_tD rfl (by omega) ?_ | refine DW_fD rfl (by omega) ?_
    | refine dpOff rfl rfl ?_
    | ((first | apply dX rfl | apply dXon rfl rfl | apply dpMay rfl rfl (by intro h; first | trivial | exact ⟨h, trivial⟩ | exact ⟨h, h, trivial⟩ | exact ⟨h, h, h, trivial⟩)); (case h => ((try intro hg); first | exact S_ixM rfl rfl (by omega) hx | exact S_al rfl | exact S_bx rfl rfl | exact S_store rfl rfl rfl rfl rfl rfl | (apply Pu.ok; repeat' (first | rfl | exact .inK (by simp only [InK]; omega) | exact .inK (by simp only [InK]; simp at hg; omega) | exact .wr | constructor | decide | omega)))); (try case hp => constructor))
    | refine dpickAnd rfl rfl rfl rfl rfl ?_ | refine dpickOr rfl rfl rfl rfl rfl ?_
    | fail)
        exact loop_again (k2 + 1, us) ⟨hlt2, hst.symm⟩ (by simp only; omega) (Wk_g some rfl rfl (by (repeat' (first | exact trivial | rfl | exact listLe_map _ | exact ⟨_, rfl, .inl rfl⟩ | exact ⟨_, rfl, .inr (.inl rfl)⟩ | exact ⟨_, rfl, .inr (.inr rfl)⟩ | refine ⟨_, _, rfl, rfl, ?_⟩ | exact ⟨_, rfl, rfl⟩ | exact ⟨_, _, _, _, rfl, rfl, rfl⟩ | exact ⟨_, rfl⟩ | exact ⟨_, _, rfl⟩ | apply And.intro))))
      | true =>
        by_cases hr : ra = rb
        · rw [decide_eq_true hr] at hst hbe
          simp only [Bool.true_and, if_true] at hst
          repeat' (first
    | (apply Stp.go; case a => constructor)
    | refine blk_hit rfl ?_ | refine blk_miss rfl ?_ | refine dnilD (by kernel_rfl) ?_ | refine DW_cond_t rfl ?_ | refine DW_cond_f rfl ?_
    | refine DW_tD rfl (by omega) ?_ | refine DW_fD rfl (by omega) ?_
    | refine dpOff rfl rfl ?_
    | ((first | apply dX rfl | apply dXon rfl rfl | apply dpMay rfl rfl (by intro h; first | trivial | exact ⟨h, trivial⟩ | exact ⟨h, h, trivial⟩ | exact ⟨h, h, h, trivial⟩)); (case h => ((try intro hg); first | exact S_ixM rfl rfl (by omega) hx | exact S_ixM (f := bytesR) rfl rfl ha0 hxa | exact S_ixM (f := bytesR) rfl rfl hb0 hxb | exact S_call hbe rfl | exact S_appM (f := linkV) (us := us) (bs := [(⟨a, pa, b, pb, cost, true⟩ : Link)]) rfl rfl (.dat _ _) rfl rfl (.inr ⟨rfl, inferInstance⟩) rfl (by simp only [List.length_singleton]; omega) | exact S_al rfl | exact S_bx rfl rfl | exact S_store rfl rfl rfl rfl rfl rfl | (apply Pu.ok; repeat' (first | rfl | exact .inK (by simp only [InK]; omega) | exact .inK (by simp only [InK]; simp at hg; omega) | exact .wr | constructor | decide | omega)))); (try case hp => constructor))
    | refine dpickAnd rfl rfl rfl rfl rfl ?_ | refine dpickOr rfl rfl rfl rfl rfl ?_
    | fail)
          exact loop_again (k2 + 1, us ++ [⟨a, pa, b, pb, cost, true⟩]) ⟨hlt2, hst.symm⟩ (by simp only; omega) (Wk_g some rfl rfl (by (repeat' (first | exact trivial | rfl | exact listLe_map _ | exact ⟨_, rfl, .inl rfl⟩ | exact ⟨_, rfl, .inr (.inl rfl)⟩ | exact ⟨_, rfl, .inr (.inr rfl)⟩ | refine ⟨_, _, rfl, rfl, ?_⟩ | exact ⟨_, rfl, rfl⟩ | exact ⟨_, _, _, _, rfl, rfl, rfl⟩ | exact ⟨_, rfl⟩ | exact ⟨_, _, rfl⟩ | apply And.intro))))
        · rw [decide_eq_false hr] at hst hbe
          simp only [Bool.true_and, Bool.false_eq_true, if_false, List.append_nil] at hst
          repeat' (first
    | (apply Stp.go; case a => constructor)
    | refine blk_hit rfl ?_ | refine blk_miss rfl ?_ | refine dnilD (by kernel_rfl) ?_ | refine DW_cond_t rfl ?_ | refine DW_cond_f rfl ?_
    | refine DW_tD rfl (by omega) ?_ | refine DW_fD rfl (by omega) ?_
    | refine dpOff rfl rfl ?_
    | ((first | apply dX rfl | apply dXon rfl rfl | apply dpMay rfl rfl (by intro h; first | trivial | exact ⟨h, trivial⟩ | exact ⟨h, h, trivial⟩ | exact ⟨h, h, h, trivial⟩)); (case h => ((try intro hg); first | exact S_ixM rfl rfl (by omega) hx | exact S_ixM (f := bytesR) rfl rfl ha0 hxa | exact S_ixM (f := bytesR) rfl rfl hb0 hxb | exact S_call hbe rfl | exact S_al rfl | exact S_bx rfl rfl | exact S_store rfl rfl rfl rfl rfl rfl | (apply Pu.ok; repeat' (first | rfl | exact .inK (by simp only [InK]; omega) | exact .inK (by simp only [InK]; simp at hg; omega) | exact .wr | constructor | decide | omega)))); (try case hp => constructor))
    | refine dpickAnd rfl rfl rfl rfl rfl ?_ | refine dpickOr rfl rfl rfl rfl rfl ?_
    | fail)
          exact loop_again (k2 + 1, us) ⟨hlt2, hst.symm⟩ (by simp only; omega) (Wk_g some rfl rfl (by (repeat' (first | exact trivial | rfl | exact listLe_map _ | exact ⟨_, rfl, .inl rfl⟩ | exact ⟨_, rfl, .inr (.inl rfl)⟩ | exact ⟨_, rfl, .inr (.inr rfl)⟩ | refine ⟨_, _, rfl, rfl, ?_⟩ | exact ⟨_, rfl, rfl⟩ | exact ⟨_, _, _, _, rfl, rfl, rfl⟩ | exact ⟨_, rfl⟩ | exact ⟨_, _, rfl⟩ | apply And.intro))))
    · have he : us = liveL n := by rw [hus, List.take_of_length_le (by omega)]; rfl
      refine DW_seal 3 rfl rfl (by simp) ?_
      repeat' (first
    | (apply Stp.go; case a => constructor)
    | refine blk_hit rfl ?_ | refine blk_miss rfl ?_ | refine dnilD (by kernel_rfl) ?_ | refine DW_cond_t rfl ?_ | refine DW_cond_f rfl ?_
    | refine DW_tD rfl (by omega) ?_ | refine DW_fD rfl (by omega) ?_
    | refine dpOff rfl rfl ?_
    | ((first | apply dX rfl | apply dXon rfl rfl | apply dpMay rfl rfl (by intro h; first | trivial | exact ⟨h, trivial⟩ | exact ⟨h, h, trivial⟩ | exact ⟨h, h, h, trivial⟩)); (case h => ((try intro hg); first | exact S_al rfl | exact S_bx rfl rfl | exact S_store rfl rfl rfl rfl rfl rfl | (apply Pu.ok; repeat' (first | rfl | exact .inK (by simp only [InK]; omega) | exact .inK (by simp only [InK]; simp at hg; omega) | exact .wr | constructor | decide | omega)))); (try case hp => constructor))
    | refine dpickAnd rfl rfl rfl rfl rfl ?_ | refine dpickOr rfl rfl rfl rfl rfl ?_
    | fail)
      refine ret1 rfl (by first | exact .inl rfl | exact .inr (flat_of rfl)) ?_
      rw [← he]
def Place.role (p : Place) (port : Int) : Int := ((p.ports.zip p.roles).find? (fun x => decide (x.1 = port))).elim 0 (·.2)
theorem role_map {v : Vec} {r : Int} {ps : List Int} {f : Int → Int} (p : Int) : (Place.mk v r ps (ps.map f)).role p = if p ∈ ps then f p else 0 := by
  unfold Place.role
  simp only
  induction ps with
  | nil => simp
  | cons q l ih =>
    rw [List.map_cons, List.zip_cons_cons, List.find?_cons]
    by_cases h : q = p
    · simp [h]
    · have h' : ¬ p = q := fun e => h e.symm
      simp only [decide_eq_false h, List.mem_cons, h', false_or]
      exact ih
set_option maxHeartbeats 1000000 in
theorem law6_role (p : Place) (port : Int) (hl : p.roles.length = p.ports.length) : FnF Try.prog 21 [.agg p.cells, .int .i64 port] (.int .i64 (p.role port)) := by
  refine fnF_of Try.func21 rfl rfl rfl ?_
  obtain ⟨v, r, ps, rs⟩ := p
  simp only at hl
  simp only [envOf, Place.cells, Vec.cells, List.cons_append, List.nil_append]
  have hml : (ps.map intV1).length = ps.length := by simp
  repeat' (first
    | (apply Stp.go; case a => constructor)
    | refine blk_hit rfl ?_ | refine blk_miss rfl ?_ | refine dnilD (by kernel_rfl) ?_ | refine DW_cond_t rfl ?_ | refine DW_cond_f rfl ?_
    | refine dpOff rfl rfl ?_
    | ((first | apply dX rfl | apply dXon rfl rfl | apply dpMay rfl rfl (by intro h; first | trivial | exact ⟨h, trivial⟩ | exact ⟨h, h, trivial⟩ | exact ⟨h, h, h, trivial⟩)); (case h => ((try intro hg); first | exact S_al rfl | exact S_bx rfl rfl | exact S_store rfl rfl rfl rfl rfl rfl | (apply Pu.ok; repeat' (first | rfl | exact .inK (by simp only [InK]; omega) | exact .inK (by simp only [InK]; simp at hg; omega) | exact .wr | constructor | decide | omega)))); (try case hp => constructor))
    | refine dpickAnd rfl rfl rfl rfl rfl ?_ | refine dpickOr rfl rfl rfl rfl rfl ?_
    | fail)
  refine DW_len 8 rfl (fun hlen => ?_)
  refine DW_loop (fun k : Nat => ⟨[(1, .dat false (.int .i64 port)), (2, .ptr 2 0), (8, .dat false (.slice (ps.map intV1))), (9, .dat true (.int .i64 (ps.map intV1).length)), (10, .dat true (.int .i64 k))],
      [(2, .cells false true ((Place.mk v r ps rs).cells.map (.dat false)))], 24⟩)
    (fun k => k ≤ ps.length ∧ (Place.mk v r ps rs).role port = (Place.mk v r (ps.drop k) (rs.drop k)).role port) (fun k => ps.length - k) 0 ⟨Nat.zero_le _, rfl⟩
    (Wk_g some rfl rfl (by (repeat' (first | exact trivial | rfl | exact listLe_map _ | exact ⟨_, rfl, .inl rfl⟩ | exact ⟨_, rfl, .inr (.inl rfl)⟩ | exact ⟨_, rfl, .inr (.inr rfl)⟩ | refine ⟨_, _, rfl, rfl, ?_⟩ | exact ⟨_, rfl, rfl⟩ | exact ⟨_, _, _, _, rfl, rfl, rfl⟩ | exact ⟨_, rfl⟩ | exact ⟨_, _, rfl⟩ | apply And.intro)))) (fun k hR => ?_)
  obtain ⟨hk, hro⟩ := hR
  by_cases hlt : k < ps.length
  · have hx : ps[(k : Int).toNat]? = some ps[k] := by simp [hlt]
    have hy : rs[(k : Int).toNat]? = some (rs[k]'(by omega)) := by simp [show k < rs.length by omega]
    rw [List.drop_eq_getElem_cons hlt, List.drop_eq_getElem_cons (show k < rs.length by omega)] at hro
    generalize ps[k] = q at hx hro
    generalize rs[k]'(by omega) = s at hy hro
    unfold Place.role at hro
    simp only [List.zip_cons_cons, List.find?_cons] at hro
    by_cases hq : q = port
    · rw [decide_eq_true hq] at hro
      repeat' (first
    | (apply Stp.go; case a => constructor)
    | refine blk_hit rfl ?_ | refine blk_miss rfl ?_ | refine dnilD (by kernel_rfl) ?_ | refine DW_cond_t rfl ?_ | refine DW_cond_f rfl ?_
    | refine DW_tD rfl (by omega) ?_ | refine DW_fD rfl (by omega) ?_
    | refine dpOff rfl rfl ?_
    | ((first | apply dX rfl | apply dXon rfl rfl | apply dpMay rfl rfl (by intro h; first | trivial | exact ⟨h, trivial⟩ | exact ⟨h, h, trivial⟩ | exact ⟨h, h, h, trivial⟩)); (case h => ((try intro hg); first | exact S_ixM rfl rfl (by omega) hx | exact S_ixM rfl rfl (by omega) hy | exact S_al rfl | exact S_bx rfl rfl | exact S_store rfl rfl rfl rfl rfl rfl | (apply Pu.ok; repeat' (first | rfl | exact .inK (by simp only [InK]; omega) | exact .inK (by simp only [InK]; simp at hg; omega) | exact .wr | constructor | decide | omega)))); (try case hp => constructor))
    | refine dpickAnd rfl rfl rfl rfl rfl ?_ | refine dpickOr rfl rfl rfl rfl rfl ?_
    | fail)
      refine ret1 rfl (by first | exact .inl rfl | exact .inr (flat_of rfl)) ?_
      unfold Place.role
      simp only
      rw [hro]; rfl
    · rw [decide_eq_false hq] at hro
      repeat' (first
    | (apply Stp.go; case a => constructor)
    | refine blk_hit rfl ?_ | refine blk_miss rfl ?_ | refine dnilD (by kernel_rfl) ?_ | refine DW_cond_t rfl ?_ | refine DW_cond_f rfl ?_
    | refine DW_tD rfl (by omega) ?_ | refine DW_fD rfl (by omega) ?_
    | refine dpOff rfl rfl ?_
    | ((first | apply dX rfl | apply dXon rfl rfl | apply dpMay rfl rfl (by intro h; first | trivial | exact ⟨h, trivial⟩ | exact ⟨h, h, trivial⟩ | exact ⟨h, h, h, trivial⟩)); (case h => ((try intro hg); first | exact S_ixM rfl rfl (by omega) hx | exact S_al rfl | exact S_bx rfl rfl | exact S_store rfl rfl rfl rfl rfl rfl | (apply Pu.ok; repeat' (first | rfl | exact .inK (by simp only [InK]; omega) | exact .inK (by simp only [InK]; simp at hg; omega) | exact .wr | constructor | decide | omega)))); (try case hp => constructor))
    | refine dpickAnd rfl rfl rfl rfl rfl ?_ | refine dpickOr rfl rfl rfl rfl rfl ?_
    | fail)
      exact loop_again (k + 1) ⟨hlt, hro⟩ (by omega) (Wk_g some rfl rfl (by (repeat' (first | exact trivial | rfl | exact listLe_map _ | exact ⟨_, rfl, .inl rfl⟩ | exact ⟨_, rfl, .inr (.inl rfl)⟩ | exact ⟨_, rfl, .inr (.inr rfl)⟩ | refine ⟨_, _, rfl, rfl, ?_⟩ | exact ⟨_, rfl, rfl⟩ | exact ⟨_, _, _, _, rfl, rfl, rfl⟩ | exact ⟨_, rfl⟩ | exact ⟨_, _, rfl⟩ | apply And.intro))))
  · rw [List.drop_eq_nil_of_le (by omega)] at hro
    repeat' (first
    | (apply Stp.go; case a => constructor)
    | refine blk_hit rfl ?_ | refine blk_miss rfl ?_ | refine dnilD (by kernel_rfl) ?_ | refine DW_cond_t rfl ?_ | refine DW_cond_f rfl ?_
    | refine DW_tD rfl (by omega) ?_ | refine DW_fD rfl (by omega) ?_
    | refine dpOff rfl rfl ?_
    | ((first | apply dX rfl | apply dXon rfl rfl | apply dpMay rfl rfl (by intro h; first | trivial | exact ⟨h, trivial⟩ | exact ⟨h, h, trivial⟩ | exact ⟨h, h, h, trivial⟩)); (case h => ((try intro hg); first | exact S_al rfl | exact S_bx rfl rfl | exact S_store rfl rfl rfl rfl rfl rfl | (apply Pu.ok; repeat' (first | rfl | exact .inK (by simp only [InK]; omega) | exact .inK (by simp only [InK]; simp at hg; omega) | exact .wr | constructor | decide | omega)))); (try case hp => constructor))
    | refine dpickAnd rfl rfl rfl rfl rfl ?_ | refine dpickOr rfl rfl rfl rfl rfl ?_
    | fail)
    refine ret1 rfl (by first | exact .inl rfl | exact .inr (flat_of rfl)) ?_
    rw [hro]; rfl
theorem law6_forwards (r : Int) : FnF Try.prog 22 [.int .i64 r] (.bool (decide (r = 1) || decide (r = 2))) := by
  refine fnF_of Try.func22 rfl rfl rfl ?_
  simp only [envOf]
  repeat' (first
    | (apply Stp.go; case a => constructor)
    | refine blk_hit rfl ?_ | refine blk_miss rfl ?_ | refine dnilD (by kernel_rfl) ?_ | refine DW_cond_t rfl ?_ | refine DW_cond_f rfl ?_
    | refine dpOff rfl rfl ?_
    | ((first | apply dX rfl | apply dXon rfl rfl | apply dpMay rfl rfl (by intro h; first | trivial | exact ⟨h, trivial⟩ | exact ⟨h, h, trivial⟩ | exact ⟨h, h, h, trivial⟩)); (case h => ((try intro hg); first | exact S_al rfl | exact S_bx rfl rfl | exact S_store rfl rfl rfl rfl rfl rfl | (apply Pu.ok; repeat' (first | rfl | exact .inK (by simp only [InK]; omega) | exact .inK (by simp only [InK]; simp at hg; omega) | exact .wr | constructor | decide | omega)))); (try case hp => constructor))
    | refine dpickAnd rfl rfl rfl rfl rfl ?_ | refine dpickOr rfl rfl rfl rfl rfl ?_
    | fail)
  refine ret1 rfl (by first | exact .inl rfl | exact .inr (flat_of rfl)) ?_
  rfl
theorem law6_two : FnF Try.prog 47 [] net2.v := by
  refine fnF_of Try.func47 rfl rfl rfl ?_
  simp only [envOf]
  repeat' (first
    | (apply Stp.go; case a => constructor)
    | refine blk_hit rfl ?_ | refine blk_miss rfl ?_ | refine dnilD (by kernel_rfl) ?_ | refine DW_cond_t rfl ?_ | refine DW_cond_f rfl ?_
    | refine dpOff rfl rfl ?_
    | ((first | apply dX rfl | apply dXon rfl rfl | apply dpMay rfl rfl (by intro h; first | trivial | exact ⟨h, trivial⟩ | exact ⟨h, h, trivial⟩ | exact ⟨h, h, h, trivial⟩)); (case h => ((try intro hg); first | exact S_al rfl | exact S_bx rfl rfl | exact S_store rfl rfl rfl rfl rfl rfl | (apply Pu.ok; repeat' (first | rfl | exact .inK (by simp only [InK]; omega) | exact .inK (by simp only [InK]; simp at hg; omega) | exact .wr | constructor | decide | omega)))); (try case hp => constructor))
    | refine dpickAnd rfl rfl rfl rfl rfl ?_ | refine dpickOr rfl rfl rfl rfl rfl ?_
    | fail)
  refine retN (.cellA inferInstance rfl rfl rfl rfl (.inl rfl) .nil) ?_
  rfl
set_option maxHeartbeats 1000000 in
theorem law6_alive : FnF Try.prog 19 [] (.bool true) := by
  refine fnF_of Try.func19 rfl rfl rfl ?_
  simp only [envOf]
  have hp := plan_Plan net2 net2_typed 0
  rw [net2_planA, net2_plan] at hp
  repeat' (first
    | (apply Stp.go; case a => constructor)
    | refine blk_hit rfl ?_ | refine blk_miss rfl ?_ | refine dnilD (by kernel_rfl) ?_ | refine DW_cond_t rfl ?_ | refine DW_cond_f rfl ?_
    | refine dpOff rfl rfl ?_
    | ((first | apply dX rfl | apply dXon rfl rfl | apply dpMay rfl rfl (by intro h; first | trivial | exact ⟨h, trivial⟩ | exact ⟨h, h, trivial⟩ | exact ⟨h, h, h, trivial⟩)); (case h => ((try intro hg); first | exact S_call law6_two rfl | exact S_call hp rfl | exact S_al rfl | exact S_bx rfl rfl | exact S_store rfl rfl rfl rfl rfl rfl | (apply Pu.ok; repeat' (first | rfl | exact .inK (by simp only [InK]; omega) | exact .inK (by simp only [InK]; simp at hg; omega) | exact .wr | constructor | decide | omega)))); (try case hp => constructor))
    | refine dpickAnd rfl rfl rfl rfl rfl ?_ | refine dpickOr rfl rfl rfl rfl rfl ?_
    | fail)
  refine ret1 rfl (by first | exact .inl rfl | exact .inr (flat_of rfl)) ?_
  rfl
end Go.Proofs.Ytkppkgahdoglpaa
