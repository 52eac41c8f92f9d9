/- Contracts: the document's Live; the plan laws' role, forwards, alive. -/
import Derived.Test.YtkppkgahdoglpaatcPlO
import Derived.Test.YtkppkgahdoglpaatdPlN
namespace Go.Proofs.Ytkppkgahdoglpaa
open Go.RowKit
attribute [local irreducible] SStep DW DWin DOps thenQ inBlk loopQ retQ retQG FnF FnG FnI Wk IntKind.wrap IntKind.andI IntKind.orI IntKind.xorI IntKind.andNotI IntKind.shlI IntKind.shrI Net.wrong Bridge.id Bridge.prio identR idsR liveB planA mix
set_option maxHeartbeats 4000000 in
theorem ref6_Live (n : Net) (h : n.good) : FnF Try.prog 20 [n.v] (.slice ((liveL n).map linkV)) := by
  refine fnF_of Try.func20 rfl rfl rfl ?_
  simp only [envOf]
  have hmb : (n.bridges.map bridgeV).length = n.bridges.length := by simp
  have hml : (n.links.map linkV).length = n.links.length := by simp
  have hnb := h.nb
  have hnl := h.nl
  obtain ⟨nb, hnbe⟩ : ∃ nb, nb = n.bridges.length := ⟨_, rfl⟩
  rw [← hnbe] at hnb hmb
  repeat' (first
    | (apply dt rfl; case h => exact S_mkM (f := bytesR) (l := nb) (c := nb) [] _ rfl rfl (by rw [hmb]) (by rw [hmb]) (Nat.le_refl _) (by omega) rfl rfl)
    | (apply Stp.go; case a => constructor)
    | refine blk_hit rfl ?_ | refine blk_miss rfl ?_ | refine dnilD (by kernel_rfl) ?_ | refine DW_cond_t rfl ?_ | refine DW_cond_f rfl ?_
    | refine dpOff rfl rfl ?_
    | ((first | apply dX rfl | apply dXon rfl rfl | apply dpMay rfl rfl (by intro h; first | trivial | exact ⟨h, trivial⟩ | exact ⟨h, h, trivial⟩ | exact ⟨h, h, h, trivial⟩)); (case h => ((try intro hg); first | exact S_al rfl | exact S_bx rfl rfl | exact S_store rfl rfl rfl rfl rfl rfl | (apply Pu.ok; repeat' (first | rfl | exact .inK (by simp only [InK]; omega) | exact .inK (by simp only [InK]; simp at hg; omega) | exact .wr | constructor | decide | omega)))); (try case hp => constructor))
    | refine dpickAnd rfl rfl rfl rfl rfl ?_ | refine dpickOr rfl rfl rfl rfl rfl ?_
    | fail)
  have hil : (idsR n.bridges).length = (List.replicate nb ([] : List UInt8)).length := by unfold idsR; simp [hnbe]
  refine DW_loop (fun k : Nat => ⟨[(1, .ptr 1 0), (3, .nil), (4, .own 12 0 0 nb), (14, .dat false (.slice (n.bridges.map bridgeV))), (15, .dat true (.int .i64 (n.bridges.map bridgeV).length)), (16, .dat true (.int .i64 k))],
      [(1, .cells false true (n.cells.map (.dat false))), (12, .row 0 false true 1 ((mix (idsR n.bridges) (List.replicate nb []) k).map bytesR))], 56⟩)
    (fun k => k ≤ nb) (fun k => nb - k) 0 (Nat.zero_le _)
    (by rw [mix_zero]; exact Wk_g some rfl rfl (by (repeat' (first | exact trivial | rfl | exact listLe_map _ | exact ⟨_, rfl, .inl rfl⟩ | exact ⟨_, rfl, .inr (.inl rfl)⟩ | exact ⟨_, rfl, .inr (.inr rfl)⟩ | refine ⟨_, _, rfl, rfl, ?_⟩ | exact ⟨_, rfl, rfl⟩ | exact ⟨_, _, _, _, rfl, rfl, rfl⟩ | exact ⟨_, rfl⟩ | exact ⟨_, _, rfl⟩ | apply And.intro)))) (fun k hk => ?_)
  by_cases hlt : k < nb
  · have hx : n.bridges[(k : Int).toNat]? = some (n.bridges[k]'(by omega)) := by simp [show k < n.bridges.length by omega]
    have hbo := h.br (n.bridges[k]'(by omega)) (List.getElem_mem _)
    have hs0 : (idsR n.bridges)[k]? = some (identR (n.bridges[k]'(by omega)).region) := by unfold idsR; simp [show k < n.bridges.length by omega]
    generalize n.bridges[k]'(by omega) = b at hx hbo hs0
    have hid := ref3_Ident b.region hbo.r
    have hset := mix_set hil hs0
    have hu : (mix (idsR n.bridges) (List.replicate nb []) k)[(k : Int).toNat]? = some [] := by rw [Int.toNat_natCast, mix_get hil]; simp [hlt]
    repeat' (first
    | (apply Stp.go; case a => constructor)
    | refine blk_hit rfl ?_ | refine blk_miss rfl ?_ | refine dnilD (by kernel_rfl) ?_ | refine DW_cond_t rfl ?_ | refine DW_cond_f rfl ?_
    | refine DW_tD rfl (by omega) ?_ | refine DW_fD rfl (by omega) ?_
    | refine dpOff rfl rfl ?_
    | ((first | apply dX rfl | apply dXon rfl rfl | apply dpMay rfl rfl (by intro h; first | trivial | exact ⟨h, trivial⟩ | exact ⟨h, h, trivial⟩ | exact ⟨h, h, h, trivial⟩)); (case h => ((try intro hg); first | exact S_ixM rfl rfl (by omega) hx | exact S_call hid rfl | exact S_ixO rfl rfl rfl (by omega) (by omega) | exact S_storeM (f := bytesR) (a := identR b.region) rfl rfl hu rfl rfl (.inl rfl) rfl rfl | exact S_al rfl | exact S_bx rfl rfl | exact S_store rfl rfl rfl rfl rfl rfl | (apply Pu.ok; repeat' (first | rfl | exact .inK (by simp only [InK]; omega) | exact .inK (by simp only [InK]; simp at hg; omega) | exact .wr | constructor | decide | omega)))); (try case hp => constructor))
    | refine dpickAnd rfl rfl rfl rfl rfl ?_ | refine dpickOr rfl rfl rfl rfl rfl ?_
    | fail)
    refine loop_again (k + 1) hlt (by omega) ?_
    rw [← hset]
    exact (Wk_g some rfl rfl (by (repeat' (first | exact trivial | rfl | exact listLe_map _ | exact ⟨_, rfl, .inl rfl⟩ | exact ⟨_, rfl, .inr (.inl rfl)⟩ | exact ⟨_, rfl, .inr (.inr rfl)⟩ | refine ⟨_, _, rfl, rfl, ?_⟩ | exact ⟨_, rfl, rfl⟩ | exact ⟨_, _, _, _, rfl, rfl, rfl⟩ | exact ⟨_, rfl⟩ | exact ⟨_, _, rfl⟩ | apply And.intro))))
  · rw [mix_all hil (by simp; omega)]
    have hil2 : (idsR n.bridges).length = nb := by rw [hil]; simp
    refine DW_seal 4 rfl rfl (by rw [List.length_map, hil2]) ?_
    repeat' (first
    | (apply Stp.go; case a => constructor)
    | refine blk_hit rfl ?_ | refine blk_miss rfl ?_ | refine dnilD (by kernel_rfl) ?_ | refine DW_cond_t rfl ?_ | refine DW_cond_f rfl ?_
    | refine DW_tD rfl (by omega) ?_ | refine DW_fD rfl (by omega) ?_
    | refine dpOff rfl rfl ?_
    | ((first | apply dX rfl | apply dXon rfl rfl | apply dpMay rfl rfl (by intro h; first | trivial | exact ⟨h, trivial⟩ | exact ⟨h, h, trivial⟩ | exact ⟨h, h, h, trivial⟩)); (case h => ((try intro hg); first | exact S_al rfl | exact S_bx rfl rfl | exact S_store rfl rfl rfl rfl rfl rfl | (apply Pu.ok; repeat' (first | rfl | exact .inK (by simp only [InK]; omega) | exact .inK (by simp only [InK]; simp at hg; omega) | exact .wr | constructor | decide | omega)))); (try case hp => constructor))
    | refine dpickAnd rfl rfl rfl rfl rfl ?_ | refine dpickOr rfl rfl rfl rfl rfl ?_
    | fail)
    refine DW_loop (fun p : Nat × List Link => ⟨[(3, .own 3 0 0 p.2.length), (4, .dat true (.slice ((idsR n.bridges).map bytesR))), (29, .dat false (.slice (n.links.map linkV))), (30, .dat true (.int .i64 (n.links.map linkV).length)), (31, .dat true (.int .i64 p.1))],
        [(3, .row 0 false true 6 (p.2.map linkV))], 56⟩)
      (fun p => p.1 ≤ n.links.length ∧ p.2 = (n.links.take p.1).filter (liveB n.bridges)) (fun p => n.links.length - p.1) (0, []) ⟨Nat.zero_le _, rfl⟩
      (Wk_g (fun g => if g = 3 then none else some g) rfl rfl (by (repeat' (first | exact trivial | rfl | exact listLe_map _ | exact ⟨_, rfl, .inl rfl⟩ | exact ⟨_, rfl, .inr (.inl rfl)⟩ | exact ⟨_, rfl, .inr (.inr rfl)⟩ | refine ⟨_, _, rfl, rfl, ?_⟩ | exact ⟨_, rfl, rfl⟩ | exact ⟨_, _, _, _, rfl, rfl, rfl⟩ | exact ⟨_, rfl⟩ | exact ⟨_, _, rfl⟩ | apply And.intro)))) (fun p hR => ?_)
    obtain ⟨k2, us⟩ := p
    obtain ⟨hk2, hus⟩ := hR
    simp only at hk2 hus
    dsimp only
    have hul : us.length ≤ 40 := by
      rw [hus]
      have := live_le n k2
      omega
    by_cases hlt2 : k2 < n.links.length
    · have hx : n.links[(k2 : Int).toNat]? = some n.links[k2] := by simp [hlt2]
      have hl := h.lk n.links[k2] (List.getElem_mem hlt2)
      have hst := live_take (bs := n.bridges) (show n.links[k2]? = some n.links[k2] by simp [hlt2])
      rw [← hus] at hst
      generalize n.links[k2] = l at hx hl hst
      have ha0 := hl.a0
      have hb0 := hl.b0
      have hxa : (idsR n.bridges)[l.a.toNat]? = some ((idsR n.bridges)[l.a.toNat]'(by have := hl.a1; omega)) := List.getElem?_eq_getElem _
      have hxb : (idsR n.bridges)[l.b.toNat]? = some ((idsR n.bridges)[l.b.toNat]'(by have := hl.b1; omega)) := List.getElem?_eq_getElem _
      generalize (idsR n.bridges)[l.a.toNat]'(by have := hl.a1; omega) = ra at hxa
      generalize (idsR n.bridges)[l.b.toNat]'(by have := hl.b1; omega) = rb at hxb
      have hbe := ref1_SameG ra rb
      have hlv : liveB n.bridges l = (l.up && decide (ra = rb)) := by with_unfolding_all (unfold liveB; rw [hxa, hxb]; simp)
      rw [hlv] at hst
      obtain ⟨a, pa, b, pb, cost, up⟩ := l
      cases up with
      | false =>
        simp only [Bool.false_and, Bool.false_eq_true, if_false, List.append_nil] at hst
        repeat' (first
    | (apply Stp.go; case a => constructor)
    | refine blk_hit rfl ?_ | refine blk_miss rfl ?_ | refine dnilD (by kernel_rfl) ?_ | refine DW_cond_t rfl ?_ | refine DW_cond_f rfl ?_
    | refine DW_tD rfl (by omega) ?_ | refine DW_fD rfl (by omega) ?_
    | refine dpOff rfl rfl ?_
    | ((first | apply dX rfl | apply dXon rfl rfl | apply dpMay rfl rfl (by intro h; first | trivial | exact ⟨h, trivial⟩ | exact ⟨h, h, trivial⟩ | exact ⟨h, h, h, trivial⟩)); (case h => ((try intro hg); first | exact S_ixM rfl rfl (by omega) hx | exact S_al rfl | exact S_bx rfl rfl | exact S_store rfl rfl rfl rfl rfl rfl | (apply Pu.ok; repeat' (first | rfl | exact .inK (by simp only [InK]; omega) | exact .inK (by simp only [InK]; simp at hg; omega) | exact .wr | constructor | decide | omega)))); (try case hp => constructor))
    | refine dpickAnd rfl rfl rfl rfl rfl ?_ | refine dpickOr rfl rfl rfl rfl rfl ?_
    | fail)
        exact loop_again (k2 + 1, us) ⟨hlt2, hst.symm⟩ (by simp only; omega) (Wk_g some rfl rfl (by (repeat' (first | exact trivial | rfl | exact listLe_map _ | exact ⟨_, rfl, .inl rfl⟩ | exact ⟨_, rfl, .inr (.inl rfl)⟩ | exact ⟨_, rfl, .inr (.inr rfl)⟩ | refine ⟨_, _, rfl, rfl, ?_⟩ | exact ⟨_, rfl, rfl⟩ | exact ⟨_, _, _, _, rfl, rfl, rfl⟩ | exact ⟨_, rfl⟩ | exact ⟨_, _, rfl⟩ | apply And.intro))))
      | true =>
        by_cases hr : ra = rb
        · rw [decide_eq_true hr] at hst hbe
          simp only [Bool.true_and, if_true] at hst
          repeat' (first
    | (apply Stp.go; case a => constructor)
    | refine blk_hit rfl ?_ | refine blk_miss rfl ?_ | refine dnilD (by kernel_rfl) ?_ | refine DW_cond_t rfl ?_ | refine DW_cond_f rfl ?_
    | refine DW_tD rfl (by omega) ?_ | refine DW_fD rfl (by omega) ?_
    | refine dpOff rfl rfl ?_
    | ((first | apply dX rfl | apply dXon rfl rfl | apply dpMay rfl rfl (by intro h; first | trivial | exact ⟨h, trivial⟩ | exact ⟨h, h, trivial⟩ | exact ⟨h, h, h, trivial⟩)); (case h => ((try intro hg); first | exact S_ixM rfl rfl (by omega) hx | exact S_ixM (f := bytesR) rfl rfl ha0 hxa | exact S_ixM (f := bytesR) rfl rfl hb0 hxb | exact S_call hbe rfl | exact S_appM (f := linkV) (us := us) (bs := [(⟨a, pa, b, pb, cost, true⟩ : Link)]) rfl rfl (.dat _ _) rfl rfl (.inr ⟨rfl, inferInstance⟩) rfl (by simp only [List.length_singleton]; omega) | exact S_al rfl | exact S_bx rfl rfl | exact S_store rfl rfl rfl rfl rfl rfl | (apply Pu.ok; repeat' (first | rfl | exact .inK (by simp only [InK]; omega) | exact .inK (by simp only [InK]; simp at hg; omega) | exact .wr | constructor | decide | omega)))); (try case hp => constructor))
    | refine dpickAnd rfl rfl rfl rfl rfl ?_ | refine dpickOr rfl rfl rfl rfl rfl ?_
    | fail)
          exact loop_again (k2 + 1, us ++ [⟨a, pa, b, pb, cost, true⟩]) ⟨hlt2, hst.symm⟩ (by simp only; omega) (Wk_g some rfl rfl (by (repeat' (first | exact trivial | rfl | exact listLe_map _ | exact ⟨_, rfl, .inl rfl⟩ | exact ⟨_, rfl, .inr (.inl rfl)⟩ | exact ⟨_, rfl, .inr (.inr rfl)⟩ | refine ⟨_, _, rfl, rfl, ?_⟩ | exact ⟨_, rfl, rfl⟩ | exact ⟨_, _, _, _, rfl, rfl, rfl⟩ | exact ⟨_, rfl⟩ | exact ⟨_, _, rfl⟩ | apply And.intro))))
        · rw [decide_eq_false hr] at hst hbe
          simp only [Bool.true_and, Bool.false_eq_true, if_false, List.append_nil] at hst
          repeat' (first
    | (apply Stp.go; case a => constructor)
    | refine blk_hit rfl ?_ | refine blk_miss rfl ?_ | refine dnilD (by kernel_rfl) ?_ | refine DW_cond_t rfl ?_ | refine DW_cond_f rfl ?_
    | refine DW_tD rfl (by omega) ?_ | refine DW_fD rfl (by omega) ?_
    | refine dpOff rfl rfl ?_
    | ((first | apply dX rfl | apply dXon rfl rfl | apply dpMay rfl rfl (by intro h; first | trivial | exact ⟨h, trivial⟩ | exact ⟨h, h, trivial⟩ | exact ⟨h, h, h, trivial⟩)); (case h => ((try intro hg); first | exact S_ixM rfl rfl (by omega) hx | exact S_ixM (f := bytesR) rfl rfl ha0 hxa | exact S_ixM (f := bytesR) rfl rfl hb0 hxb | exact S_call hbe rfl | exact S_al rfl | exact S_bx rfl rfl | exact S_store rfl rfl rfl rfl rfl rfl | (apply Pu.ok; repeat' (first | rfl | exact .inK (by simp only [InK]; omega) | exact .inK (by simp only [InK]; simp at hg; omega) | exact .wr | constructor | decide | omega)))); (try case hp => constructor))
    | refine dpickAnd rfl rfl rfl rfl rfl ?_ | refine dpickOr rfl rfl rfl rfl rfl ?_
    | fail)
          exact loop_again (k2 + 1, us) ⟨hlt2, hst.symm⟩ (by simp only; omega) (Wk_g some rfl rfl (by (repeat' (first | exact trivial | rfl | exact listLe_map _ | exact ⟨_, rfl, .inl rfl⟩ | exact ⟨_, rfl, .inr (.inl rfl)⟩ | exact ⟨_, rfl, .inr (.inr rfl)⟩ | refine ⟨_, _, rfl, rfl, ?_⟩ | exact ⟨_, rfl, rfl⟩ | exact ⟨_, _, _, _, rfl, rfl, rfl⟩ | exact ⟨_, rfl⟩ | exact ⟨_, _, rfl⟩ | apply And.intro))))
    · have he : us = liveL n := by rw [hus, List.take_of_length_le (by omega)]; rfl
      refine DW_seal 3 rfl rfl (by simp) ?_
      repeat' (first
    | (apply Stp.go; case a => constructor)
    | refine blk_hit rfl ?_ | refine blk_miss rfl ?_ | refine dnilD (by kernel_rfl) ?_ | refine DW_cond_t rfl ?_ | refine DW_cond_f rfl ?_
    | refine DW_tD rfl (by omega) ?_ | refine DW_fD rfl (by omega) ?_
    | refine dpOff rfl rfl ?_
    | ((first | apply dX rfl | apply dXon rfl rfl | apply dpMay rfl rfl (by intro h; first | trivial | exact ⟨h, trivial⟩ | exact ⟨h, h, trivial⟩ | exact ⟨h, h, h, trivial⟩)); (case h => ((try intro hg); first | exact S_al rfl | exact S_bx rfl rfl | exact S_store rfl rfl rfl rfl rfl rfl | (apply Pu.ok; repeat' (first | rfl | exact .inK (by simp only [InK]; omega) | exact .inK (by simp only [InK]; simp at hg; omega) | exact .wr | constructor | decide | omega)))); (try case hp => constructor))
    | refine dpickAnd rfl rfl rfl rfl rfl ?_ | refine dpickOr rfl rfl rfl rfl rfl ?_
    | fail)
      refine ret1 rfl (by first | exact .inl rfl | exact .inr (flat_of rfl)) ?_
      rw [← he]
end Go.Proofs.Ytkppkgahdoglpaa
