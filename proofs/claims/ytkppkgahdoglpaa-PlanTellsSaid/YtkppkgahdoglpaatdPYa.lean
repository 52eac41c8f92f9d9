/- Contract: the document's Plan, of a net in which nothing is wrong (the walk). -/
import Derived.Test.YtkppkgahdoglpaatdPYb
namespace Go.Proofs.Ytkppkgahdoglpaa
open Go.RowKit
attribute [local irreducible] SStep DW DWin DOps thenQ inBlk loopQ retQ retQG FnF FnG FnI Wk IntKind.wrap IntKind.andI IntKind.orI IntKind.xorI IntKind.andNotI IntKind.shlI IntKind.shrI Net.wrong Bridge.id Bridge.prio identR sortE sortI rawE rawP idsR liveB roleOf rolesP endsOf portsOf saysN chooseS offersOf mix liveL relaxG relaxF roundsG roundsF lowG sF pF rangeI saysI saysF far0 farN labN offersU
set_option maxRecDepth 10000 in
set_option maxHeartbeats 8000000 in
theorem ref6_PlanW (n : Net) (h : n.good) (tree : Nat) (ht : tree ≤ 15) (hwr : FnF Try.prog 13 [n.v] (faultV (0, 0))) (hlv : FnF Try.prog 20 [n.v] (.slice ((liveL n).map linkV)))
    (hpo : ∀ b : Nat, FnF Try.prog 44 [n.v, .int .i64 b] (.slice ((portsOf n.links b).map intV1)))
    (hro : ∀ (b : Nat) (says : Vec) (root : Int) (l : List Offer), FnF Try.prog 45 [n.v, .slice ((liveL n).map linkV), .int .i64 b, says.v, .int .i64 root, offers l] (.slice (((portsOf n.links b).map (fun p => if (liveL n).any (hitL b p) then roleOf says root p l else 0)).map intV1))) :
    FnF Try.prog 15 [n.v, .int .i64 tree] (.tuple [.slice ((planF n tree).map Place.cells), faultV (0, 0)]) := by
  refine fnF_of Try.func15 rfl rfl rfl ?_
  simp only [envOf]
  have hmb : (n.bridges.map bridgeV).length = n.bridges.length := by simp
  have hnb := h.nb
  obtain ⟨ls, hls⟩ : ∃ ls, ls = liveL n := ⟨_, rfl⟩
  have hlk : ∀ l ∈ ls, l.ok n.bridges.length := fun l hl => h.lk l (live_sub (hls ▸ hl))
  have hll : ls.length ≤ 40 := by
    have h1 : (liveL n).length ≤ n.links.length := by unfold liveL; exact List.length_filter_le _ _
    have := h.nl
    rw [hls]; omega
  have hml : (ls.map linkV).length = ls.length := by simp
  have hpB := planT17 n h tree ls hls hpo hro Try.func15 rfl rfl
  rw [← hls] at hlv hro
  obtain ⟨nb, hnbe⟩ : ∃ nb, nb = n.bridges.length := ⟨_, rfl⟩
  rw [← hnbe] at hnb hmb hlk hpB
  repeat' (first
    | (apply dt rfl; case h => exact S_mkM (f := intV1) (l := nb) (c := nb) (0 : Int) _ rfl rfl (by rw [hmb]) (by rw [hmb]) (Nat.le_refl _) (by omega) rfl rfl)
    | (apply Stp.go; case a => constructor)
    | refine blk_hit rfl ?_ | refine blk_miss rfl ?_ | refine dnilD (by kernel_rfl) ?_ | refine DW_cond_t rfl ?_ | refine DW_cond_f rfl ?_
    | refine DW_tD rfl (by omega) ?_ | refine DW_fD rfl (by omega) ?_
    | refine dpOff rfl rfl ?_
    | ((first | apply dX rfl | apply dXon rfl rfl | apply dpMay rfl rfl (by intro h; first | trivial | exact ⟨h, trivial⟩ | exact ⟨h, h, trivial⟩ | exact ⟨h, h, h, trivial⟩)); (case h => ((try intro hg); first | exact S_call hwr rfl | exact S_call hlv rfl | exact S_cT rfl rfl (by constructor) (by omega) | exact S_cF rfl rfl (by constructor) (by omega) | exact S_al rfl | exact S_bx rfl rfl | exact S_store rfl rfl rfl rfl rfl rfl | (apply Pu.ok; repeat' (first | rfl | exact .inK (by simp only [InK]; omega) | exact .inK (by simp only [InK]; simp at hg; omega) | exact .wr | constructor | decide | omega)))); (try case hp => constructor))
    | refine dpickAnd rfl rfl rfl rfl rfl ?_ | refine dpickOr rfl rfl rfl rfl rfl ?_
    | fail)
  have hrl : (rangeI nb).length = (List.replicate nb (0 : Int)).length := by rw [rangeI_len]; simp
  refine DW_loop (fun k : Nat => ⟨[(1, .dat false (.int .i64 tree)), (2, .ptr 2 0), (5, .ptr 5 0), (7, .dat true (.slice (ls.map linkV))), (8, .dat true (.int .i64 (n.bridges.map bridgeV).length)), (9, .own 51 0 0 nb), (53, .dat true (.int .i64 nb)), (54, .dat true (.int .i64 k))], [(2, .cells false true (n.cells.map (.dat false))), (5, .cells false true [.dat true (.int .i64 0), .dat true (.int .i64 0)]), (51, .row 0 false true 1 ((mix (rangeI nb) (List.replicate nb 0) k).map intV1))], 341⟩)
    (fun k => k ≤ nb) (fun k => nb - k) 0 (Nat.zero_le _) (by rw [mix_zero]; exact Wk_g some rfl rfl (by (repeat' (first | exact trivial | rfl | exact listLe_map _ | exact ⟨_, rfl, .inl rfl⟩ | exact ⟨_, rfl, .inr (.inl rfl)⟩ | exact ⟨_, rfl, .inr (.inr rfl)⟩ | refine ⟨_, _, rfl, rfl, ?_⟩ | exact ⟨_, rfl, rfl⟩ | exact ⟨_, _, _, _, rfl, rfl, rfl⟩ | exact ⟨_, rfl⟩ | exact ⟨_, _, rfl⟩ | refine ⟨_, (rfl : D.fnd _ _ = D.fnd _ _), ?_⟩ | apply And.intro)))) (fun k hk => ?_)
  by_cases hlt : k < nb
  · have hu : (mix (rangeI nb) (List.replicate nb (0 : Int)) k)[(k : Int).toNat]? = some 0 := by rw [Int.toNat_natCast, mix_get hrl]; simp [hlt]
    have hset := mix_set hrl (rangeI_get hlt)
    repeat' (first
    | (apply Stp.go; case a => constructor)
    | refine blk_hit rfl ?_ | refine blk_miss rfl ?_ | refine dnilD (by kernel_rfl) ?_ | refine DW_cond_t rfl ?_ | refine DW_cond_f rfl ?_
    | refine DW_tD rfl (by omega) ?_ | refine DW_fD rfl (by omega) ?_
    | refine dpOff rfl rfl ?_
    | ((first | apply dX rfl | apply dXon rfl rfl | apply dpMay rfl rfl (by intro h; first | trivial | exact ⟨h, trivial⟩ | exact ⟨h, h, trivial⟩ | exact ⟨h, h, h, trivial⟩)); (case h => ((try intro hg); first | exact S_ixO rfl rfl rfl (by omega) (by omega) | exact S_storeM (f := intV1) (a := (k : Int)) rfl rfl hu rfl rfl (.inr ⟨rfl, inferInstance⟩) rfl rfl | exact S_cT rfl rfl (by constructor) (by omega) | exact S_cF rfl rfl (by constructor) (by omega) | exact S_al rfl | exact S_bx rfl rfl | exact S_store rfl rfl rfl rfl rfl rfl | (apply Pu.ok; repeat' (first | rfl | exact .inK (by simp only [InK]; omega) | exact .inK (by simp only [InK]; simp at hg; omega) | exact .wr | constructor | decide | omega)))); (try case hp => constructor))
    | refine dpickAnd rfl rfl rfl rfl rfl ?_ | refine dpickOr rfl rfl rfl rfl rfl ?_
    | fail)
    refine loop_again (k + 1) hlt (by omega) ?_
    rw [← hset]
    exact (Wk_g some rfl rfl (by (repeat' (first | exact trivial | rfl | exact listLe_map _ | exact ⟨_, rfl, .inl rfl⟩ | exact ⟨_, rfl, .inr (.inl rfl)⟩ | exact ⟨_, rfl, .inr (.inr rfl)⟩ | refine ⟨_, _, rfl, rfl, ?_⟩ | exact ⟨_, rfl, rfl⟩ | exact ⟨_, _, _, _, rfl, rfl, rfl⟩ | exact ⟨_, rfl⟩ | exact ⟨_, _, rfl⟩ | refine ⟨_, (rfl : D.fnd _ _ = D.fnd _ _), ?_⟩ | apply And.intro))))
  rw [mix_all hrl (by simp; omega)]
  repeat' (first
    | (apply Stp.go; case a => constructor)
    | refine blk_hit rfl ?_ | refine blk_miss rfl ?_ | refine dnilD (by kernel_rfl) ?_ | refine DW_cond_t rfl ?_ | refine DW_cond_f rfl ?_
    | refine DW_tD rfl (by omega) ?_ | refine DW_fD rfl (by omega) ?_
    | refine dpOff rfl rfl ?_
    | ((first | apply dX rfl | apply dXon rfl rfl | apply dpMay rfl rfl (by intro h; first | trivial | exact ⟨h, trivial⟩ | exact ⟨h, h, trivial⟩ | exact ⟨h, h, h, trivial⟩)); (case h => ((try intro hg); first | exact S_cT rfl rfl (by constructor) (by omega) | exact S_cF rfl rfl (by constructor) (by omega) | exact S_al rfl | exact S_bx rfl rfl | exact S_store rfl rfl rfl rfl rfl rfl | (apply Pu.ok; repeat' (first | rfl | exact .inK (by simp only [InK]; omega) | exact .inK (by simp only [InK]; simp at hg; omega) | exact .wr | constructor | decide | omega)))); (try case hp => constructor))
    | refine dpickAnd rfl rfl rfl rfl rfl ?_ | refine dpickOr rfl rfl rfl rfl rfl ?_
    | fail)
  refine DW_loop (fun t : Nat => ⟨[(1, .dat false (.int .i64 tree)), (2, .ptr 2 0), (5, .ptr 5 0), (7, .dat true (.slice (ls.map linkV))), (8, .dat true (.int .i64 (n.bridges.map bridgeV).length)), (9, .own 51 0 0 nb), (64, .dat true (.int .i64 (n.bridges.map bridgeV).length)), (65, .dat true (.int .i64 t))], [(2, .cells false true (n.cells.map (.dat false))), (5, .cells false true [.dat true (.int .i64 0), .dat true (.int .i64 0)]), (51, .row 0 false true 1 ((roundsG ls (rangeI nb) t).map intV1))], 341⟩)
    (fun t => t ≤ nb) (fun t => nb - t) 0 (Nat.zero_le _) (by rw [show roundsG ls (rangeI nb) 0 = rangeI nb by with_unfolding_all rfl]; exact Wk_g some rfl rfl (by (repeat' (first | exact trivial | rfl | exact listLe_map _ | exact ⟨_, rfl, .inl rfl⟩ | exact ⟨_, rfl, .inr (.inl rfl)⟩ | exact ⟨_, rfl, .inr (.inr rfl)⟩ | refine ⟨_, _, rfl, rfl, ?_⟩ | exact ⟨_, rfl, rfl⟩ | exact ⟨_, _, _, _, rfl, rfl, rfl⟩ | exact ⟨_, rfl⟩ | exact ⟨_, _, rfl⟩ | refine ⟨_, (rfl : D.fnd _ _ = D.fnd _ _), ?_⟩ | apply And.intro)))) (fun t htn => ?_)
  by_cases htl : t < nb
  · have hgl : (roundsG ls (rangeI nb) t).length = nb := by rw [roundsG_len, rangeI_len]
    repeat' (first
    | (apply Stp.go; case a => constructor)
    | refine blk_hit rfl ?_ | refine blk_miss rfl ?_ | refine dnilD (by kernel_rfl) ?_ | refine DW_cond_t rfl ?_ | refine DW_cond_f rfl ?_
    | refine DW_tD rfl (by omega) ?_ | refine DW_fD rfl (by omega) ?_
    | refine dpOff rfl rfl ?_
    | ((first | apply dX rfl | apply dXon rfl rfl | apply dpMay rfl rfl (by intro h; first | trivial | exact ⟨h, trivial⟩ | exact ⟨h, h, trivial⟩ | exact ⟨h, h, h, trivial⟩)); (case h => ((try intro hg); first | exact S_cT rfl rfl (by constructor) (by omega) | exact S_cF rfl rfl (by constructor) (by omega) | exact S_al rfl | exact S_bx rfl rfl | exact S_store rfl rfl rfl rfl rfl rfl | (apply Pu.ok; repeat' (first | rfl | exact .inK (by simp only [InK]; omega) | exact .inK (by simp only [InK]; simp at hg; omega) | exact .wr | constructor | decide | omega)))); (try case hp => constructor))
    | refine dpickAnd rfl rfl rfl rfl rfl ?_ | refine dpickOr rfl rfl rfl rfl rfl ?_
    | fail)
    refine DW_loop (fun k : Nat => ⟨[(1, .dat false (.int .i64 tree)), (2, .ptr 2 0), (5, .ptr 5 0), (7, .dat true (.slice (ls.map linkV))), (8, .dat true (.int .i64 (n.bridges.map bridgeV).length)), (9, .own 51 0 0 nb), (64, .dat true (.int .i64 (n.bridges.map bridgeV).length)), (65, .dat true (.int .i64 t)), (67, .dat true (.slice (ls.map linkV))), (68, .dat true (.int .i64 (ls.map linkV).length)), (69, .dat true (.int .i64 k))],
        [(2, .cells false true (n.cells.map (.dat false))), (5, .cells false true [.dat true (.int .i64 0), .dat true (.int .i64 0)]), (51, .row 0 false true 1 (((ls.take k).foldl relaxG (roundsG ls (rangeI nb) t)).map intV1))], 341⟩)
      (fun k => k ≤ ls.length) (fun k => ls.length - k) 0 (Nat.zero_le _) (Wk_g some rfl rfl (by (repeat' (first | exact trivial | rfl | exact listLe_map _ | exact ⟨_, rfl, .inl rfl⟩ | exact ⟨_, rfl, .inr (.inl rfl)⟩ | exact ⟨_, rfl, .inr (.inr rfl)⟩ | refine ⟨_, _, rfl, rfl, ?_⟩ | exact ⟨_, rfl, rfl⟩ | exact ⟨_, _, _, _, rfl, rfl, rfl⟩ | exact ⟨_, rfl⟩ | exact ⟨_, _, rfl⟩ | refine ⟨_, (rfl : D.fnd _ _ = D.fnd _ _), ?_⟩ | apply And.intro)))) (fun k hk2 => ?_)
    by_cases hlt2 : k < ls.length
    · have hx : ls[(k : Int).toNat]? = some ls[k] := by simp [hlt2]
      have hx' : ls[k]? = some ls[k] := by simp [hlt2]
      have hkl := hlk ls[k] (List.getElem_mem hlt2)
      generalize ls[k] = l at hx hx' hkl
      have hst := fold_take (f := relaxG) (a := roundsG ls (rangeI nb) t) hx'
      have hfl : ((ls.take k).foldl relaxG (roundsG ls (rangeI nb) t)).length = nb := by rw [foldG_len, hgl]
      generalize (ls.take k).foldl relaxG (roundsG ls (rangeI nb) t) = g at hst hfl
      obtain ⟨k1, k2, k3, k4, k5, _, _, _⟩ := hkl
      have ha : l.a.toNat < g.length := by omega
      have hb : l.b.toNat < g.length := by omega
      have hga := gv_one ha
      have hgb := gv_one hb
      have hra : relaxG g l = (g.set l.a.toNat (if gv g l.b.toNat < gv g l.a.toNat then gv g l.b.toNat else gv g l.a.toNat)).set l.b.toNat (if gv g l.b.toNat < gv g l.a.toNat then gv g l.b.toNat else gv g l.a.toNat) := by with_unfolding_all rfl
      by_cases hlow : gv g l.b.toNat < gv g l.a.toNat
      · rw [if_pos hlow] at hra
        have hu2 := gv_of (g := g.set l.a.toNat (gv g l.b.toNat)) (i := l.b.toNat) (by simpa using hb)
        repeat' (first
    | (apply Stp.go; case a => constructor)
    | refine blk_hit rfl ?_ | refine blk_miss rfl ?_ | refine dnilD (by kernel_rfl) ?_ | refine DW_cond_t rfl ?_ | refine DW_cond_f rfl ?_
    | refine DW_tD rfl (by omega) ?_ | refine DW_fD rfl (by omega) ?_
    | refine dpOff rfl rfl ?_
    | ((first | apply dX rfl | apply dXon rfl rfl | apply dpMay rfl rfl (by intro h; first | trivial | exact ⟨h, trivial⟩ | exact ⟨h, h, trivial⟩ | exact ⟨h, h, h, trivial⟩)); (case h => ((try intro hg); first | exact S_ixM rfl rfl (by omega) hx | exact S_ixO rfl rfl rfl (by omega) (by omega) | exact S_load_rptr rfl rfl hga rfl | exact S_load_rptr rfl rfl hgb rfl | exact S_storeM (f := intV1) (a := gv g l.b.toNat) rfl rfl (gv_of ha) rfl rfl (.inr ⟨rfl, inferInstance⟩) rfl rfl | exact S_storeM (f := intV1) (a := gv g l.b.toNat) rfl rfl hu2 rfl rfl (.inr ⟨rfl, inferInstance⟩) rfl rfl | exact S_cT rfl rfl (by constructor) (by omega) | exact S_cF rfl rfl (by constructor) (by omega) | exact S_al rfl | exact S_bx rfl rfl | exact S_store rfl rfl rfl rfl rfl rfl | (apply Pu.ok; repeat' (first | rfl | exact .inK (by simp only [InK]; omega) | exact .inK (by simp only [InK]; simp at hg; omega) | exact .wr | constructor | decide | omega)))); (try case hp => constructor))
    | refine dpickAnd rfl rfl rfl rfl rfl ?_ | refine dpickOr rfl rfl rfl rfl rfl ?_
    | fail)
        refine loop_again (k + 1) hlt2 (by omega) ?_
        rw [hst, hra]
        exact (Wk_g some rfl rfl (by (repeat' (first | exact trivial | rfl | exact listLe_map _ | exact ⟨_, rfl, .inl rfl⟩ | exact ⟨_, rfl, .inr (.inl rfl)⟩ | exact ⟨_, rfl, .inr (.inr rfl)⟩ | refine ⟨_, _, rfl, rfl, ?_⟩ | exact ⟨_, rfl, rfl⟩ | exact ⟨_, _, _, _, rfl, rfl, rfl⟩ | exact ⟨_, rfl⟩ | exact ⟨_, _, rfl⟩ | refine ⟨_, (rfl : D.fnd _ _ = D.fnd _ _), ?_⟩ | apply And.intro))))
      · rw [if_neg hlow] at hra
        have hu2 := gv_of (g := g.set l.a.toNat (gv g l.a.toNat)) (i := l.b.toNat) (by simpa using hb)
        repeat' (first
    | (apply Stp.go; case a => constructor)
    | refine blk_hit rfl ?_ | refine blk_miss rfl ?_ | refine dnilD (by kernel_rfl) ?_ | refine DW_cond_t rfl ?_ | refine DW_cond_f rfl ?_
    | refine DW_tD rfl (by omega) ?_ | refine DW_fD rfl (by omega) ?_
    | refine dpOff rfl rfl ?_
    | ((first | apply dX rfl | apply dXon rfl rfl | apply dpMay rfl rfl (by intro h; first | trivial | exact ⟨h, trivial⟩ | exact ⟨h, h, trivial⟩ | exact ⟨h, h, h, trivial⟩)); (case h => ((try intro hg); first | exact S_ixM rfl rfl (by omega) hx | exact S_ixO rfl rfl rfl (by omega) (by omega) | exact S_load_rptr rfl rfl hga rfl | exact S_load_rptr rfl rfl hgb rfl | exact S_storeM (f := intV1) (a := gv g l.a.toNat) rfl rfl (gv_of ha) rfl rfl (.inr ⟨rfl, inferInstance⟩) rfl rfl | exact S_storeM (f := intV1) (a := gv g l.a.toNat) rfl rfl hu2 rfl rfl (.inr ⟨rfl, inferInstance⟩) rfl rfl | exact S_cT rfl rfl (by constructor) (by omega) | exact S_cF rfl rfl (by constructor) (by omega) | exact S_al rfl | exact S_bx rfl rfl | exact S_store rfl rfl rfl rfl rfl rfl | (apply Pu.ok; repeat' (first | rfl | exact .inK (by simp only [InK]; omega) | exact .inK (by simp only [InK]; simp at hg; omega) | exact .wr | constructor | decide | omega)))); (try case hp => constructor))
    | refine dpickAnd rfl rfl rfl rfl rfl ?_ | refine dpickOr rfl rfl rfl rfl rfl ?_
    | fail)
        refine loop_again (k + 1) hlt2 (by omega) ?_
        rw [hst, hra]
        exact (Wk_g some rfl rfl (by (repeat' (first | exact trivial | rfl | exact listLe_map _ | exact ⟨_, rfl, .inl rfl⟩ | exact ⟨_, rfl, .inr (.inl rfl)⟩ | exact ⟨_, rfl, .inr (.inr rfl)⟩ | refine ⟨_, _, rfl, rfl, ?_⟩ | exact ⟨_, rfl, rfl⟩ | exact ⟨_, _, _, _, rfl, rfl, rfl⟩ | exact ⟨_, rfl⟩ | exact ⟨_, _, rfl⟩ | refine ⟨_, (rfl : D.fnd _ _ = D.fnd _ _), ?_⟩ | apply And.intro))))
    · repeat' (first
    | (apply Stp.go; case a => constructor)
    | refine blk_hit rfl ?_ | refine blk_miss rfl ?_ | refine dnilD (by kernel_rfl) ?_ | refine DW_cond_t rfl ?_ | refine DW_cond_f rfl ?_
    | refine DW_tD rfl (by omega) ?_ | refine DW_fD rfl (by omega) ?_
    | refine dpOff rfl rfl ?_
    | ((first | apply dX rfl | apply dXon rfl rfl | apply dpMay rfl rfl (by intro h; first | trivial | exact ⟨h, trivial⟩ | exact ⟨h, h, trivial⟩ | exact ⟨h, h, h, trivial⟩)); (case h => ((try intro hg); first | exact S_cT rfl rfl (by constructor) (by omega) | exact S_cF rfl rfl (by constructor) (by omega) | exact S_al rfl | exact S_bx rfl rfl | exact S_store rfl rfl rfl rfl rfl rfl | (apply Pu.ok; repeat' (first | rfl | exact .inK (by simp only [InK]; omega) | exact .inK (by simp only [InK]; simp at hg; omega) | exact .wr | constructor | decide | omega)))); (try case hp => constructor))
    | refine dpickAnd rfl rfl rfl rfl rfl ?_ | refine dpickOr rfl rfl rfl rfl rfl ?_
    | fail)
      refine loop_again (t + 1) htl (by omega) ?_
      rw [List.take_of_length_le (by omega), show ls.foldl relaxG (roundsG ls (rangeI nb) t) = roundsG ls (rangeI nb) (t + 1) by with_unfolding_all rfl]
      exact (Wk_g some rfl rfl (by (repeat' (first | exact trivial | rfl | exact listLe_map _ | exact ⟨_, rfl, .inl rfl⟩ | exact ⟨_, rfl, .inr (.inl rfl)⟩ | exact ⟨_, rfl, .inr (.inr rfl)⟩ | refine ⟨_, _, rfl, rfl, ?_⟩ | exact ⟨_, rfl, rfl⟩ | exact ⟨_, _, _, _, rfl, rfl, rfl⟩ | exact ⟨_, rfl⟩ | exact ⟨_, _, rfl⟩ | refine ⟨_, (rfl : D.fnd _ _ = D.fnd _ _), ?_⟩ | apply And.intro))))
  rw [show t = nb by omega, show roundsG ls (rangeI nb) nb = labN n by rw [hls, hnbe]; with_unfolding_all rfl]
  have hlab : (labN n).length = nb := by unfold labN; rw [roundsG_len, rangeI_len, hnbe]
  repeat' (first
    | (apply dt rfl; case h => exact S_mkM (f := Vec.cells) (l := nb) (c := nb) .zero _ rfl rfl (by rw [hmb]) (by rw [hmb]) (Nat.le_refl _) (by omega) rfl rfl)
    | (apply dt rfl; case h => exact S_mkM (f := intV1) (l := nb) (c := nb) (0 : Int) _ rfl rfl (by rw [hmb]) (by rw [hmb]) (Nat.le_refl _) (by omega) rfl rfl)
    | (apply Stp.go; case a => constructor)
    | refine blk_hit rfl ?_ | refine blk_miss rfl ?_ | refine dnilD (by kernel_rfl) ?_ | refine DW_cond_t rfl ?_ | refine DW_cond_f rfl ?_
    | refine DW_tD rfl (by omega) ?_ | refine DW_fD rfl (by omega) ?_
    | refine dpOff rfl rfl ?_
    | ((first | apply dX rfl | apply dXon rfl rfl | apply dpMay rfl rfl (by intro h; first | trivial | exact ⟨h, trivial⟩ | exact ⟨h, h, trivial⟩ | exact ⟨h, h, h, trivial⟩)); (case h => ((try intro hg); first | exact S_cT rfl rfl (by constructor) (by omega) | exact S_cF rfl rfl (by constructor) (by omega) | exact S_al rfl | exact S_bx rfl rfl | exact S_store rfl rfl rfl rfl rfl rfl | (apply Pu.ok; repeat' (first | rfl | exact .inK (by simp only [InK]; omega) | exact .inK (by simp only [InK]; simp at hg; omega) | exact .wr | constructor | decide | omega)))); (try case hp => constructor))
    | refine dpickAnd rfl rfl rfl rfl rfl ?_ | refine dpickOr rfl rfl rfl rfl rfl ?_
    | fail)
  have hsl : (saysI n tree).length = (List.replicate nb Vec.zero).length := by rw [saysI_len]; simp [hnbe]
  have hfl : (far0 n tree).length = (List.replicate nb (0 : Int)).length := by rw [far0_len]; simp [hnbe]
  refine DW_loop (fun i : Nat => ⟨[(1, .dat false (.int .i64 tree)), (2, .ptr 2 0), (5, .ptr 5 0), (7, .dat true (.slice (ls.map linkV))), (8, .dat true (.int .i64 (n.bridges.map bridgeV).length)), (9, .own 51 0 0 nb), (14, .own 103 0 0 nb), (15, .own 105 0 0 nb), (107, .dat false (.slice (n.bridges.map bridgeV))), (108, .dat true (.int .i64 (n.bridges.map bridgeV).length)), (109, .dat true (.int .i64 i))],
      [(2, .cells false true (n.cells.map (.dat false))), (5, .cells false true [.dat true (.int .i64 0), .dat true (.int .i64 0)]), (51, .row 0 false true 1 ((labN n).map intV1)), (103, .row 0 false true 4 ((mix (saysI n tree) (List.replicate nb .zero) i).map Vec.cells)), (105, .row 0 false true 1 ((mix (far0 n tree) (List.replicate nb 0) i).map intV1))], 341⟩)
    (fun i => i ≤ nb) (fun i => nb - i) 0 (Nat.zero_le _) (by rw [mix_zero, mix_zero]; exact Wk_g some rfl rfl (by (repeat' (first | exact trivial | rfl | exact listLe_map _ | exact ⟨_, rfl, .inl rfl⟩ | exact ⟨_, rfl, .inr (.inl rfl)⟩ | exact ⟨_, rfl, .inr (.inr rfl)⟩ | refine ⟨_, _, rfl, rfl, ?_⟩ | exact ⟨_, rfl, rfl⟩ | exact ⟨_, _, _, _, rfl, rfl, rfl⟩ | exact ⟨_, rfl⟩ | exact ⟨_, _, rfl⟩ | refine ⟨_, (rfl : D.fnd _ _ = D.fnd _ _), ?_⟩ | apply And.intro)))) (fun i hi => ?_)
  by_cases hli : i < nb
  · have hx : n.bridges[(i : Int).toNat]? = some (n.bridges[i]'(by omega)) := by simp [show i < n.bridges.length by omega]
    have hx' : n.bridges[i]? = some (n.bridges[i]'(by omega)) := by simp [show i < n.bridges.length by omega]
    have hbo := h.br (n.bridges[i]'(by omega)) (List.getElem_mem _)
    have hidn := idN_of (tree := tree) hx'
    have hid := ref6_Ident (n.bridges[i]'(by omega)) hbo tree
    rw [← hidn] at hid
    generalize n.bridges[i]'(by omega) = b at hx hx' hbo hidn hid
    have hlow := low_root h tree (show i < n.bridges.length by omega)
    rw [← hnbe] at hlow
    have hsI := saysI_get (tree := tree) (show i < n.bridges.length by omega)
    have hfI := far0_get (tree := tree) (show i < n.bridges.length by omega)
    have hset := mix_set hsl hsI
    have hsetf := mix_set hfl hfI
    have hu : (mix (saysI n tree) (List.replicate nb .zero) i)[(i : Int).toNat]? = some .zero := by rw [Int.toNat_natCast, mix_get hsl]; simp [hli]
    have huf : (mix (far0 n tree) (List.replicate nb 0) i)[(i : Int).toNat]? = some 0 := by rw [Int.toNat_natCast, mix_get hfl]; simp [hli]
    have hgl : (mix (saysI n tree) (List.replicate nb Vec.zero) i).length = nb := by rw [mix_len hsl]; simp
    have hfl2 : (mix (far0 n tree) (List.replicate nb 0) i).length = nb := by rw [mix_len hfl]; simp
    generalize mix (saysI n tree) (List.replicate nb .zero) i = G at hset hu hgl
    generalize mix (far0 n tree) (List.replicate nb 0) i = F at hsetf huf hfl2
    generalize hme : idN n tree i = me at *
    have hgi := gv_one (g := labN n) (i := (i : Int).toNat) (by omega)
    repeat' (first
    | (apply Stp.go; case a => constructor)
    | refine blk_hit rfl ?_ | refine blk_miss rfl ?_ | refine dnilD (by kernel_rfl) ?_ | refine DW_cond_t rfl ?_ | refine DW_cond_f rfl ?_
    | refine DW_tD rfl (by omega) ?_ | refine DW_fD rfl (by omega) ?_
    | refine dpOff rfl rfl ?_
    | ((first | apply dX rfl | apply dXon rfl rfl | apply dpMay rfl rfl (by intro h; first | trivial | exact ⟨h, trivial⟩ | exact ⟨h, h, trivial⟩ | exact ⟨h, h, h, trivial⟩)); (case h => ((try intro hg); first | exact S_ixM rfl rfl (by omega) hx | exact S_call hid rfl | exact S_ixO rfl rfl rfl (by omega) (by omega) | exact S_storeM (f := Vec.cells) (a := ⟨me, 0, me, 0⟩) rfl rfl hu rfl rfl (.inr ⟨rfl, inferInstance⟩) rfl rfl | exact S_cT rfl rfl (by constructor) (by omega) | exact S_cF rfl rfl (by constructor) (by omega) | exact S_al rfl | exact S_bx rfl rfl | exact S_store rfl rfl rfl rfl rfl rfl | (apply Pu.ok; repeat' (first | rfl | exact .inK (by simp only [InK]; omega) | exact .inK (by simp only [InK]; simp at hg; omega) | exact .wr | constructor | decide | omega)))); (try case hp => constructor))
    | refine dpickAnd rfl rfl rfl rfl rfl ?_ | refine dpickOr rfl rfl rfl rfl rfl ?_
    | fail)
    refine DW_loop (fun j : Nat => ⟨[(1, .dat false (.int .i64 tree)), (2, .ptr 2 0), (5, .ptr 5 0), (7, .dat true (.slice (ls.map linkV))), (8, .dat true (.int .i64 (n.bridges.map bridgeV).length)), (9, .own 51 0 0 nb), (14, .own 103 0 0 nb), (15, .own 105 0 0 nb), (107, .dat false (.slice (n.bridges.map bridgeV))), (108, .dat true (.int .i64 (n.bridges.map bridgeV).length)), (109, .dat true (.int .i64 i)),
        (16, .dat true (.int .i64 i)), (18, .dat true (.int .u64 me)), (124, .dat false (.slice (n.bridges.map bridgeV))), (125, .dat true (.int .i64 (n.bridges.map bridgeV).length)), (126, .dat true (.int .i64 j))],
        [(2, .cells false true (n.cells.map (.dat false))), (5, .cells false true [.dat true (.int .i64 0), .dat true (.int .i64 0)]), (51, .row 0 false true 1 ((labN n).map intV1)), (103, .row 0 false true 4 ((G.set i ⟨lowG (idN n tree) (labN n) i (List.range j) me, 0, me, 0⟩).map Vec.cells)), (105, .row 0 false true 1 (F.map intV1))], 341⟩)
      (fun j => j ≤ nb) (fun j => nb - j) 0 (Nat.zero_le _) (by rw [show lowG (idN n tree) (labN n) i (List.range 0) me = me by with_unfolding_all rfl]; exact Wk_g some rfl rfl (by (repeat' (first | exact trivial | rfl | exact listLe_map _ | exact ⟨_, rfl, .inl rfl⟩ | exact ⟨_, rfl, .inr (.inl rfl)⟩ | exact ⟨_, rfl, .inr (.inr rfl)⟩ | refine ⟨_, _, rfl, rfl, ?_⟩ | exact ⟨_, rfl, rfl⟩ | exact ⟨_, _, _, _, rfl, rfl, rfl⟩ | exact ⟨_, rfl⟩ | exact ⟨_, _, rfl⟩ | refine ⟨_, (rfl : D.fnd _ _ = D.fnd _ _), ?_⟩ | apply And.intro)))) (fun j hj => ?_)
    by_cases hlj : j < nb
    · have hy : n.bridges[(j : Int).toNat]? = some (n.bridges[j]'(by omega)) := by simp [show j < n.bridges.length by omega]
      have hy' : n.bridges[j]? = some (n.bridges[j]'(by omega)) := by simp [show j < n.bridges.length by omega]
      have hbo2 := h.br (n.bridges[j]'(by omega)) (List.getElem_mem _)
      have hidn2 := idN_of (tree := tree) hy'
      have hid2 := ref6_Ident (n.bridges[j]'(by omega)) hbo2 tree
      rw [← hidn2] at hid2
      generalize n.bridges[j]'(by omega) = o at hy hy' hbo2 hidn2 hid2
      have hgj := gv_one (g := labN n) (i := (j : Int).toNat) (by omega)
      have hls2 := low_step (idN n tree) (labN n) i j me
      have hgj0 : gv (labN n) (j : Int).toNat = gv (labN n) j := rfl
      have hgi0 : gv (labN n) (i : Int).toNat = gv (labN n) i := rfl
      generalize lowG (idN n tree) (labN n) i (List.range j) me = cur at hls2
      have hui : (G.set i ⟨cur, 0, me, 0⟩)[(i : Int).toNat]? = some ⟨cur, 0, me, 0⟩ := by rw [Int.toNat_natCast]; simp [hgl, hli]
      have hui1 : ((G.set i ⟨cur, 0, me, 0⟩).map Vec.cells)[(i : Int).toNat]? = some (Vec.cells ⟨cur, 0, me, 0⟩) := by rw [List.getElem?_map, hui]; rfl
      have hgl2 : (G.set i ⟨cur, 0, me, 0⟩).length = nb := by simp [hgl]
      by_cases hg : gv (labN n) j = gv (labN n) i
      · by_cases hc : idN n tree j < cur
        · rw [if_pos ⟨hg, hc⟩] at hls2
          repeat' (first
    | (apply Stp.go; case a => constructor)
    | refine blk_hit rfl ?_ | refine blk_miss rfl ?_ | refine dnilD (by kernel_rfl) ?_ | refine DW_cond_t rfl ?_ | refine DW_cond_f rfl ?_
    | refine DW_tD rfl (by omega) ?_ | refine DW_fD rfl (by omega) ?_
    | refine dpOff rfl rfl ?_
    | ((first | apply dX rfl | apply dXon rfl rfl | apply dpMay rfl rfl (by intro h; first | trivial | exact ⟨h, trivial⟩ | exact ⟨h, h, trivial⟩ | exact ⟨h, h, h, trivial⟩)); (case h => ((try intro hg); first | exact S_ixM rfl rfl (by omega) hy | exact S_call hid2 rfl | exact S_ixO rfl rfl rfl (by omega) (by omega) | exact S_load_rptr rfl rfl hgj rfl | exact S_load_rptr rfl rfl hgi rfl | exact S_load_rptr rfl rfl hui1 rfl | exact S_storeM (f := Vec.cells) (a := ⟨idN n tree j, 0, me, 0⟩) rfl rfl hui rfl rfl (.inr ⟨rfl, inferInstance⟩) rfl rfl | exact S_cT rfl rfl (by constructor) (by omega) | exact S_cF rfl rfl (by constructor) (by omega) | exact S_al rfl | exact S_bx rfl rfl | exact S_store rfl rfl rfl rfl rfl rfl | (apply Pu.ok; repeat' (first | rfl | exact .inK (by simp only [InK]; omega) | exact .inK (by simp only [InK]; simp at hg; omega) | exact .wr | constructor | decide | omega)))); (try case hp => constructor))
    | refine dpickAnd rfl rfl rfl rfl rfl ?_ | refine dpickOr rfl rfl rfl rfl rfl ?_
    | fail)
          refine loop_again (j + 1) hlj (by omega) ?_
          rw [hls2, show G.set i ⟨idN n tree j, 0, me, 0⟩ = (G.set i ⟨cur, 0, me, 0⟩).set i ⟨idN n tree j, 0, me, 0⟩ by simp]
          exact (Wk_g some rfl rfl (by (repeat' (first | exact trivial | rfl | exact listLe_map _ | exact ⟨_, rfl, .inl rfl⟩ | exact ⟨_, rfl, .inr (.inl rfl)⟩ | exact ⟨_, rfl, .inr (.inr rfl)⟩ | refine ⟨_, _, rfl, rfl, ?_⟩ | exact ⟨_, rfl, rfl⟩ | exact ⟨_, _, _, _, rfl, rfl, rfl⟩ | exact ⟨_, rfl⟩ | exact ⟨_, _, rfl⟩ | refine ⟨_, (rfl : D.fnd _ _ = D.fnd _ _), ?_⟩ | apply And.intro))))
        · rw [if_neg (fun hh => hc hh.2)] at hls2
          repeat' (first
    | (apply Stp.go; case a => constructor)
    | refine blk_hit rfl ?_ | refine blk_miss rfl ?_ | refine dnilD (by kernel_rfl) ?_ | refine DW_cond_t rfl ?_ | refine DW_cond_f rfl ?_
    | refine DW_tD rfl (by omega) ?_ | refine DW_fD rfl (by omega) ?_
    | refine dpOff rfl rfl ?_
    | ((first | apply dX rfl | apply dXon rfl rfl | apply dpMay rfl rfl (by intro h; first | trivial | exact ⟨h, trivial⟩ | exact ⟨h, h, trivial⟩ | exact ⟨h, h, h, trivial⟩)); (case h => ((try intro hg); first | exact S_ixM rfl rfl (by omega) hy | exact S_call hid2 rfl | exact S_ixO rfl rfl rfl (by omega) (by omega) | exact S_load_rptr rfl rfl hgj rfl | exact S_load_rptr rfl rfl hgi rfl | exact S_load_rptr rfl rfl hui1 rfl | exact S_cT rfl rfl (by constructor) (by omega) | exact S_cF rfl rfl (by constructor) (by omega) | exact S_al rfl | exact S_bx rfl rfl | exact S_store rfl rfl rfl rfl rfl rfl | (apply Pu.ok; repeat' (first | rfl | exact .inK (by simp only [InK]; omega) | exact .inK (by simp only [InK]; simp at hg; omega) | exact .wr | constructor | decide | omega)))); (try case hp => constructor))
    | refine dpickAnd rfl rfl rfl rfl rfl ?_ | refine dpickOr rfl rfl rfl rfl rfl ?_
    | fail)
          refine loop_again (j + 1) hlj (by omega) ?_
          rw [hls2]
          exact (Wk_g some rfl rfl (by (repeat' (first | exact trivial | rfl | exact listLe_map _ | exact ⟨_, rfl, .inl rfl⟩ | exact ⟨_, rfl, .inr (.inl rfl)⟩ | exact ⟨_, rfl, .inr (.inr rfl)⟩ | refine ⟨_, _, rfl, rfl, ?_⟩ | exact ⟨_, rfl, rfl⟩ | exact ⟨_, _, _, _, rfl, rfl, rfl⟩ | exact ⟨_, rfl⟩ | exact ⟨_, _, rfl⟩ | refine ⟨_, (rfl : D.fnd _ _ = D.fnd _ _), ?_⟩ | apply And.intro))))
      · rw [if_neg (fun hh => hg hh.1)] at hls2
        repeat' (first
    | (apply Stp.go; case a => constructor)
    | refine blk_hit rfl ?_ | refine blk_miss rfl ?_ | refine dnilD (by kernel_rfl) ?_ | refine DW_cond_t rfl ?_ | refine DW_cond_f rfl ?_
    | refine DW_tD rfl (by omega) ?_ | refine DW_fD rfl (by omega) ?_
    | refine dpOff rfl rfl ?_
    | ((first | apply dX rfl | apply dXon rfl rfl | apply dpMay rfl rfl (by intro h; first | trivial | exact ⟨h, trivial⟩ | exact ⟨h, h, trivial⟩ | exact ⟨h, h, h, trivial⟩)); (case h => ((try intro hg); first | exact S_ixM rfl rfl (by omega) hy | exact S_ixO rfl rfl rfl (by omega) (by omega) | exact S_load_rptr rfl rfl hgj rfl | exact S_load_rptr rfl rfl hgi rfl | exact S_cT rfl rfl (by constructor) (by omega) | exact S_cF rfl rfl (by constructor) (by omega) | exact S_al rfl | exact S_bx rfl rfl | exact S_store rfl rfl rfl rfl rfl rfl | (apply Pu.ok; repeat' (first | rfl | exact .inK (by simp only [InK]; omega) | exact .inK (by simp only [InK]; simp at hg; omega) | exact .wr | constructor | decide | omega)))); (try case hp => constructor))
    | refine dpickAnd rfl rfl rfl rfl rfl ?_ | refine dpickOr rfl rfl rfl rfl rfl ?_
    | fail)
        refine loop_again (j + 1) hlj (by omega) ?_
        rw [hls2]
        exact (Wk_g some rfl rfl (by (repeat' (first | exact trivial | rfl | exact listLe_map _ | exact ⟨_, rfl, .inl rfl⟩ | exact ⟨_, rfl, .inr (.inl rfl)⟩ | exact ⟨_, rfl, .inr (.inr rfl)⟩ | refine ⟨_, _, rfl, rfl, ?_⟩ | exact ⟨_, rfl, rfl⟩ | exact ⟨_, _, _, _, rfl, rfl, rfl⟩ | exact ⟨_, rfl⟩ | exact ⟨_, _, rfl⟩ | refine ⟨_, (rfl : D.fnd _ _ = D.fnd _ _), ?_⟩ | apply And.intro))))
    · rw [show j = nb by omega, hlow]
      have hui : (G.set i ⟨(sF n tree i).root, 0, me, 0⟩)[(i : Int).toNat]? = some ⟨(sF n tree i).root, 0, me, 0⟩ := by rw [Int.toNat_natCast]; simp [hgl, hli]
      have hui1 : ((G.set i ⟨(sF n tree i).root, 0, me, 0⟩).map Vec.cells)[(i : Int).toNat]? = some (Vec.cells ⟨(sF n tree i).root, 0, me, 0⟩) := by rw [List.getElem?_map, hui]; rfl
      have huf2 : (F.set (i : Int).toNat 1099511627776)[(i : Int).toNat]? = some 1099511627776 := by rw [Int.toNat_natCast]; simp [hfl2, hli]
      by_cases hr : (sF n tree i).root = me
      · rw [if_pos hr] at hsetf
        repeat' (first
    | (apply Stp.go; case a => constructor)
    | refine blk_hit rfl ?_ | refine blk_miss rfl ?_ | refine dnilD (by kernel_rfl) ?_ | refine DW_cond_t rfl ?_ | refine DW_cond_f rfl ?_
    | refine DW_tD rfl (by omega) ?_ | refine DW_fD rfl (by omega) ?_
    | refine dpOff rfl rfl ?_
    | ((first | apply dX rfl | apply dXon rfl rfl | apply dpMay rfl rfl (by intro h; first | trivial | exact ⟨h, trivial⟩ | exact ⟨h, h, trivial⟩ | exact ⟨h, h, h, trivial⟩)); (case h => ((try intro hg); first | exact S_ixO rfl rfl rfl (by omega) (by omega) | exact S_load_rptr rfl rfl hui1 rfl | exact S_storeM (f := intV1) (a := 1099511627776) rfl rfl huf rfl rfl (.inr ⟨rfl, inferInstance⟩) rfl rfl | exact S_storeM (f := intV1) (a := 0) rfl rfl huf2 rfl rfl (.inr ⟨rfl, inferInstance⟩) rfl rfl | exact S_cT rfl rfl (by constructor) (by omega) | exact S_cF rfl rfl (by constructor) (by omega) | exact S_al rfl | exact S_bx rfl rfl | exact S_store rfl rfl rfl rfl rfl rfl | (apply Pu.ok; repeat' (first | rfl | exact .inK (by simp only [InK]; omega) | exact .inK (by simp only [InK]; simp at hg; omega) | exact .wr | constructor | decide | omega)))); (try case hp => constructor))
    | refine dpickAnd rfl rfl rfl rfl rfl ?_ | refine dpickOr rfl rfl rfl rfl rfl ?_
    | fail)
        refine loop_again (i + 1) hli (by omega) ?_
        rw [← hset, ← hsetf, show F.set i 0 = (F.set i 1099511627776).set i 0 by simp]
        exact (Wk_g some rfl rfl (by (repeat' (first | exact trivial | rfl | exact listLe_map _ | exact ⟨_, rfl, .inl rfl⟩ | exact ⟨_, rfl, .inr (.inl rfl)⟩ | exact ⟨_, rfl, .inr (.inr rfl)⟩ | refine ⟨_, _, rfl, rfl, ?_⟩ | exact ⟨_, rfl, rfl⟩ | exact ⟨_, _, _, _, rfl, rfl, rfl⟩ | exact ⟨_, rfl⟩ | exact ⟨_, _, rfl⟩ | refine ⟨_, (rfl : D.fnd _ _ = D.fnd _ _), ?_⟩ | apply And.intro))))
      · rw [if_neg hr] at hsetf
        repeat' (first
    | (apply Stp.go; case a => constructor)
    | refine blk_hit rfl ?_ | refine blk_miss rfl ?_ | refine dnilD (by kernel_rfl) ?_ | refine DW_cond_t rfl ?_ | refine DW_cond_f rfl ?_
    | refine DW_tD rfl (by omega) ?_ | refine DW_fD rfl (by omega) ?_
    | refine dpOff rfl rfl ?_
    | ((first | apply dX rfl | apply dXon rfl rfl | apply dpMay rfl rfl (by intro h; first | trivial | exact ⟨h, trivial⟩ | exact ⟨h, h, trivial⟩ | exact ⟨h, h, h, trivial⟩)); (case h => ((try intro hg); first | exact S_ixO rfl rfl rfl (by omega) (by omega) | exact S_load_rptr rfl rfl hui1 rfl | exact S_storeM (f := intV1) (a := 1099511627776) rfl rfl huf rfl rfl (.inr ⟨rfl, inferInstance⟩) rfl rfl | exact S_cT rfl rfl (by constructor) (by omega) | exact S_cF rfl rfl (by constructor) (by omega) | exact S_al rfl | exact S_bx rfl rfl | exact S_store rfl rfl rfl rfl rfl rfl | (apply Pu.ok; repeat' (first | rfl | exact .inK (by simp only [InK]; omega) | exact .inK (by simp only [InK]; simp at hg; omega) | exact .wr | constructor | decide | omega)))); (try case hp => constructor))
    | refine dpickAnd rfl rfl rfl rfl rfl ?_ | refine dpickOr rfl rfl rfl rfl rfl ?_
    | fail)
        refine loop_again (i + 1) hli (by omega) ?_
        rw [← hset, ← hsetf]
        exact (Wk_g some rfl rfl (by (repeat' (first | exact trivial | rfl | exact listLe_map _ | exact ⟨_, rfl, .inl rfl⟩ | exact ⟨_, rfl, .inr (.inl rfl)⟩ | exact ⟨_, rfl, .inr (.inr rfl)⟩ | refine ⟨_, _, rfl, rfl, ?_⟩ | exact ⟨_, rfl, rfl⟩ | exact ⟨_, _, _, _, rfl, rfl, rfl⟩ | exact ⟨_, rfl⟩ | exact ⟨_, _, rfl⟩ | refine ⟨_, (rfl : D.fnd _ _ = D.fnd _ _), ?_⟩ | apply And.intro))))
  rw [mix_all hsl (by simp; omega), mix_all hfl (by simp; omega)]
  repeat' (first
    | refine DW_weak ?_ hpB
    | (apply Stp.go; case a => constructor)
    | refine blk_hit rfl ?_ | refine blk_miss rfl ?_ | refine dnilD (by kernel_rfl) ?_ | refine DW_cond_t rfl ?_ | refine DW_cond_f rfl ?_
    | refine DW_tD rfl (by omega) ?_ | refine DW_fD rfl (by omega) ?_
    | refine dpOff rfl rfl ?_
    | ((first | apply dX rfl | apply dXon rfl rfl | apply dpMay rfl rfl (by intro h; first | trivial | exact ⟨h, trivial⟩ | exact ⟨h, h, trivial⟩ | exact ⟨h, h, h, trivial⟩)); (case h => ((try intro hg); first | exact S_cT rfl rfl (by constructor) (by omega) | exact S_cF rfl rfl (by constructor) (by omega) | exact S_al rfl | exact S_bx rfl rfl | exact S_store rfl rfl rfl rfl rfl rfl | (apply Pu.ok; repeat' (first | rfl | exact .inK (by simp only [InK]; omega) | exact .inK (by simp only [InK]; simp at hg; omega) | exact .wr | constructor | decide | omega)))); (try case hp => constructor))
    | refine dpickAnd rfl rfl rfl rfl rfl ?_ | refine dpickOr rfl rfl rfl rfl rfl ?_
    | fail)
  exact (Wk_g some rfl rfl (by (repeat' (first | exact trivial | rfl | exact listLe_map _ | exact ⟨_, rfl, .inl rfl⟩ | exact ⟨_, rfl, .inr (.inl rfl)⟩ | exact ⟨_, rfl, .inr (.inr rfl)⟩ | refine ⟨_, _, rfl, rfl, ?_⟩ | exact ⟨_, rfl, rfl⟩ | exact ⟨_, _, _, _, rfl, rfl, rfl⟩ | exact ⟨_, rfl⟩ | exact ⟨_, _, rfl⟩ | refine ⟨_, (rfl : D.fnd _ _ = D.fnd _ _), ?_⟩ | apply And.intro))))
end Go.Proofs.Ytkppkgahdoglpaa
