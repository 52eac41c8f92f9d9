/- Contract: the document's Plan: the walk's last part, bridge by bridge. -/
import Derived.Test.YtkppkgahdoglpaatdPlI
import Derived.Test.YtkppkgahdoglpaatdRf5
namespace Go.Proofs.Ytkppkgahdoglpaa
open Go.RowKit
def tailO : Nat → Code → Option Code
  | 0, c => some c
  | k + 1, .seq _ y => tailO k y
  | _ + 1, _ => none
theorem of_tail {k : Nat} {c0 c c' : Code} {P : Program} {Q : Exit → St → Prop} {s : St} (h : tailO k c0 = some c') (hc : tailO k c0 = some c) (hd : DW P c' Q s) : DW P c Q s := by
  rw [h] at hc; injection hc with hc; subst hc; exact hd
attribute [local irreducible] SStep DW DWin DOps thenQ inBlk loopQ retQ retQG FnF FnG FnI Wk IntKind.wrap IntKind.andI IntKind.orI IntKind.xorI IntKind.andNotI IntKind.shlI IntKind.shrI Net.wrong Bridge.id Bridge.prio identR sortE sortI rawE rawP idsR liveB roleOf rolesP endsOf portsOf saysN chooseS offersOf mix liveL relaxG relaxF roundsG roundsF lowG sF pF rangeI saysI saysF far0 farN labN offersU
set_option maxRecDepth 10000 in
set_option maxHeartbeats 8000000 in
theorem planT21 (n : Net) (h : n.good) (tree : Nat) (ls : List Link) (hls : ls = liveL n)
    (hpo : ∀ b : Nat, FnF Try.prog 44 [n.v, .int .i64 b] (.slice ((portsOf n.links b).map intV1)))
    (hro : ∀ (b : Nat) (says : Vec) (root : Int) (l : List Offer), FnF Try.prog 45 [n.v, .slice ((liveL n).map linkV), .int .i64 b, says.v, .int .i64 root, offers l] (.slice (((portsOf n.links b).map (fun p => if (liveL n).any (hitL b p) then roleOf says root p l else 0)).map intV1)))
    {fn : Func} {c0 c : Code} (hfn : Try.prog.funcs[(15 : Nat)]? = some fn) (hbd : fn.body = some c0) (htl : tailO 13 c0 = some c) :
    DW Try.prog c (retQ Try.prog fn.results.toList (.tuple [.slice ((planF n tree).map Place.cells), faultV (0, 0)])) ⟨[(1, .dat false (.int .i64 tree)), (2, .ptr 2 0), (5, .ptr 5 0), (7, .dat true (.slice (ls.map linkV))), (8, .dat true (.int .i64 (n.bridges.map bridgeV).length)), (14, .dat true (.slice ((saysF n tree).map Vec.cells))), (15, .dat true (.slice ((farN n tree).map intV1)))], [(2, .cells false true (n.cells.map (.dat false))), (5, .cells false true [.dat true (.int .i64 0), .dat true (.int .i64 0)])], 341⟩ := by
  have hfe := hfn.symm.trans Try.func15
  injection hfe with hfe
  subst hfe
  injection hbd with hbd
  subst hbd
  refine of_tail rfl htl ?_
  clear htl hfn
  have hmb : (n.bridges.map bridgeV).length = n.bridges.length := by simp
  have hnb := h.nb
  have hlk : ∀ l ∈ ls, l.ok n.bridges.length := fun l hl => h.lk l (live_sub (hls ▸ hl))
  have hll : ls.length ≤ 40 := by
    have h1 : (liveL n).length ≤ n.links.length := by unfold liveL; exact List.length_filter_le _ _
    have := h.nl
    rw [hls]; omega
  have hml : (ls.map linkV).length = ls.length := by simp
  rw [← hls] at hro
  obtain ⟨nb, hnbe⟩ : ∃ nb, nb = n.bridges.length := ⟨_, rfl⟩
  rw [← hnbe] at hnb hmb hlk
  have hfn : (farN n tree).length = nb := by unfold farN; rw [roundsF_len, far0_len, hnbe]
  have hsFl := saysF_len n tree
  repeat' (first
    | (apply Stp.go; case a => constructor)
    | refine blk_hit rfl ?_ | refine blk_miss rfl ?_ | refine dnilD (by kernel_rfl) ?_ | refine DW_cond_t rfl ?_ | refine DW_cond_f rfl ?_
    | refine DW_tD rfl (by omega) ?_ | refine DW_fD rfl (by omega) ?_
    | refine dpOff rfl rfl ?_
    | ((first | apply dX rfl | apply dXon rfl rfl | apply dpMay rfl rfl (by intro h; first | trivial | exact ⟨h, trivial⟩ | exact ⟨h, h, trivial⟩ | exact ⟨h, h, h, trivial⟩)); (case h => ((try intro hg); first | exact S_cT rfl rfl (by constructor) (by omega) | exact S_cF rfl rfl (by constructor) (by omega) | exact S_al rfl | exact S_bx rfl rfl | exact S_store rfl rfl rfl rfl rfl rfl | (apply Pu.ok; repeat' (first | rfl | exact .inK (by simp only [InK]; omega) | exact .inK (by simp only [InK]; simp at hg; omega) | exact .wr | constructor | decide | omega)))); (try case hp => constructor))
    | refine dpickAnd rfl rfl rfl rfl rfl ?_ | refine dpickOr rfl rfl rfl rfl rfl ?_
    | fail)
  refine DW_loop (fun p : Nat × List Place => ⟨[(1, .dat false (.int .i64 tree)), (2, .ptr 2 0), (5, .ptr 5 0), (7, .dat true (.slice (ls.map linkV))), (8, .dat true (.int .i64 (n.bridges.map bridgeV).length)), (14, .dat true (.slice ((saysF n tree).map Vec.cells))), (15, .dat true (.slice ((farN n tree).map intV1))), (24, .own 24 0 0 p.2.length), (254, .dat true (.int .i64 (n.bridges.map bridgeV).length)), (255, .dat true (.int .i64 p.1))],
      [(2, .cells false true (n.cells.map (.dat false))), (5, .cells false true [.dat true (.int .i64 0), .dat true (.int .i64 0)]), (24, .row 0 false true 7 (p.2.map Place.cells))], 341⟩)
    (fun p => p.1 ≤ nb ∧ p.2 = (planF n tree).take p.1) (fun p => nb - p.1) (0, []) ⟨Nat.zero_le _, rfl⟩
    (Wk_g (fun g => if g = 24 then none else some g) rfl rfl (by (repeat' (first | exact trivial | rfl | exact listLe_map _ | exact ⟨_, rfl, .inl rfl⟩ | exact ⟨_, rfl, .inr (.inl rfl)⟩ | exact ⟨_, rfl, .inr (.inr rfl)⟩ | refine ⟨_, _, rfl, rfl, ?_⟩ | exact ⟨_, rfl, rfl⟩ | exact ⟨_, _, _, _, rfl, rfl, rfl⟩ | exact ⟨_, rfl⟩ | exact ⟨_, _, rfl⟩ | refine ⟨_, (rfl : D.fnd _ _ = D.fnd _ _), ?_⟩ | apply And.intro)))) (fun p hR => ?_)
  obtain ⟨i, us⟩ := p
  obtain ⟨hi, hus⟩ := hR
  simp only at hi hus
  dsimp only
  have hpl : (planF n tree).length = nb := by rw [plan_len, hnbe]
  have hul : us.length = i := by rw [hus, List.length_take]; omega
  by_cases hli : i < nb
  · have hi' : i < n.bridges.length := by omega
    have hpk := plan_get (tree := tree) hi'
    have hnx : (planF n tree).take (i + 1) = us ++ [⟨sF n tree i, pF n tree i, portsOf n.links i, (portsOf n.links i).map (roleF n tree i)⟩] := by rw [List.take_add_one, hpk, hus]; rfl
    have hxs : (saysF n tree)[(i : Int).toNat]? = some (sF n tree i) := saysF_get hi'
    have hxf : (farN n tree)[(i : Int).toNat]? = some (sF n tree i).cost := by rw [← far_fin h tree hi']; exact gv_of (by omega)
    have hoff := ref6_Offers ls hll i (saysF n tree) (List.replicate nb 0) (by rw [hsFl, hnbe]; simp) (by rw [hsFl, ← hnbe]; exact hlk)
    have hoe : (rawE ls i).map (offerAt (saysF n tree) (List.replicate nb 0)) = offersU n tree i := by
      rw [show offersU n tree i = (rawE ls i).map (offerOf (saysF n tree)) by rw [hls]; with_unfolding_all rfl]
      refine List.map_congr_left fun e _ => ?_
      unfold offerAt offerOf
      rw [repl_gv]
    rw [hoe] at hoff
    have hob : ∀ o ∈ offersU n tree i, 0 ≤ o.vec.cost ∧ o.vec.cost ≤ 2600000 ∧ 0 ≤ o.cost ∧ o.cost ≤ 200000 := fun o ho => by
      obtain ⟨e, he, rfl⟩ := List.mem_map.1 (show o ∈ (rawE (liveL n) i).map (offerOf (saysF n tree)) by unfold offersU at ho; exact ho)
      have he : adjN n i e := he
      rw [offerU_eq h tree he]
      have hk := adj_ok h he
      have hc := fin_cost h tree hk.2.2.1
      simp only
      omega
    have hpr := pick_root h tree hi'
    have hlen : (offersU n tree i).length ≤ 80 := by
      rw [← hoe, List.length_map]
      have := rawE_le ls i
      omega
    have hrl : (portsOf n.links i).map (roleF n tree i) = (portsOf n.links i).map (fun p => if ls.any (hitL i p) then roleOf (sF n tree i) (pF n tree i) p (offersU n tree i) else 0) := by
      refine List.map_congr_left fun p _ => ?_
      rw [← roleU_eq h tree, hls]
    rw [hrl] at hnx
    have hpoi := hpo i
    have hroi := hro i (sF n tree i) (pF n tree i) (offersU n tree i)
    generalize offersU n tree i = l at hoff hob hpr hnx hroi hlen hoe
    generalize portsOf n.links i = ps at hnx hpoi hroi
    generalize ps.map (fun p => if ls.any (hitL i p) then roleOf (sF n tree i) (pF n tree i) p l else 0) = rs at hnx hroi
    generalize pF n tree i = rt at hpr hnx hroi
    generalize sF n tree i = v at hxs hxf hpr hnx hroi
    have hol : (l.map Offer.cells).length = l.length := by simp
    repeat' (first
    | (apply Stp.go; case a => constructor)
    | refine blk_hit rfl ?_ | refine blk_miss rfl ?_ | refine dnilD (by kernel_rfl) ?_ | refine DW_cond_t rfl ?_ | refine DW_cond_f rfl ?_
    | refine DW_tD rfl (by omega) ?_ | refine DW_fD rfl (by omega) ?_
    | refine dpOff rfl rfl ?_
    | ((first | apply dX rfl | apply dXon rfl rfl | apply dpMay rfl rfl (by intro h; first | trivial | exact ⟨h, trivial⟩ | exact ⟨h, h, trivial⟩ | exact ⟨h, h, h, trivial⟩)); (case h => ((try intro hg); first | exact S_mkD (f := intV1) (l := nb) (c := nb) (0 : Int) rfl rfl (by rw [hmb]) (by rw [hmb]) (Nat.le_refl _) (by omega) rfl | exact S_call hoff rfl | exact S_cT rfl rfl (by constructor) (by omega) | exact S_cF rfl rfl (by constructor) (by omega) | exact S_al rfl | exact S_bx rfl rfl | exact S_store rfl rfl rfl rfl rfl rfl | (apply Pu.ok; repeat' (first | rfl | exact .inK (by simp only [InK]; omega) | exact .inK (by simp only [InK]; simp at hg; omega) | exact .wr | constructor | decide | omega)))); (try case hp => constructor))
    | refine dpickAnd rfl rfl rfl rfl rfl ?_ | refine dpickOr rfl rfl rfl rfl rfl ?_
    | fail)
    refine DW_loop (fun k : Nat => ⟨[(1, .dat false (.int .i64 tree)), (2, .ptr 2 0), (5, .ptr 5 0), (7, .dat true (.slice (ls.map linkV))), (8, .dat true (.int .i64 (n.bridges.map bridgeV).length)), (14, .dat true (.slice ((saysF n tree).map Vec.cells))), (15, .dat true (.slice ((farN n tree).map intV1))), (24, .own 24 0 0 us.length), (254, .dat true (.int .i64 (n.bridges.map bridgeV).length)), (255, .dat true (.int .i64 i)),
        (25, .dat true (.int .i64 i)), (26, .dat true (offers l)), (27, .dat true (.int .i64 ((l.take k).foldl (pickR v.cost) (-1, .zero)).1)), (28, .ptr 28 0), (264, .dat true (.slice (l.map Offer.cells))), (265, .dat true (.int .i64 (l.map Offer.cells).length)), (266, .dat true (.int .i64 k))],
        [(2, .cells false true (n.cells.map (.dat false))), (5, .cells false true [.dat true (.int .i64 0), .dat true (.int .i64 0)]), (24, .row 0 false true 7 (us.map Place.cells)), (28, .cells false true (((l.take k).foldl (pickR v.cost) (-1, .zero)).2.cells.map (.dat true)))], 341⟩)
      (fun k => k ≤ l.length) (fun k => l.length - k) 0 (Nat.zero_le _) (Wk_g some rfl rfl (by (repeat' (first | exact trivial | rfl | exact listLe_map _ | exact ⟨_, rfl, .inl rfl⟩ | exact ⟨_, rfl, .inr (.inl rfl)⟩ | exact ⟨_, rfl, .inr (.inr rfl)⟩ | refine ⟨_, _, rfl, rfl, ?_⟩ | exact ⟨_, rfl, rfl⟩ | exact ⟨_, _, _, _, rfl, rfl, rfl⟩ | exact ⟨_, rfl⟩ | exact ⟨_, _, rfl⟩ | refine ⟨_, (rfl : D.fnd _ _ = D.fnd _ _), ?_⟩ | apply And.intro)))) (fun k hk => ?_)
    by_cases hlk2 : k < l.length
    · have hx : l[(k : Int).toNat]? = some l[k] := by simp [hlk2]
      have hx' : l[k]? = some l[k] := by simp [hlk2]
      have hbk := hob l[k] (List.getElem_mem hlk2)
      have hst := fold_take (f := pickR v.cost) (a := ((-1 : Int), Vec.zero)) hx'
      generalize l[k] = o at hx hx' hbk hst
      obtain ⟨b1, b2, b3, b4⟩ := hbk
      generalize (l.take k).foldl (pickR v.cost) ((-1 : Int), Vec.zero) = s at hst
      obtain ⟨s1, s2⟩ := s
      have hbt := ref5_Better (vOf o) s2
      have hqe := eqL_vecs (vOf o) s2
      have hE : (decide (0 < v.cost) && decide ((vOf o).cost = v.cost) && (decide (s1 < 0) || decide ((vOf o).cmp s2 < 0) || (decide (vOf o = s2) && decide (o.port < s1)))) = decide (candR v.cost o ∧ betR (s1, s2) o) := by
        unfold candR betR
        simp only [Bool.decide_and, Bool.decide_or, Bool.and_assoc, Bool.or_assoc]
      repeat' (first
    | (apply Stp.go; case a => constructor)
    | refine blk_hit rfl ?_ | refine blk_miss rfl ?_ | refine dnilD (by kernel_rfl) ?_ | refine DW_cond_t rfl ?_ | refine DW_cond_f rfl ?_
    | refine DW_tD rfl (by omega) ?_ | refine DW_fD rfl (by omega) ?_
    | refine dpOff rfl rfl ?_
    | ((first | apply dX rfl | apply dXon rfl rfl | apply dpMay rfl rfl (by intro h; first | trivial | exact ⟨h, trivial⟩ | exact ⟨h, h, trivial⟩ | exact ⟨h, h, h, trivial⟩)); (case h => ((try intro hg); first | exact S_ixM rfl rfl (by omega) hx | exact S_ixM rfl rfl (by omega) hxf | exact S_call hbt rfl | exact S_eqlA rfl rfl rfl rfl hqe | exact S_cT rfl rfl (by constructor) (by omega) | exact S_cF rfl rfl (by constructor) (by omega) | exact S_al rfl | exact S_bx rfl rfl | exact S_store rfl rfl rfl rfl rfl rfl | (apply Pu.ok; repeat' (first | rfl | exact .inK (by simp only [InK]; omega) | exact .inK (by simp only [InK]; simp at hg; omega) | exact .wr | constructor | decide | omega)))); (try case hp => constructor))
    | refine dpickAnd rfl rfl rfl rfl rfl ?_ | refine dpickOr rfl rfl rfl rfl rfl ?_
    | fail)
      refine DW_cond rfl (fun hb => ?_) (fun hb => ?_)
      · have hb2 : candR v.cost o ∧ betR (s1, s2) o := of_decide_eq_true (hE.symm.trans hb)
        have hpk2 : pickR v.cost (s1, s2) o = (o.port, vOf o) := if_pos hb2
        repeat' (first
    | (apply Stp.go; case a => constructor)
    | refine blk_hit rfl ?_ | refine blk_miss rfl ?_ | refine dnilD (by kernel_rfl) ?_ | refine DW_cond_t rfl ?_ | refine DW_cond_f rfl ?_
    | refine DW_tD rfl (by omega) ?_ | refine DW_fD rfl (by omega) ?_
    | refine dpOff rfl rfl ?_
    | ((first | apply dX rfl | apply dXon rfl rfl | apply dpMay rfl rfl (by intro h; first | trivial | exact ⟨h, trivial⟩ | exact ⟨h, h, trivial⟩ | exact ⟨h, h, h, trivial⟩)); (case h => ((try intro hg); first | exact S_al rfl | exact S_bx rfl rfl | exact S_store rfl rfl rfl rfl rfl rfl | (apply Pu.ok; repeat' (first | rfl | exact .inK (by simp only [InK]; omega) | exact .inK (by simp only [InK]; simp at hg; omega) | exact .wr | constructor | decide | omega)))); (try case hp => constructor))
    | refine dpickAnd rfl rfl rfl rfl rfl ?_ | refine dpickOr rfl rfl rfl rfl rfl ?_
    | fail)
        refine loop_again (k + 1) hlk2 (by omega) ?_
        rw [hst, hpk2]
        exact (Wk_g some rfl rfl (by (repeat' (first | exact trivial | rfl | exact listLe_map _ | exact ⟨_, rfl, .inl rfl⟩ | exact ⟨_, rfl, .inr (.inl rfl)⟩ | exact ⟨_, rfl, .inr (.inr rfl)⟩ | refine ⟨_, _, rfl, rfl, ?_⟩ | exact ⟨_, rfl, rfl⟩ | exact ⟨_, _, _, _, rfl, rfl, rfl⟩ | exact ⟨_, rfl⟩ | exact ⟨_, _, rfl⟩ | refine ⟨_, (rfl : D.fnd _ _ = D.fnd _ _), ?_⟩ | apply And.intro))))
      · have hb2 : ¬ (candR v.cost o ∧ betR (s1, s2) o) := of_decide_eq_false (hE.symm.trans hb)
        have hpk2 : pickR v.cost (s1, s2) o = (s1, s2) := if_neg hb2
        repeat' (first
    | (apply Stp.go; case a => constructor)
    | refine blk_hit rfl ?_ | refine blk_miss rfl ?_ | refine dnilD (by kernel_rfl) ?_ | refine DW_cond_t rfl ?_ | refine DW_cond_f rfl ?_
    | refine DW_tD rfl (by omega) ?_ | refine DW_fD rfl (by omega) ?_
    | refine dpOff rfl rfl ?_
    | ((first | apply dX rfl | apply dXon rfl rfl | apply dpMay rfl rfl (by intro h; first | trivial | exact ⟨h, trivial⟩ | exact ⟨h, h, trivial⟩ | exact ⟨h, h, h, trivial⟩)); (case h => ((try intro hg); first | exact S_al rfl | exact S_bx rfl rfl | exact S_store rfl rfl rfl rfl rfl rfl | (apply Pu.ok; repeat' (first | rfl | exact .inK (by simp only [InK]; omega) | exact .inK (by simp only [InK]; simp at hg; omega) | exact .wr | constructor | decide | omega)))); (try case hp => constructor))
    | refine dpickAnd rfl rfl rfl rfl rfl ?_ | refine dpickOr rfl rfl rfl rfl rfl ?_
    | fail)
        refine loop_again (k + 1) hlk2 (by omega) ?_
        rw [hst, hpk2]
        exact (Wk_g some rfl rfl (by (repeat' (first | exact trivial | rfl | exact listLe_map _ | exact ⟨_, rfl, .inl rfl⟩ | exact ⟨_, rfl, .inr (.inl rfl)⟩ | exact ⟨_, rfl, .inr (.inr rfl)⟩ | refine ⟨_, _, rfl, rfl, ?_⟩ | exact ⟨_, rfl, rfl⟩ | exact ⟨_, _, _, _, rfl, rfl, rfl⟩ | exact ⟨_, rfl⟩ | exact ⟨_, _, rfl⟩ | refine ⟨_, (rfl : D.fnd _ _ = D.fnd _ _), ?_⟩ | apply And.intro))))
    · rw [List.take_of_length_le (by omega), hpr]
      repeat' (first
    | (apply Stp.go; case a => constructor)
    | refine blk_hit rfl ?_ | refine blk_miss rfl ?_ | refine dnilD (by kernel_rfl) ?_ | refine DW_cond_t rfl ?_ | refine DW_cond_f rfl ?_
    | refine DW_tD rfl (by omega) ?_ | refine DW_fD rfl (by omega) ?_
    | refine dpOff rfl rfl ?_
    | ((first | apply dX rfl | apply dXon rfl rfl | apply dpMay rfl rfl (by intro h; first | trivial | exact ⟨h, trivial⟩ | exact ⟨h, h, trivial⟩ | exact ⟨h, h, h, trivial⟩)); (case h => ((try intro hg); first | exact S_ixM rfl rfl (by omega) hxs | exact S_call hpoi rfl | exact S_call hroi rfl | exact S_appM (f := Place.cells) (us := us) (bs := [⟨v, rt, ps, rs⟩]) rfl rfl (.dat _ _) rfl rfl (.inl rfl) rfl (by simp only [List.length_singleton]; omega) | exact S_al rfl | exact S_bx rfl rfl | exact S_store rfl rfl rfl rfl rfl rfl | (apply Pu.ok; repeat' (first | rfl | exact .inK (by simp only [InK]; omega) | exact .inK (by simp only [InK]; simp at hg; omega) | exact .wr | constructor | decide | omega)))); (try case hp => constructor))
    | refine dpickAnd rfl rfl rfl rfl rfl ?_ | refine dpickOr rfl rfl rfl rfl rfl ?_
    | fail)
      exact loop_again (i + 1, us ++ [⟨v, rt, ps, rs⟩]) ⟨hli, hnx.symm⟩ (by simp only; omega) (Wk_g some rfl rfl (by (repeat' (first | exact trivial | rfl | exact listLe_map _ | exact ⟨_, rfl, .inl rfl⟩ | exact ⟨_, rfl, .inr (.inl rfl)⟩ | exact ⟨_, rfl, .inr (.inr rfl)⟩ | refine ⟨_, _, rfl, rfl, ?_⟩ | exact ⟨_, rfl, rfl⟩ | exact ⟨_, _, _, _, rfl, rfl, rfl⟩ | exact ⟨_, rfl⟩ | exact ⟨_, _, rfl⟩ | refine ⟨_, (rfl : D.fnd _ _ = D.fnd _ _), ?_⟩ | apply And.intro))))
  · have he2 : us = planF n tree := by rw [hus, List.take_of_length_le (by omega)]
    refine DW_seal 24 rfl rfl (by simp) ?_
    repeat' (first
    | (apply Stp.go; case a => constructor)
    | refine blk_hit rfl ?_ | refine blk_miss rfl ?_ | refine dnilD (by kernel_rfl) ?_ | refine DW_cond_t rfl ?_ | refine DW_cond_f rfl ?_
    | refine DW_tD rfl (by omega) ?_ | refine DW_fD rfl (by omega) ?_
    | refine dpOff rfl rfl ?_
    | ((first | apply dX rfl | apply dXon rfl rfl | apply dpMay rfl rfl (by intro h; first | trivial | exact ⟨h, trivial⟩ | exact ⟨h, h, trivial⟩ | exact ⟨h, h, h, trivial⟩)); (case h => ((try intro hg); first | exact S_al rfl | exact S_bx rfl rfl | exact S_store rfl rfl rfl rfl rfl rfl | (apply Pu.ok; repeat' (first | rfl | exact .inK (by simp only [InK]; omega) | exact .inK (by simp only [InK]; simp at hg; omega) | exact .wr | constructor | decide | omega)))); (try case hp => constructor))
    | refine dpickAnd rfl rfl rfl rfl rfl ?_ | refine dpickOr rfl rfl rfl rfl rfl ?_
    | fail)
    refine retN (.tmp rfl (.inl rfl) (.cellA inferInstance rfl rfl rfl rfl (by first | exact .inl rfl | exact .inr (flat_of rfl)) .nil)) ?_
    rw [← he2]; rfl
end Go.Proofs.Ytkppkgahdoglpaa
