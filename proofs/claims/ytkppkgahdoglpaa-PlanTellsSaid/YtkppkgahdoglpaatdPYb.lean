/- Contract: the document's Plan: the walk's middle part, how far all are. -/
import Derived.Test.YtkppkgahdoglpaatdPYc
namespace Go.Proofs.Ytkppkgahdoglpaa
open Go.RowKit
attribute [local irreducible] SStep DW DWin DOps thenQ inBlk loopQ retQ retQG FnF FnG FnI Wk IntKind.wrap IntKind.andI IntKind.orI IntKind.xorI IntKind.andNotI IntKind.shlI IntKind.shrI Net.wrong Bridge.id Bridge.prio identR sortE sortI rawE rawP idsR liveB roleOf rolesP endsOf portsOf saysN chooseS offersOf mix liveL relaxG relaxF roundsG roundsF lowG sF pF rangeI saysI saysF far0 farN labN offersU
set_option maxRecDepth 10000 in
set_option maxHeartbeats 8000000 in
theorem planT17 (n : Net) (h : n.good) (tree : Nat) (ls : List Link) (hls : ls = liveL n)
    (hpo : ∀ b : Nat, FnF Try.prog 44 [n.v, .int .i64 b] (.slice ((portsOf n.links b).map intV1)))
    (hro : ∀ (b : Nat) (says : Vec) (root : Int) (l : List Offer), FnF Try.prog 45 [n.v, .slice ((liveL n).map linkV), .int .i64 b, says.v, .int .i64 root, offers l] (.slice (((portsOf n.links b).map (fun p => if (liveL n).any (hitL b p) then roleOf says root p l else 0)).map intV1)))
    {fn : Func} {c0 c : Code} (hfn : Try.prog.funcs[(15 : Nat)]? = some fn) (hbd : fn.body = some c0) (htl : tailO 11 c0 = some c) :
    DW Try.prog c (retQ Try.prog fn.results.toList (.tuple [.slice ((planF n tree).map Place.cells), faultV (0, 0)])) ⟨[(1, .dat false (.int .i64 tree)), (2, .ptr 2 0), (5, .ptr 5 0), (7, .dat true (.slice (ls.map linkV))), (8, .dat true (.int .i64 (n.bridges.map bridgeV).length)), (14, .own 103 0 0 n.bridges.length), (15, .own 105 0 0 n.bridges.length)], [(2, .cells false true (n.cells.map (.dat false))), (5, .cells false true [.dat true (.int .i64 0), .dat true (.int .i64 0)]), (103, .row 0 false true 4 ((saysI n tree).map Vec.cells)), (105, .row 0 false true 1 ((far0 n tree).map intV1))], 341⟩ := by
  have hfe := hfn.symm.trans Try.func15
  injection hfe with hfe
  subst hfe
  injection hbd with hbd
  subst hbd
  have hpC := planT21 n h tree ls hls hpo hro Try.func15 rfl rfl
  refine of_tail rfl htl ?_
  clear htl hfn
  have hmb : (n.bridges.map bridgeV).length = n.bridges.length := by simp
  have hnb := h.nb
  have hlk : ∀ l ∈ ls, l.ok n.bridges.length := fun l hl => h.lk l (live_sub (hls ▸ hl))
  have hll : ls.length ≤ 40 := by
    have h1 : (liveL n).length ≤ n.links.length := by unfold liveL; exact List.length_filter_le _ _
    have := h.nl
    rw [hls]; omega
  have hml : (ls.map linkV).length = ls.length := by simp
  rw [← hls] at hro
  obtain ⟨nb, hnbe⟩ : ∃ nb, nb = n.bridges.length := ⟨_, rfl⟩
  rw [← hnbe] at hnb hmb hlk ⊢
  have hfr : ∀ t, (roundsF ls (far0 n tree) t).length = nb := fun t => by rw [roundsF_len, far0_len, hnbe]
  repeat' (first
    | (apply Stp.go; case a => constructor)
    | refine blk_hit rfl ?_ | refine blk_miss rfl ?_ | refine dnilD (by kernel_rfl) ?_ | refine DW_cond_t rfl ?_ | refine DW_cond_f rfl ?_
    | refine DW_tD rfl (by omega) ?_ | refine DW_fD rfl (by omega) ?_
    | refine dpOff rfl rfl ?_
    | ((first | apply dX rfl | apply dXon rfl rfl | apply dpMay rfl rfl (by intro h; first | trivial | exact ⟨h, trivial⟩ | exact ⟨h, h, trivial⟩ | exact ⟨h, h, h, trivial⟩)); (case h => ((try intro hg); first | exact S_cT rfl rfl (by constructor) (by omega) | exact S_cF rfl rfl (by constructor) (by omega) | exact S_al rfl | exact S_bx rfl rfl | exact S_store rfl rfl rfl rfl rfl rfl | (apply Pu.ok; repeat' (first | rfl | exact .inK (by simp only [InK]; omega) | exact .inK (by simp only [InK]; simp at hg; omega) | exact .wr | constructor | decide | omega)))); (try case hp => constructor))
    | refine dpickAnd rfl rfl rfl rfl rfl ?_ | refine dpickOr rfl rfl rfl rfl rfl ?_
    | fail)
  refine DW_loop (fun t : Nat => ⟨[(1, .dat false (.int .i64 tree)), (2, .ptr 2 0), (5, .ptr 5 0), (7, .dat true (.slice (ls.map linkV))), (8, .dat true (.int .i64 (n.bridges.map bridgeV).length)), (14, .own 103 0 0 nb), (15, .own 105 0 0 nb), (175, .dat true (.int .i64 (n.bridges.map bridgeV).length)), (176, .dat true (.int .i64 t))],
      [(2, .cells false true (n.cells.map (.dat false))), (5, .cells false true [.dat true (.int .i64 0), .dat true (.int .i64 0)]), (103, .row 0 false true 4 ((saysI n tree).map Vec.cells)), (105, .row 0 false true 1 ((roundsF ls (far0 n tree) t).map intV1))], 341⟩)
    (fun t => t ≤ nb ∧ bdF (roundsF ls (far0 n tree) t)) (fun t => nb - t) 0 ⟨Nat.zero_le _, by rw [show roundsF ls (far0 n tree) 0 = far0 n tree by with_unfolding_all rfl]; exact far0_bd n tree⟩ (by rw [show roundsF ls (far0 n tree) 0 = far0 n tree by with_unfolding_all rfl]; exact Wk_g some rfl rfl (by (repeat' (first | exact trivial | rfl | exact listLe_map _ | exact ⟨_, rfl, .inl rfl⟩ | exact ⟨_, rfl, .inr (.inl rfl)⟩ | exact ⟨_, rfl, .inr (.inr rfl)⟩ | refine ⟨_, _, rfl, rfl, ?_⟩ | exact ⟨_, rfl, rfl⟩ | exact ⟨_, _, _, _, rfl, rfl, rfl⟩ | exact ⟨_, rfl⟩ | exact ⟨_, _, rfl⟩ | refine ⟨_, (rfl : D.fnd _ _ = D.fnd _ _), ?_⟩ | apply And.intro)))) (fun t htR => ?_)
  obtain ⟨htn, hbt⟩ := htR
  by_cases htl : t < nb
  · have hgl := hfr t
    repeat' (first
    | (apply Stp.go; case a => constructor)
    | refine blk_hit rfl ?_ | refine blk_miss rfl ?_ | refine dnilD (by kernel_rfl) ?_ | refine DW_cond_t rfl ?_ | refine DW_cond_f rfl ?_
    | refine DW_tD rfl (by omega) ?_ | refine DW_fD rfl (by omega) ?_
    | refine dpOff rfl rfl ?_
    | ((first | apply dX rfl | apply dXon rfl rfl | apply dpMay rfl rfl (by intro h; first | trivial | exact ⟨h, trivial⟩ | exact ⟨h, h, trivial⟩ | exact ⟨h, h, h, trivial⟩)); (case h => ((try intro hg); first | exact S_cT rfl rfl (by constructor) (by omega) | exact S_cF rfl rfl (by constructor) (by omega) | exact S_al rfl | exact S_bx rfl rfl | exact S_store rfl rfl rfl rfl rfl rfl | (apply Pu.ok; repeat' (first | rfl | exact .inK (by simp only [InK]; omega) | exact .inK (by simp only [InK]; simp at hg; omega) | exact .wr | constructor | decide | omega)))); (try case hp => constructor))
    | refine dpickAnd rfl rfl rfl rfl rfl ?_ | refine dpickOr rfl rfl rfl rfl rfl ?_
    | fail)
    refine DW_loop (fun k : Nat => ⟨[(1, .dat false (.int .i64 tree)), (2, .ptr 2 0), (5, .ptr 5 0), (7, .dat true (.slice (ls.map linkV))), (8, .dat true (.int .i64 (n.bridges.map bridgeV).length)), (14, .own 103 0 0 nb), (15, .own 105 0 0 nb), (175, .dat true (.int .i64 (n.bridges.map bridgeV).length)), (176, .dat true (.int .i64 t)), (178, .dat true (.slice (ls.map linkV))), (179, .dat true (.int .i64 (ls.map linkV).length)), (180, .dat true (.int .i64 k))],
        [(2, .cells false true (n.cells.map (.dat false))), (5, .cells false true [.dat true (.int .i64 0), .dat true (.int .i64 0)]), (103, .row 0 false true 4 ((saysI n tree).map Vec.cells)), (105, .row 0 false true 1 (((ls.take k).foldl relaxF (roundsF ls (far0 n tree) t)).map intV1))], 341⟩)
      (fun k => k ≤ ls.length ∧ bdF ((ls.take k).foldl relaxF (roundsF ls (far0 n tree) t))) (fun k => ls.length - k) 0 ⟨Nat.zero_le _, hbt⟩ (Wk_g some rfl rfl (by (repeat' (first | exact trivial | rfl | exact listLe_map _ | exact ⟨_, rfl, .inl rfl⟩ | exact ⟨_, rfl, .inr (.inl rfl)⟩ | exact ⟨_, rfl, .inr (.inr rfl)⟩ | refine ⟨_, _, rfl, rfl, ?_⟩ | exact ⟨_, rfl, rfl⟩ | exact ⟨_, _, _, _, rfl, rfl, rfl⟩ | exact ⟨_, rfl⟩ | exact ⟨_, _, rfl⟩ | refine ⟨_, (rfl : D.fnd _ _ = D.fnd _ _), ?_⟩ | apply And.intro)))) (fun k hkR => ?_)
    obtain ⟨hk2, hbd⟩ := hkR
    by_cases hlt2 : k < ls.length
    · have hx : ls[(k : Int).toNat]? = some ls[k] := by simp [hlt2]
      have hx' : ls[k]? = some ls[k] := by simp [hlt2]
      have hkl := hlk ls[k] (List.getElem_mem hlt2)
      generalize ls[k] = l at hx hx' hkl
      have hst := fold_take (f := relaxF) (a := roundsF ls (far0 n tree) t) hx'
      have hfl : ((ls.take k).foldl relaxF (roundsF ls (far0 n tree) t)).length = nb := by rw [foldF_len, hgl]
      generalize (ls.take k).foldl relaxF (roundsF ls (far0 n tree) t) = f at hst hfl hbd
      obtain ⟨k1, k2, k3, k4, k5, _, _, k8, k9⟩ := hkl
      have ha : l.a.toNat < f.length := by omega
      have hb : l.b.toNat < f.length := by omega
      have hne : l.a.toNat ≠ l.b.toNat := by omega
      have hbd2 := relaxF_bd ha hb hne k8 hbd
      have hfa := gv_one ha
      have hfb := gv_one hb
      obtain ⟨a0, a1⟩ := hbd _ ha
      obtain ⟨b0, b1⟩ := hbd _ hb
      have hrf : relaxF f l = if gv (if gv f l.a.toNat + l.cost < gv f l.b.toNat then f.set l.b.toNat (gv f l.a.toNat + l.cost) else f) l.b.toNat + l.cost < gv (if gv f l.a.toNat + l.cost < gv f l.b.toNat then f.set l.b.toNat (gv f l.a.toNat + l.cost) else f) l.a.toNat
          then (if gv f l.a.toNat + l.cost < gv f l.b.toNat then f.set l.b.toNat (gv f l.a.toNat + l.cost) else f).set l.a.toNat (gv (if gv f l.a.toNat + l.cost < gv f l.b.toNat then f.set l.b.toNat (gv f l.a.toNat + l.cost) else f) l.b.toNat + l.cost)
          else (if gv f l.a.toNat + l.cost < gv f l.b.toNat then f.set l.b.toNat (gv f l.a.toNat + l.cost) else f) := by with_unfolding_all rfl
      rw [← hst] at hbd2
      by_cases h1 : gv f l.a.toNat + l.cost < gv f l.b.toNat
      · rw [if_pos h1] at hrf
        have e1 : gv (f.set l.b.toNat (gv f l.a.toNat + l.cost)) l.b.toNat = gv f l.a.toNat + l.cost := by rw [gv_set hb, if_pos rfl]
        have e2 : gv (f.set l.b.toNat (gv f l.a.toNat + l.cost)) l.a.toNat = gv f l.a.toNat := by rw [gv_set hb, if_neg (Ne.symm hne)]
        rw [e1, e2, if_neg (by omega)] at hrf
        have hg1 := gv_one (g := f.set l.b.toNat (gv f l.a.toNat + l.cost)) (i := l.b.toNat) (by simpa using hb)
        have hg2 := gv_one (g := f.set l.b.toNat (gv f l.a.toNat + l.cost)) (i := l.a.toNat) (by simpa using ha)
        rw [e1] at hg1
        rw [e2] at hg2
        have hsl3 : (f.set l.b.toNat (gv f l.a.toNat + l.cost)).length = nb := by simpa using hfl
        repeat' (first
    | (apply Stp.go; case a => constructor)
    | refine blk_hit rfl ?_ | refine blk_miss rfl ?_ | refine dnilD (by kernel_rfl) ?_ | refine DW_cond_t rfl ?_ | refine DW_cond_f rfl ?_
    | refine DW_tD rfl (by omega) ?_ | refine DW_fD rfl (by omega) ?_
    | refine dpOff rfl rfl ?_
    | ((first | apply dX rfl | apply dXon rfl rfl | apply dpMay rfl rfl (by intro h; first | trivial | exact ⟨h, trivial⟩ | exact ⟨h, h, trivial⟩ | exact ⟨h, h, h, trivial⟩)); (case h => ((try intro hg); first | exact S_ixM rfl rfl (by omega) hx | exact S_ixO rfl rfl rfl (by omega) (by omega) | exact S_load_rptr rfl rfl hfa rfl | exact S_load_rptr rfl rfl hfb rfl | exact S_load_rptr rfl rfl hg1 rfl | exact S_load_rptr rfl rfl hg2 rfl | exact S_storeM (f := intV1) (a := gv f l.a.toNat + l.cost) rfl rfl (gv_of hb) rfl rfl (.inr ⟨rfl, inferInstance⟩) rfl rfl | exact S_cT rfl rfl (by constructor) (by omega) | exact S_cF rfl rfl (by constructor) (by omega) | exact S_al rfl | exact S_bx rfl rfl | exact S_store rfl rfl rfl rfl rfl rfl | (apply Pu.ok; repeat' (first | rfl | exact .inK (by simp only [InK]; omega) | exact .inK (by simp only [InK]; simp at hg; omega) | exact .wr | constructor | decide | omega)))); (try case hp => constructor))
    | refine dpickAnd rfl rfl rfl rfl rfl ?_ | refine dpickOr rfl rfl rfl rfl rfl ?_
    | fail)
        refine loop_again (k + 1) ⟨hlt2, hbd2⟩ (by omega) ?_
        rw [hst, hrf]
        exact (Wk_g some rfl rfl (by (repeat' (first | exact trivial | rfl | exact listLe_map _ | exact ⟨_, rfl, .inl rfl⟩ | exact ⟨_, rfl, .inr (.inl rfl)⟩ | exact ⟨_, rfl, .inr (.inr rfl)⟩ | refine ⟨_, _, rfl, rfl, ?_⟩ | exact ⟨_, rfl, rfl⟩ | exact ⟨_, _, _, _, rfl, rfl, rfl⟩ | exact ⟨_, rfl⟩ | exact ⟨_, _, rfl⟩ | refine ⟨_, (rfl : D.fnd _ _ = D.fnd _ _), ?_⟩ | apply And.intro))))
      · rw [if_neg h1] at hrf
        by_cases h2 : gv f l.b.toNat + l.cost < gv f l.a.toNat
        · rw [if_pos h2] at hrf
          repeat' (first
    | (apply Stp.go; case a => constructor)
    | refine blk_hit rfl ?_ | refine blk_miss rfl ?_ | refine dnilD (by kernel_rfl) ?_ | refine DW_cond_t rfl ?_ | refine DW_cond_f rfl ?_
    | refine DW_tD rfl (by omega) ?_ | refine DW_fD rfl (by omega) ?_
    | refine dpOff rfl rfl ?_
    | ((first | apply dX rfl | apply dXon rfl rfl | apply dpMay rfl rfl (by intro h; first | trivial | exact ⟨h, trivial⟩ | exact ⟨h, h, trivial⟩ | exact ⟨h, h, h, trivial⟩)); (case h => ((try intro hg); first | exact S_ixM rfl rfl (by omega) hx | exact S_ixO rfl rfl rfl (by omega) (by omega) | exact S_load_rptr rfl rfl hfa rfl | exact S_load_rptr rfl rfl hfb rfl | exact S_storeM (f := intV1) (a := gv f l.b.toNat + l.cost) rfl rfl (gv_of ha) rfl rfl (.inr ⟨rfl, inferInstance⟩) rfl rfl | exact S_cT rfl rfl (by constructor) (by omega) | exact S_cF rfl rfl (by constructor) (by omega) | exact S_al rfl | exact S_bx rfl rfl | exact S_store rfl rfl rfl rfl rfl rfl | (apply Pu.ok; repeat' (first | rfl | exact .inK (by simp only [InK]; omega) | exact .inK (by simp only [InK]; simp at hg; omega) | exact .wr | constructor | decide | omega)))); (try case hp => constructor))
    | refine dpickAnd rfl rfl rfl rfl rfl ?_ | refine dpickOr rfl rfl rfl rfl rfl ?_
    | fail)
          refine loop_again (k + 1) ⟨hlt2, hbd2⟩ (by omega) ?_
          rw [hst, hrf]
          exact (Wk_g some rfl rfl (by (repeat' (first | exact trivial | rfl | exact listLe_map _ | exact ⟨_, rfl, .inl rfl⟩ | exact ⟨_, rfl, .inr (.inl rfl)⟩ | exact ⟨_, rfl, .inr (.inr rfl)⟩ | refine ⟨_, _, rfl, rfl, ?_⟩ | exact ⟨_, rfl, rfl⟩ | exact ⟨_, _, _, _, rfl, rfl, rfl⟩ | exact ⟨_, rfl⟩ | exact ⟨_, _, rfl⟩ | refine ⟨_, (rfl : D.fnd _ _ = D.fnd _ _), ?_⟩ | apply And.intro))))
        · rw [if_neg h2] at hrf
          repeat' (first
    | (apply Stp.go; case a => constructor)
    | refine blk_hit rfl ?_ | refine blk_miss rfl ?_ | refine dnilD (by kernel_rfl) ?_ | refine DW_cond_t rfl ?_ | refine DW_cond_f rfl ?_
    | refine DW_tD rfl (by omega) ?_ | refine DW_fD rfl (by omega) ?_
    | refine dpOff rfl rfl ?_
    | ((first | apply dX rfl | apply dXon rfl rfl | apply dpMay rfl rfl (by intro h; first | trivial | exact ⟨h, trivial⟩ | exact ⟨h, h, trivial⟩ | exact ⟨h, h, h, trivial⟩)); (case h => ((try intro hg); first | exact S_ixM rfl rfl (by omega) hx | exact S_ixO rfl rfl rfl (by omega) (by omega) | exact S_load_rptr rfl rfl hfa rfl | exact S_load_rptr rfl rfl hfb rfl | exact S_cT rfl rfl (by constructor) (by omega) | exact S_cF rfl rfl (by constructor) (by omega) | exact S_al rfl | exact S_bx rfl rfl | exact S_store rfl rfl rfl rfl rfl rfl | (apply Pu.ok; repeat' (first | rfl | exact .inK (by simp only [InK]; omega) | exact .inK (by simp only [InK]; simp at hg; omega) | exact .wr | constructor | decide | omega)))); (try case hp => constructor))
    | refine dpickAnd rfl rfl rfl rfl rfl ?_ | refine dpickOr rfl rfl rfl rfl rfl ?_
    | fail)
          refine loop_again (k + 1) ⟨hlt2, hbd2⟩ (by omega) ?_
          rw [hst, hrf]
          exact (Wk_g some rfl rfl (by (repeat' (first | exact trivial | rfl | exact listLe_map _ | exact ⟨_, rfl, .inl rfl⟩ | exact ⟨_, rfl, .inr (.inl rfl)⟩ | exact ⟨_, rfl, .inr (.inr rfl)⟩ | refine ⟨_, _, rfl, rfl, ?_⟩ | exact ⟨_, rfl, rfl⟩ | exact ⟨_, _, _, _, rfl, rfl, rfl⟩ | exact ⟨_, rfl⟩ | exact ⟨_, _, rfl⟩ | refine ⟨_, (rfl : D.fnd _ _ = D.fnd _ _), ?_⟩ | apply And.intro))))
    · have he : (ls.take k).foldl relaxF (roundsF ls (far0 n tree) t) = roundsF ls (far0 n tree) (t + 1) := by
        rw [List.take_of_length_le (by omega)]; with_unfolding_all rfl
      rw [he] at hbd ⊢
      repeat' (first
    | (apply Stp.go; case a => constructor)
    | refine blk_hit rfl ?_ | refine blk_miss rfl ?_ | refine dnilD (by kernel_rfl) ?_ | refine DW_cond_t rfl ?_ | refine DW_cond_f rfl ?_
    | refine DW_tD rfl (by omega) ?_ | refine DW_fD rfl (by omega) ?_
    | refine dpOff rfl rfl ?_
    | ((first | apply dX rfl | apply dXon rfl rfl | apply dpMay rfl rfl (by intro h; first | trivial | exact ⟨h, trivial⟩ | exact ⟨h, h, trivial⟩ | exact ⟨h, h, h, trivial⟩)); (case h => ((try intro hg); first | exact S_cT rfl rfl (by constructor) (by omega) | exact S_cF rfl rfl (by constructor) (by omega) | exact S_al rfl | exact S_bx rfl rfl | exact S_store rfl rfl rfl rfl rfl rfl | (apply Pu.ok; repeat' (first | rfl | exact .inK (by simp only [InK]; omega) | exact .inK (by simp only [InK]; simp at hg; omega) | exact .wr | constructor | decide | omega)))); (try case hp => constructor))
    | refine dpickAnd rfl rfl rfl rfl rfl ?_ | refine dpickOr rfl rfl rfl rfl rfl ?_
    | fail)
      exact loop_again (t + 1) ⟨htl, hbd⟩ (by omega) (Wk_g some rfl rfl (by (repeat' (first | exact trivial | rfl | exact listLe_map _ | exact ⟨_, rfl, .inl rfl⟩ | exact ⟨_, rfl, .inr (.inl rfl)⟩ | exact ⟨_, rfl, .inr (.inr rfl)⟩ | refine ⟨_, _, rfl, rfl, ?_⟩ | exact ⟨_, rfl, rfl⟩ | exact ⟨_, _, _, _, rfl, rfl, rfl⟩ | exact ⟨_, rfl⟩ | exact ⟨_, _, rfl⟩ | refine ⟨_, (rfl : D.fnd _ _ = D.fnd _ _), ?_⟩ | apply And.intro))))
  rw [show t = nb by omega, show roundsF ls (far0 n tree) nb = farN n tree by rw [hls, hnbe]; with_unfolding_all rfl]
  have hfn : (farN n tree).length = nb := by rw [← hfr nb, hls, hnbe]; with_unfolding_all rfl
  refine DW_seal 15 rfl rfl (by rw [List.length_map, hfn]) ?_
  have hsI : (saysF n tree).length = (saysI n tree).length := by rw [saysI_len, saysF_len]
  have hsFl := saysF_len n tree
  have hsIl := saysI_len n tree
  repeat' (first
    | (apply Stp.go; case a => constructor)
    | refine blk_hit rfl ?_ | refine blk_miss rfl ?_ | refine dnilD (by kernel_rfl) ?_ | refine DW_cond_t rfl ?_ | refine DW_cond_f rfl ?_
    | refine DW_tD rfl (by omega) ?_ | refine DW_fD rfl (by omega) ?_
    | refine dpOff rfl rfl ?_
    | ((first | apply dX rfl | apply dXon rfl rfl | apply dpMay rfl rfl (by intro h; first | trivial | exact ⟨h, trivial⟩ | exact ⟨h, h, trivial⟩ | exact ⟨h, h, h, trivial⟩)); (case h => ((try intro hg); first | exact S_cT rfl rfl (by constructor) (by omega) | exact S_cF rfl rfl (by constructor) (by omega) | exact S_al rfl | exact S_bx rfl rfl | exact S_store rfl rfl rfl rfl rfl rfl | (apply Pu.ok; repeat' (first | rfl | exact .inK (by simp only [InK]; omega) | exact .inK (by simp only [InK]; simp at hg; omega) | exact .wr | constructor | decide | omega)))); (try case hp => constructor))
    | refine dpickAnd rfl rfl rfl rfl rfl ?_ | refine dpickOr rfl rfl rfl rfl rfl ?_
    | fail)
  refine DW_loop (fun i : Nat => ⟨[(1, .dat false (.int .i64 tree)), (2, .ptr 2 0), (5, .ptr 5 0), (7, .dat true (.slice (ls.map linkV))), (8, .dat true (.int .i64 (n.bridges.map bridgeV).length)), (14, .own 103 0 0 nb), (15, .dat true (.slice ((farN n tree).map intV1))), (239, .dat true (.int .i64 nb)), (240, .dat true (.int .i64 i))],
      [(2, .cells false true (n.cells.map (.dat false))), (5, .cells false true [.dat true (.int .i64 0), .dat true (.int .i64 0)]), (103, .row 0 false true 4 ((mix (saysF n tree) (saysI n tree) i).map Vec.cells))], 341⟩)
    (fun i => i ≤ nb) (fun i => nb - i) 0 (Nat.zero_le _) (by rw [mix_zero]; exact Wk_g some rfl rfl (by (repeat' (first | exact trivial | rfl | exact listLe_map _ | exact ⟨_, rfl, .inl rfl⟩ | exact ⟨_, rfl, .inr (.inl rfl)⟩ | exact ⟨_, rfl, .inr (.inr rfl)⟩ | refine ⟨_, _, rfl, rfl, ?_⟩ | exact ⟨_, rfl, rfl⟩ | exact ⟨_, _, _, _, rfl, rfl, rfl⟩ | exact ⟨_, rfl⟩ | exact ⟨_, _, rfl⟩ | refine ⟨_, (rfl : D.fnd _ _ = D.fnd _ _), ?_⟩ | apply And.intro)))) (fun i hi => ?_)
  by_cases hli : i < nb
  · have hi' : i < n.bridges.length := by omega
    have hu : (mix (saysF n tree) (saysI n tree) i)[(i : Int).toNat]? = some ⟨(sF n tree i).root, 0, idN n tree i, 0⟩ := by rw [Int.toNat_natCast, mix_get hsI]; exact saysI_get hi'
    have hxf : (farN n tree)[(i : Int).toNat]? = some (gv (farN n tree) i) := gv_of (by omega)
    have hv : sF n tree i = ⟨(sF n tree i).root, gv (farN n tree) i, idN n tree i, 0⟩ := by
      obtain ⟨q1, q2⟩ := sF_ids (tree := tree) hi'
      rw [far_fin h tree hi', ← q1, ← q2]
    have hset := mix_set hsI (saysF_get (tree := tree) hi')
    rw [hv] at hset
    have hgl : (mix (saysF n tree) (saysI n tree) i).length = nb := by rw [mix_len hsI]; omega
    generalize mix (saysF n tree) (saysI n tree) i = G at hset hu hgl
    generalize gv (farN n tree) i = c at hset hxf hv
    generalize (sF n tree i).root = r at hset hu
    generalize idN n tree i = me at hset hu
    repeat' (first
    | (apply Stp.go; case a => constructor)
    | refine blk_hit rfl ?_ | refine blk_miss rfl ?_ | refine dnilD (by kernel_rfl) ?_ | refine DW_cond_t rfl ?_ | refine DW_cond_f rfl ?_
    | refine DW_tD rfl (by omega) ?_ | refine DW_fD rfl (by omega) ?_
    | refine dpOff rfl rfl ?_
    | ((first | apply dX rfl | apply dXon rfl rfl | apply dpMay rfl rfl (by intro h; first | trivial | exact ⟨h, trivial⟩ | exact ⟨h, h, trivial⟩ | exact ⟨h, h, h, trivial⟩)); (case h => ((try intro hg); first | exact S_ixM rfl rfl (by omega) hxf | exact S_ixO rfl rfl rfl (by omega) (by omega) | exact S_storeM (f := Vec.cells) (a := ⟨r, c, me, 0⟩) rfl rfl hu rfl rfl (.inr ⟨rfl, inferInstance⟩) rfl rfl | exact S_cT rfl rfl (by constructor) (by omega) | exact S_cF rfl rfl (by constructor) (by omega) | exact S_al rfl | exact S_bx rfl rfl | exact S_store rfl rfl rfl rfl rfl rfl | (apply Pu.ok; repeat' (first | rfl | exact .inK (by simp only [InK]; omega) | exact .inK (by simp only [InK]; simp at hg; omega) | exact .wr | constructor | decide | omega)))); (try case hp => constructor))
    | refine dpickAnd rfl rfl rfl rfl rfl ?_ | refine dpickOr rfl rfl rfl rfl rfl ?_
    | fail)
    refine loop_again (i + 1) hli (by omega) ?_
    rw [← hset]
    exact (Wk_g some rfl rfl (by (repeat' (first | exact trivial | rfl | exact listLe_map _ | exact ⟨_, rfl, .inl rfl⟩ | exact ⟨_, rfl, .inr (.inl rfl)⟩ | exact ⟨_, rfl, .inr (.inr rfl)⟩ | refine ⟨_, _, rfl, rfl, ?_⟩ | exact ⟨_, rfl, rfl⟩ | exact ⟨_, _, _, _, rfl, rfl, rfl⟩ | exact ⟨_, rfl⟩ | exact ⟨_, _, rfl⟩ | refine ⟨_, (rfl : D.fnd _ _ = D.fnd _ _), ?_⟩ | apply And.intro))))
  rw [mix_all hsI (by omega)]
  refine DW_seal 14 rfl rfl (by rw [List.length_map, hsFl, hnbe]) ?_
  repeat' (first
    | refine DW_weak ?_ hpC
    | (apply Stp.go; case a => constructor)
    | refine blk_hit rfl ?_ | refine blk_miss rfl ?_ | refine dnilD (by kernel_rfl) ?_ | refine DW_cond_t rfl ?_ | refine DW_cond_f rfl ?_
    | refine DW_tD rfl (by omega) ?_ | refine DW_fD rfl (by omega) ?_
    | refine dpOff rfl rfl ?_
    | ((first | apply dX rfl | apply dXon rfl rfl | apply dpMay rfl rfl (by intro h; first | trivial | exact ⟨h, trivial⟩ | exact ⟨h, h, trivial⟩ | exact ⟨h, h, h, trivial⟩)); (case h => ((try intro hg); first | exact S_cT rfl rfl (by constructor) (by omega) | exact S_cF rfl rfl (by constructor) (by omega) | exact S_al rfl | exact S_bx rfl rfl | exact S_store rfl rfl rfl rfl rfl rfl | (apply Pu.ok; repeat' (first | rfl | exact .inK (by simp only [InK]; omega) | exact .inK (by simp only [InK]; simp at hg; omega) | exact .wr | constructor | decide | omega)))); (try case hp => constructor))
    | refine dpickAnd rfl rfl rfl rfl rfl ?_ | refine dpickOr rfl rfl rfl rfl rfl ?_
    | fail)
  exact (Wk_g some rfl rfl (by (repeat' (first | exact trivial | rfl | exact listLe_map _ | exact ⟨_, rfl, .inl rfl⟩ | exact ⟨_, rfl, .inr (.inl rfl)⟩ | exact ⟨_, rfl, .inr (.inr rfl)⟩ | refine ⟨_, _, rfl, rfl, ?_⟩ | exact ⟨_, rfl, rfl⟩ | exact ⟨_, _, _, _, rfl, rfl, rfl⟩ | exact ⟨_, rfl⟩ | exact ⟨_, _, rfl⟩ | refine ⟨_, (rfl : D.fnd _ _ = D.fnd _ _), ?_⟩ | apply And.intro))))
end Go.Proofs.Ytkppkgahdoglpaa
