/- Contracts: the document's Live; the plan laws' role, forwards, alive. -/
import Derived.Test.YtpgcemabkjmliaaGreatzdTlw
import Derived.Test.YtpgcemabkjmliaaGreatzcTlk
import Derived.Test.YtpgcemabkjmliaaGreatzdPlN
namespace Go.Proofs.YtpgcemabkjmliaaGreat
open Go.RowKit
theorem startA_cases (n : Net) (trees : Int) : ((startA n trees).2.1 ≠ 0 ∧ (startA n trees).1 = []) ∨ (n.wrong.1 = 0 ∧ 1 ≤ trees ∧ trees ≤ 4 ∧ startA n trees = (start0 n trees.toNat, (0, 0))) := by
  unfold startA
  by_cases h0 : n.wrong.1 ≠ 0
  · rw [if_pos h0]; exact .inl ⟨h0, rfl⟩
  · rw [if_neg h0]
    by_cases h1 : trees < 1 ∨ 4 < trees
    · rw [if_pos h1]; exact .inl ⟨by decide, rfl⟩
    · rw [if_neg h1]; exact .inr ⟨Decidable.not_not.1 h0, by omega, by omega, rfl⟩
theorem playA_cases {n : Net} (ht : n.typed) (trees : Int) (l : List Doing) : (∃ f, playA n trees l = (none, f) ∧ f.1 ≠ 0) ∨ (n.good ∧ n.wrong.1 = 0 ∧ 1 ≤ trees ∧ trees ≤ 4 ∧ l.length ≤ 30 ∧ ∃ r, onLoop 0 l n (start0 n trees.toNat) = (some r, (0, 0)) ∧ playA n trees l = (some r, (0, 0))) := by
  unfold playA
  rcases startA_cases n trees with ⟨h1, _⟩ | ⟨h0, h1, h2, he⟩
  · rw [if_pos h1]; exact .inl ⟨_, rfl, h1⟩
  · rw [he]
    simp only [ne_eq, not_true_eq_false, if_false]
    unfold onA
    rw [if_neg (by omega)]
    by_cases hl : 30 < l.length
    · rw [if_pos hl]; exact .inl ⟨_, rfl, by decide⟩
    · rw [if_neg hl]
      have hg := ((Net.wrong_iff ht).1 h0).1
      have key := onLoop_good l 0 n (start0 n trees.toNat) hg (start0_good (by omega))
      have bad := onLoop_bad l 0 n (start0 n trees.toNat)
      generalize onLoop 0 l n (start0 n trees.toNat) = r at key bad
      obtain ⟨r, f⟩ := r
      cases r with
      | none => exact .inl ⟨f, rfl, bad rfl⟩
      | some r =>
        have := (key r rfl).2.2.2.2
        simp only at this
        subst this
        exact .inr ⟨hg, h0, h1, h2, by omega, r, rfl, rfl⟩
theorem net_typed {n m : Net} (ht : n.typed) (k : Kin n m) : m.typed where
  ad b hb := by
    obtain ⟨i, hi, hx⟩ := List.mem_iff_getElem.1 hb
    have e : (m.bridges.map keyB)[i]? = some (keyB b) := by rw [List.getElem?_map, List.getElem?_eq_getElem hi, hx]; rfl
    rw [k.br, List.getElem?_map] at e
    obtain ⟨c, hc, he⟩ := Option.map_eq_some_iff.1 e
    have := ht.ad c (List.mem_of_getElem? hc)
    unfold keyB at he
    injection he with he1 he2
    omega
  wy b hb := by
    obtain ⟨i, hi, hx⟩ := List.mem_iff_getElem.1 hb
    have e : (m.bridges.map keyB)[i]? = some (keyB b) := by rw [List.getElem?_map, List.getElem?_eq_getElem hi, hx]; rfl
    rw [k.br, List.getElem?_map] at e
    obtain ⟨c, hc, he⟩ := Option.map_eq_some_iff.1 e
    have := ht.wy c (List.mem_of_getElem? hc)
    unfold keyB at he
    injection he with he1 he2
    rw [← he2]; exact this
theorem wrong_kin {n m : Net} (ht : n.typed) (h0 : n.wrong.1 = 0) (k : Kin n m) (hg : m.good) : m.wrong.1 = 0 := by
  refine (Net.wrong_iff (net_typed ht k)).2 ⟨hg, fun b hb => ?_⟩
  obtain ⟨i, hi, hx⟩ := List.mem_iff_getElem.1 hb
  have e : (m.bridges.map keyB)[i]? = some (keyB b) := by rw [List.getElem?_map, List.getElem?_eq_getElem hi, hx]; rfl
  rw [k.br, List.getElem?_map] at e
  obtain ⟨c, hc, he⟩ := Option.map_eq_some_iff.1 e
  have := ((Net.wrong_iff ht).1 h0).2 c (List.mem_of_getElem? hc)
  unfold keyB at he
  injection he with he1 he2
  rw [← he2]; exact this
attribute [local irreducible] SStep DW DWin DOps thenQ inBlk loopQ retQ retQG FnF FnG FnI FnM Wk IntKind.wrap IntKind.andI IntKind.orI IntKind.xorI IntKind.andNotI IntKind.shlI IntKind.shrI Net.wrong onA startA
set_option maxHeartbeats 4000000 in
theorem talk_Play (n : Net) (ht : n.typed) (trees : Int) (l : List Doing) : FnF Tryz.prog 8 [n.v, .int .i64 trees, .slice (l.map Doing.cells)] (onV (playA n trees l)) := by
  refine fnF_of Tryz.func8 rfl rfl rfl ?_
  simp only [envOf]
  have hs := talk_Start n ht trees
  unfold playA
  rcases startA_cases n trees with ⟨h1, h2⟩ | ⟨h0, h1, h2, he⟩
  · rw [if_pos h1]
    rw [h2] at hs
    generalize (startA n trees).2 = f at hs h1 ⊢
    obtain ⟨e, i⟩ := f
    simp only at h1
    repeat' (first | (apply Wa; constructor) | refine Wb rfl ?_ | refine Wc rfl ?_ | refine Wd (by kernel_rfl) ?_ | refine We rfl ?_ | refine Wf rfl ?_ | refine Wg rfl (by omega) ?_ | refine Wh rfl (by omega) ?_ | refine Wi rfl rfl ?_ | ((first | apply dX rfl | apply Da rfl rfl | apply Db rfl rfl (by intro h; first | trivial | exact ⟨h, trivial⟩ | exact ⟨h, h, trivial⟩)); (focus ((try intro hg); first | exact S_call hs rfl | exact Ca rfl rfl (by constructor) (by omega) | exact Cb rfl rfl (by constructor) (by omega) | exact S_al rfl | exact S_bx rfl rfl | exact S_store rfl rfl rfl rfl rfl rfl | (apply Pu.ok; repeat' (first | rfl | exact .inK (by simp only [InK]; omega) | exact .wr | constructor | decide | omega)))); constructor) | refine Pa rfl rfl rfl rfl rfl ?_ | refine Po rfl rfl rfl rfl rfl ?_ | fail)
    refine retN (.cellA inferInstance rfl rfl rfl rfl (by first | exact .inl rfl | exact .inr (flat_of rfl)) (.cellA inferInstance rfl rfl rfl rfl (by first | exact .inl rfl | exact .inr (flat_of rfl)) (.cellA inferInstance rfl rfl rfl rfl (by first | exact .inl rfl | exact .inr (flat_of rfl)) .nil))) ?_
    rfl
  · rw [he] at hs ⊢
    have hon := talk_On n ht (start0 n trees.toNat) (fun _ => ⟨start0_good (by omega), by simp [start0]; omega⟩) l
    simp only at hs
    simp only [ne_eq, not_true_eq_false, if_false]
    generalize onA n (start0 n trees.toNat) l = r at hon ⊢
    obtain ⟨o, f⟩ := r
    cases o with
    | none =>
      repeat' (first | (apply Wa; constructor) | refine Wb rfl ?_ | refine Wc rfl ?_ | refine Wd (by kernel_rfl) ?_ | refine We rfl ?_ | refine Wf rfl ?_ | refine Wg rfl (by omega) ?_ | refine Wh rfl (by omega) ?_ | refine Wi rfl rfl ?_ | ((first | apply dX rfl | apply Da rfl rfl | apply Db rfl rfl (by intro h; first | trivial | exact ⟨h, trivial⟩ | exact ⟨h, h, trivial⟩)); (focus ((try intro hg); first | exact S_call hs rfl | exact S_call hon rfl | exact Ca rfl rfl (by constructor) (by omega) | exact Cb rfl rfl (by constructor) (by omega) | exact S_al rfl | exact S_bx rfl rfl | exact S_store rfl rfl rfl rfl rfl rfl | (apply Pu.ok; repeat' (first | rfl | exact .inK (by simp only [InK]; omega) | exact .wr | constructor | decide | omega)))); constructor) | refine Pa rfl rfl rfl rfl rfl ?_ | refine Po rfl rfl rfl rfl rfl ?_ | fail)
      refine retN (.cellA inferInstance rfl rfl rfl rfl (by first | exact .inl rfl | exact .inr (flat_of rfl)) (.cellA inferInstance rfl rfl rfl rfl (by first | exact .inl rfl | exact .inr (flat_of rfl)) (.cellA inferInstance rfl rfl rfl rfl (by first | exact .inl rfl | exact .inr (flat_of rfl)) .nil))) ?_
      rfl
    | some p =>
      repeat' (first | (apply Wa; constructor) | refine Wb rfl ?_ | refine Wc rfl ?_ | refine Wd (by kernel_rfl) ?_ | refine We rfl ?_ | refine Wf rfl ?_ | refine Wg rfl (by omega) ?_ | refine Wh rfl (by omega) ?_ | refine Wi rfl rfl ?_ | ((first | apply dX rfl | apply Da rfl rfl | apply Db rfl rfl (by intro h; first | trivial | exact ⟨h, trivial⟩ | exact ⟨h, h, trivial⟩)); (focus ((try intro hg); first | exact S_call hs rfl | exact S_call hon rfl | exact Ca rfl rfl (by constructor) (by omega) | exact Cb rfl rfl (by constructor) (by omega) | exact S_al rfl | exact S_bx rfl rfl | exact S_store rfl rfl rfl rfl rfl rfl | (apply Pu.ok; repeat' (first | rfl | exact .inK (by simp only [InK]; omega) | exact .wr | constructor | decide | omega)))); constructor) | refine Pa rfl rfl rfl rfl rfl ?_ | refine Po rfl rfl rfl rfl rfl ?_ | fail)
      refine retN (.cellA inferInstance rfl rfl rfl rfl (by first | exact .inl rfl | exact .inr (flat_of rfl)) (.cellA inferInstance rfl rfl rfl rfl (by first | exact .inl rfl | exact .inr (flat_of rfl)) (.cellA inferInstance rfl rfl rfl rfl (by first | exact .inl rfl | exact .inr (flat_of rfl)) .nil))) ?_
      rfl
end Go.Proofs.YtpgcemabkjmliaaGreat
namespace Go.Proofs.YtpgcemabkjmliaaGreat
open Go.RowKit
def net2 : Net := ⟨[⟨1, [], ⟨[114], 0, []⟩⟩, ⟨2, [], ⟨[114], 0, []⟩⟩], [⟨0, 1, 1, 2, 5, true⟩]⟩
theorem net2_typed : net2.typed := ⟨fun b hb => by simp [net2] at hb; rcases hb with rfl | rfl <;> decide, fun b hb => by simp [net2] at hb; rcases hb with rfl | rfl <;> decide⟩
theorem net2_wrong : net2.wrong = (0, 0) := by with_unfolding_all decide
theorem net2_good : net2.good := ((Net.wrong_iff net2_typed).1 (by rw [net2_wrong])).1
theorem net2_live : liveL net2 = net2.links := by
  rw [liveL_one ⟨[114], 0, []⟩ (fun b hb => by simp [net2] at hb; rcases hb with rfl | rfl <;> rfl) (fun l hl => by simp [net2] at hl; subst hl; decide)]
  with_unfolding_all rfl
attribute [local irreducible] SStep DW DWin DOps thenQ inBlk loopQ retQ retQG FnF FnG FnI Wk IntKind.wrap IntKind.andI IntKind.orI IntKind.xorI IntKind.andNotI IntKind.shlI IntKind.shrI Net.wrong Bridge.id Bridge.prio identR idsR liveB mix
set_option maxHeartbeats 4000000 in
theorem ref6_Live (n : Net) (h : n.good) : FnF Tryz.prog 37 [n.v] (.slice ((liveL n).map linkV)) := by
  refine fnF_of Tryz.func37 rfl rfl rfl ?_
  simp only [envOf]
  have hmb : (n.bridges.map bridgeV).length = n.bridges.length := by simp
  have hml : (n.links.map linkV).length = n.links.length := by simp
  have hnb := h.nb
  have hnl := h.nl
  obtain ⟨nb, hnbe⟩ : ∃ nb, nb = n.bridges.length := ⟨_, rfl⟩
  rw [← hnbe] at hnb hmb
  repeat' (first | (apply dt rfl; case h => exact S_mkM (f := bytesR) (l := nb) (c := nb) [] _ rfl rfl (by rw [hmb]) (by rw [hmb]) (Nat.le_refl _) (by omega) rfl rfl) | (apply Wa; constructor) | refine Wb rfl ?_ | refine Wc rfl ?_ | refine Wd (by kernel_rfl) ?_ | refine We rfl ?_ | refine Wf rfl ?_ | refine Wi rfl rfl ?_ | ((first | apply dX rfl | apply Da rfl rfl | apply Db rfl rfl (by intro h; first | trivial | exact ⟨h, trivial⟩ | exact ⟨h, h, trivial⟩)); (focus ((try intro hg); first | exact S_al rfl | exact S_bx rfl rfl | exact S_store rfl rfl rfl rfl rfl rfl | (apply Pu.ok; repeat' (first | rfl | exact .inK (by simp only [InK]; omega) | exact .wr | constructor | decide | omega)))); constructor) | refine Pa rfl rfl rfl rfl rfl ?_ | refine Po rfl rfl rfl rfl rfl ?_ | fail)
  have hil : (idsR n.bridges).length = (List.replicate nb ([] : List UInt8)).length := by unfold idsR; simp [hnbe]
  refine DW_loop (fun k : Nat => ⟨[(1, .ptr 1 0), (3, .nil), (4, .own 12 0 0 nb), (14, .dat false (.slice (n.bridges.map bridgeV))), (15, .dat true (.int .i64 (n.bridges.map bridgeV).length)), (16, .dat true (.int .i64 k))],
      [(1, .cells false true (n.cells.map (.dat false))), (12, .row 0 false true 1 ((mix (idsR n.bridges) (List.replicate nb []) k).map bytesR))], 56⟩)
    (fun k => k ≤ nb) (fun k => nb - k) 0 (Nat.zero_le _)
    (by rw [mix_zero]; exact Wk_g some rfl rfl (by (repeat' (first | exact trivial | rfl | exact listLe_map _ | exact ⟨_, rfl, .inl rfl⟩ | exact ⟨_, rfl, .inr (.inl rfl)⟩ | exact ⟨_, rfl, .inr (.inr rfl)⟩ | refine ⟨_, _, rfl, rfl, ?_⟩ | exact ⟨_, rfl, rfl⟩ | exact ⟨_, _, _, _, rfl, rfl, rfl⟩ | exact ⟨_, rfl⟩ | exact ⟨_, _, rfl⟩ | apply And.intro)))) (fun k hk => ?_)
  by_cases hlt : k < nb
  · have hx : n.bridges[(k : Int).toNat]? = some (n.bridges[k]'(by omega)) := by simp [show k < n.bridges.length by omega]
    have hbo := h.br (n.bridges[k]'(by omega)) (List.getElem_mem _)
    have hs0 : (idsR n.bridges)[k]? = some (identR (n.bridges[k]'(by omega)).region) := by unfold idsR; simp [show k < n.bridges.length by omega]
    generalize n.bridges[k]'(by omega) = b at hx hbo hs0
    have hid := ref3_Ident b.region hbo.r
    have hset := mix_set hil hs0
    have hu : (mix (idsR n.bridges) (List.replicate nb []) k)[(k : Int).toNat]? = some [] := by rw [Int.toNat_natCast, mix_get hil]; simp [hlt]
    repeat' (first | (apply Wa; constructor) | refine Wb rfl ?_ | refine Wc rfl ?_ | refine Wd (by kernel_rfl) ?_ | refine We rfl ?_ | refine Wf rfl ?_ | refine Wg rfl (by omega) ?_ | refine Wh rfl (by omega) ?_ | refine Wi rfl rfl ?_ | ((first | apply dX rfl | apply Da rfl rfl | apply Db rfl rfl (by intro h; first | trivial | exact ⟨h, trivial⟩ | exact ⟨h, h, trivial⟩)); (focus ((try intro hg); first | exact S_ixM rfl rfl (by omega) hx | exact S_call hid rfl | exact S_ixO rfl rfl rfl (by omega) (by omega) | exact S_storeM (f := bytesR) (a := identR b.region) rfl rfl hu rfl rfl (.inl rfl) rfl rfl | exact S_al rfl | exact S_bx rfl rfl | exact S_store rfl rfl rfl rfl rfl rfl | (apply Pu.ok; repeat' (first | rfl | exact .inK (by simp only [InK]; omega) | exact .wr | constructor | decide | omega)))); constructor) | refine Pa rfl rfl rfl rfl rfl ?_ | refine Po rfl rfl rfl rfl rfl ?_ | fail)
    refine loop_again (k + 1) hlt (by omega) ?_
    rw [← hset]
    exact (Wk_g some rfl rfl (by (repeat' (first | exact trivial | rfl | exact listLe_map _ | exact ⟨_, rfl, .inl rfl⟩ | exact ⟨_, rfl, .inr (.inl rfl)⟩ | exact ⟨_, rfl, .inr (.inr rfl)⟩ | refine ⟨_, _, rfl, rfl, ?_⟩ | exact ⟨_, rfl, rfl⟩ | exact ⟨_, _, _, _, rfl, rfl, rfl⟩ | exact ⟨_, rfl⟩ | exact ⟨_, _, rfl⟩ | apply And.intro))))
  · rw [mix_all hil (by simp; omega)]
    have hil2 : (idsR n.bridges).length = nb := by rw [hil]; simp
    refine DW_seal 4 rfl rfl (by rw [List.length_map, hil2]) ?_
    repeat' (first | (apply Wa; constructor) | refine Wb rfl ?_ | refine Wc rfl ?_ | refine Wd (by kernel_rfl) ?_ | refine We rfl ?_ | refine Wf rfl ?_ | refine Wg rfl (by omega) ?_ | refine Wh rfl (by omega) ?_ | refine Wi rfl rfl ?_ | ((first | apply dX rfl | apply Da rfl rfl | apply Db rfl rfl (by intro h; first | trivial | exact ⟨h, trivial⟩ | exact ⟨h, h, trivial⟩)); (focus ((try intro hg); first | exact S_al rfl | exact S_bx rfl rfl | exact S_store rfl rfl rfl rfl rfl rfl | (apply Pu.ok; repeat' (first | rfl | exact .inK (by simp only [InK]; omega) | exact .wr | constructor | decide | omega)))); constructor) | refine Pa rfl rfl rfl rfl rfl ?_ | refine Po rfl rfl rfl rfl rfl ?_ | fail)
    refine DW_loop (fun p : Nat × List Link => ⟨[(3, .own 3 0 0 p.2.length), (4, .dat true (.slice ((idsR n.bridges).map bytesR))), (29, .dat false (.slice (n.links.map linkV))), (30, .dat true (.int .i64 (n.links.map linkV).length)), (31, .dat true (.int .i64 p.1))],
        [(3, .row 0 false true 6 (p.2.map linkV))], 56⟩)
      (fun p => p.1 ≤ n.links.length ∧ p.2 = (n.links.take p.1).filter (liveB n.bridges)) (fun p => n.links.length - p.1) (0, []) ⟨Nat.zero_le _, rfl⟩
      (Wk_g (fun g => if g = 3 then none else some g) rfl rfl (by (repeat' (first | exact trivial | rfl | exact listLe_map _ | exact ⟨_, rfl, .inl rfl⟩ | exact ⟨_, rfl, .inr (.inl rfl)⟩ | exact ⟨_, rfl, .inr (.inr rfl)⟩ | refine ⟨_, _, rfl, rfl, ?_⟩ | exact ⟨_, rfl, rfl⟩ | exact ⟨_, _, _, _, rfl, rfl, rfl⟩ | exact ⟨_, rfl⟩ | exact ⟨_, _, rfl⟩ | apply And.intro)))) (fun p hR => ?_)
    obtain ⟨k2, us⟩ := p
    obtain ⟨hk2, hus⟩ := hR
    simp only at hk2 hus
    dsimp only
    have hul : us.length ≤ 40 := by
      rw [hus]
      have := live_le n k2
      omega
    by_cases hlt2 : k2 < n.links.length
    · have hx : n.links[(k2 : Int).toNat]? = some n.links[k2] := by simp [hlt2]
      have hl := h.lk n.links[k2] (List.getElem_mem hlt2)
      have hst := live_take (bs := n.bridges) (show n.links[k2]? = some n.links[k2] by simp [hlt2])
      rw [← hus] at hst
      generalize n.links[k2] = l at hx hl hst
      have ha0 := hl.a0
      have hb0 := hl.b0
      have hxa : (idsR n.bridges)[l.a.toNat]? = some ((idsR n.bridges)[l.a.toNat]'(by have := hl.a1; omega)) := List.getElem?_eq_getElem _
      have hxb : (idsR n.bridges)[l.b.toNat]? = some ((idsR n.bridges)[l.b.toNat]'(by have := hl.b1; omega)) := List.getElem?_eq_getElem _
      generalize (idsR n.bridges)[l.a.toNat]'(by have := hl.a1; omega) = ra at hxa
      generalize (idsR n.bridges)[l.b.toNat]'(by have := hl.b1; omega) = rb at hxb
      have hbe := ref1_SameG ra rb
      have hlv : liveB n.bridges l = (l.up && decide (ra = rb)) := by with_unfolding_all (unfold liveB; rw [hxa, hxb]; simp)
      rw [hlv] at hst
      obtain ⟨a, pa, b, pb, cost, up⟩ := l
      cases up with
      | false =>
        simp only [Bool.false_and, Bool.false_eq_true, if_false, List.append_nil] at hst
        repeat' (first | (apply Wa; constructor) | refine Wb rfl ?_ | refine Wc rfl ?_ | refine Wd (by kernel_rfl) ?_ | refine We rfl ?_ | refine Wf rfl ?_ | refine Wg rfl (by omega) ?_ | refine Wh rfl (by omega) ?_ | refine Wi rfl rfl ?_ | ((first | apply dX rfl | apply Da rfl rfl | apply Db rfl rfl (by intro h; first | trivial | exact ⟨h, trivial⟩ | exact ⟨h, h, trivial⟩)); (focus ((try intro hg); first | exact S_ixM rfl rfl (by omega) hx | exact S_al rfl | exact S_bx rfl rfl | exact S_store rfl rfl rfl rfl rfl rfl | (apply Pu.ok; repeat' (first | rfl | exact .inK (by simp only [InK]; omega) | exact .wr | constructor | decide | omega)))); constructor) | refine Pa rfl rfl rfl rfl rfl ?_ | refine Po rfl rfl rfl rfl rfl ?_ | fail)
        exact loop_again (k2 + 1, us) ⟨hlt2, hst.symm⟩ (by simp only; omega) (Wk_g some rfl rfl (by (repeat' (first | exact trivial | rfl | exact listLe_map _ | exact ⟨_, rfl, .inl rfl⟩ | exact ⟨_, rfl, .inr (.inl rfl)⟩ | exact ⟨_, rfl, .inr (.inr rfl)⟩ | refine ⟨_, _, rfl, rfl, ?_⟩ | exact ⟨_, rfl, rfl⟩ | exact ⟨_, _, _, _, rfl, rfl, rfl⟩ | exact ⟨_, rfl⟩ | exact ⟨_, _, rfl⟩ | apply And.intro))))
      | true =>
        by_cases hr : ra = rb
        · rw [decide_eq_true hr] at hst hbe
          simp only [Bool.true_and, if_true] at hst
          repeat' (first | (apply Wa; constructor) | refine Wb rfl ?_ | refine Wc rfl ?_ | refine Wd (by kernel_rfl) ?_ | refine We rfl ?_ | refine Wf rfl ?_ | refine Wg rfl (by omega) ?_ | refine Wh rfl (by omega) ?_ | refine Wi rfl rfl ?_ | ((first | apply dX rfl | apply Da rfl rfl | apply Db rfl rfl (by intro h; first | trivial | exact ⟨h, trivial⟩ | exact ⟨h, h, trivial⟩)); (focus ((try intro hg); first | exact S_ixM rfl rfl (by omega) hx | exact S_ixM (f := bytesR) rfl rfl ha0 hxa | exact S_ixM (f := bytesR) rfl rfl hb0 hxb | exact S_call hbe rfl | exact S_appM (f := linkV) (us := us) (bs := [(⟨a, pa, b, pb, cost, true⟩ : Link)]) rfl rfl (.dat _ _) rfl rfl (.inr ⟨rfl, inferInstance⟩) rfl (by simp only [List.length_singleton]; omega) | exact S_al rfl | exact S_bx rfl rfl | exact S_store rfl rfl rfl rfl rfl rfl | (apply Pu.ok; repeat' (first | rfl | exact .inK (by simp only [InK]; omega) | exact .wr | constructor | decide | omega)))); constructor) | refine Pa rfl rfl rfl rfl rfl ?_ | refine Po rfl rfl rfl rfl rfl ?_ | fail)
          exact loop_again (k2 + 1, us ++ [⟨a, pa, b, pb, cost, true⟩]) ⟨hlt2, hst.symm⟩ (by simp only; omega) (Wk_g some rfl rfl (by (repeat' (first | exact trivial | rfl | exact listLe_map _ | exact ⟨_, rfl, .inl rfl⟩ | exact ⟨_, rfl, .inr (.inl rfl)⟩ | exact ⟨_, rfl, .inr (.inr rfl)⟩ | refine ⟨_, _, rfl, rfl, ?_⟩ | exact ⟨_, rfl, rfl⟩ | exact ⟨_, _, _, _, rfl, rfl, rfl⟩ | exact ⟨_, rfl⟩ | exact ⟨_, _, rfl⟩ | apply And.intro))))
        · rw [decide_eq_false hr] at hst hbe
          simp only [Bool.true_and, Bool.false_eq_true, if_false, List.append_nil] at hst
          repeat' (first | (apply Wa; constructor) | refine Wb rfl ?_ | refine Wc rfl ?_ | refine Wd (by kernel_rfl) ?_ | refine We rfl ?_ | refine Wf rfl ?_ | refine Wg rfl (by omega) ?_ | refine Wh rfl (by omega) ?_ | refine Wi rfl rfl ?_ | ((first | apply dX rfl | apply Da rfl rfl | apply Db rfl rfl (by intro h; first | trivial | exact ⟨h, trivial⟩ | exact ⟨h, h, trivial⟩)); (focus ((try intro hg); first | exact S_ixM rfl rfl (by omega) hx | exact S_ixM (f := bytesR) rfl rfl ha0 hxa | exact S_ixM (f := bytesR) rfl rfl hb0 hxb | exact S_call hbe rfl | exact S_al rfl | exact S_bx rfl rfl | exact S_store rfl rfl rfl rfl rfl rfl | (apply Pu.ok; repeat' (first | rfl | exact .inK (by simp only [InK]; omega) | exact .wr | constructor | decide | omega)))); constructor) | refine Pa rfl rfl rfl rfl rfl ?_ | refine Po rfl rfl rfl rfl rfl ?_ | fail)
          exact loop_again (k2 + 1, us) ⟨hlt2, hst.symm⟩ (by simp only; omega) (Wk_g some rfl rfl (by (repeat' (first | exact trivial | rfl | exact listLe_map _ | exact ⟨_, rfl, .inl rfl⟩ | exact ⟨_, rfl, .inr (.inl rfl)⟩ | exact ⟨_, rfl, .inr (.inr rfl)⟩ | refine ⟨_, _, rfl, rfl, ?_⟩ | exact ⟨_, rfl, rfl⟩ | exact ⟨_, _, _, _, rfl, rfl, rfl⟩ | exact ⟨_, rfl⟩ | exact ⟨_, _, rfl⟩ | apply And.intro))))
    · have he : us = liveL n := by rw [hus, List.take_of_length_le (by omega)]; rfl
      refine DW_seal 3 rfl rfl (by simp) ?_
      repeat' (first | (apply Wa; constructor) | refine Wb rfl ?_ | refine Wc rfl ?_ | refine Wd (by kernel_rfl) ?_ | refine We rfl ?_ | refine Wf rfl ?_ | refine Wg rfl (by omega) ?_ | refine Wh rfl (by omega) ?_ | refine Wi rfl rfl ?_ | ((first | apply dX rfl | apply Da rfl rfl | apply Db rfl rfl (by intro h; first | trivial | exact ⟨h, trivial⟩ | exact ⟨h, h, trivial⟩)); (focus ((try intro hg); first | exact S_al rfl | exact S_bx rfl rfl | exact S_store rfl rfl rfl rfl rfl rfl | (apply Pu.ok; repeat' (first | rfl | exact .inK (by simp only [InK]; omega) | exact .wr | constructor | decide | omega)))); constructor) | refine Pa rfl rfl rfl rfl rfl ?_ | refine Po rfl rfl rfl rfl rfl ?_ | fail)
      refine ret1 rfl (by first | exact .inl rfl | exact .inr (flat_of rfl)) ?_
      rw [← he]
end Go.Proofs.YtpgcemabkjmliaaGreat
