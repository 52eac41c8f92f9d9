/- Contract: plan.Plan. -/
import Derived.Test.YtfmaehhloffabaaycTlo
import Derived.Test.YtfmaehhloffabaaydPlE
import Derived.Test.YtfmaehhloffabaaydPlP
namespace Go.Proofs.Ytfmaehhloffabaa
open Go.RowKit
def rootS (n : Net) (tree : Int) : Nat → List Int
  | 0 => List.replicate n.bridges.length 0
  | t + 1 => (List.range n.bridges.length).map fun i => (nextS n tree (saysN n tree t) i).port
theorem rootS_len (n : Net) (tree : Int) (t : Nat) : (rootS n tree t).length = n.bridges.length := by cases t <;> simp [rootS]
theorem rootS_end (n : Net) (tree : Int) : rootS n tree (n.bridges.length + 1) = rootN n tree := rfl
theorem rootS_get {n : Net} {tree : Int} {t k : Nat} {b : Bridge} (h : n.bridges[k]? = some b) : (rootS n tree (t + 1))[k]? = some (chooseS (b.id tree) (offersOf (endsOf n k) (saysN n tree t))).port := by
  obtain ⟨hk, rfl⟩ := List.getElem?_eq_some_iff.1 h
  simp [rootS, hk, nextS]
theorem saysN_get {n : Net} {tree : Int} {t k : Nat} {b : Bridge} (h : n.bridges[k]? = some b) : (saysN n tree (t + 1))[k]? = some ((chooseS (b.id tree) (offersOf (endsOf n k) (saysN n tree t))).says (b.id tree)) := by
  obtain ⟨hk, rfl⟩ := List.getElem?_eq_some_iff.1 h
  simp [saysN, round1, hk, saysOf, nextS]
theorem plan_Ends (n : Net) (h : n.good) : FnF Try.prog 18 [.rp n.cells, .slice ((idsR n.bridges).map bytesR)] (.slice (((List.range n.bridges.length).map (endsOf n)).map endsRow)) :=
  plan_EndsH n h.lk h.nl h.nb fun i _ => ends_SortFunc _ (fun e he => (rawE_ok h he).1) (by
    have h1 := rawE_le (liveL n) i
    have h2 : (liveL n).length ≤ n.links.length := List.length_filter_le _ _
    have := h.nl
    omega) (fun x hx y hy hp => h.end_one hx hy hp)
attribute [local irreducible] SStep DW DWin DOps thenQ inBlk loopQ retQ retQG FnF FnG FnI Wk IntKind.wrap IntKind.andI IntKind.orI IntKind.xorI IntKind.andNotI IntKind.shlI IntKind.shrI Net.wrong Bridge.id Bridge.prio identR sortE sortI rawE rawP idsR liveB roleOf rolesP endsOf portsOf saysN rootS chooseS offersOf mix
set_option maxHeartbeats 8000000 in
theorem plan_Plan (n : Net) (ht : n.typed) (tree : Int) : FnF Try.prog 13 [n.v, .int .i64 tree] (.tuple [.slice ((planA n tree).1.map Place.cells), faultV (planA n tree).2]) := by
  refine fnF_of Try.func13 rfl rfl rfl ?_
  simp only [envOf]
  have hwr := plan_Wrong n ht.wy
  unfold planA
  by_cases h0n : n.wrong.1 ≠ 0
  · have h0m : ¬ n.wrong.1 = 0 := h0n
    rw [if_pos h0n]
    clear h0n
    generalize n.wrong = f at hwr h0m ⊢
    obtain ⟨e, i⟩ := f
    have h0' : e ≠ 0 := h0m
    repeat' (first | (apply DW_true rfl; case hb => exact decide_eq_true h0') | (apply Wa; constructor) | refine Wb rfl ?_ | refine Wc rfl ?_ | refine Wd (by kernel_rfl) ?_ | refine We rfl ?_ | refine Wf rfl ?_ | refine Wi rfl rfl ?_ | ((first | apply dX rfl | apply Da rfl rfl | apply Db rfl rfl (by intro h; first | trivial | exact ⟨h, trivial⟩ | exact ⟨h, h, trivial⟩)); (focus ((try intro hg); first | exact S_call hwr rfl | exact S_al rfl | exact S_bx rfl rfl | exact S_store rfl rfl rfl rfl rfl rfl | (apply Pu.ok; repeat' (first | rfl | exact .inK (by simp only [InK]; omega) | exact .wr | constructor | decide | omega)))); constructor) | refine Pa rfl rfl rfl rfl rfl ?_ | refine Po rfl rfl rfl rfl rfl ?_ | fail)
    refine retN (.tmp rfl (.inl rfl) (.cellA inferInstance rfl rfl rfl rfl (by first | exact .inl rfl | exact .inr (flat_of rfl)) .nil)) ?_
    rfl
  have h0 : n.wrong.1 = 0 := Decidable.not_not.1 h0n
  have hgood := ((Net.wrong_iff ht).1 h0).1
  rw [if_neg h0n]
  have hwz := Net.wrong_zero h0
  rw [hwz] at hwr
  by_cases h1 : tree < 0 ∨ 15 < tree
  · rw [if_pos h1]
    by_cases h2 : tree < 0
    · have h2' : decide (tree < 0) = true := decide_eq_true h2
      repeat' (first | (apply Wa; constructor) | refine Wb rfl ?_ | refine Wc rfl ?_ | refine Wd (by kernel_rfl) ?_ | refine We rfl ?_ | refine Wf rfl ?_ | refine Wi rfl rfl ?_ | ((first | apply dX rfl | apply Da rfl rfl | apply Db rfl rfl (by intro h; first | trivial | exact ⟨h, trivial⟩ | exact ⟨h, h, trivial⟩)); (focus ((try intro hg); first | exact S_call hwr rfl | exact as_bool (S_lss rfl rfl) h2' | exact S_al rfl | exact S_bx rfl rfl | exact S_store rfl rfl rfl rfl rfl rfl | (apply Pu.ok; repeat' (first | rfl | exact .inK (by simp only [InK]; omega) | exact .wr | constructor | decide | omega)))); constructor) | refine Pa rfl rfl rfl rfl rfl ?_ | refine Po rfl rfl rfl rfl rfl ?_ | fail)
      refine retN (.tmp rfl (.inl rfl) (.cellA inferInstance rfl rfl rfl rfl (by first | exact .inl rfl | exact .inr (flat_of rfl)) .nil)) ?_
      rfl
    · have h2' : decide (tree < 0) = false := decide_eq_false h2
      have h3' : decide (15 < tree) = true := decide_eq_true (by omega)
      repeat' (first | (apply Wa; constructor) | refine Wb rfl ?_ | refine Wc rfl ?_ | refine Wd (by kernel_rfl) ?_ | refine We rfl ?_ | refine Wf rfl ?_ | refine Wi rfl rfl ?_ | ((first | apply dX rfl | apply Da rfl rfl | apply Db rfl rfl (by intro h; first | trivial | exact ⟨h, trivial⟩ | exact ⟨h, h, trivial⟩)); (focus ((try intro hg); first | exact S_call hwr rfl | exact as_bool (S_lss rfl rfl) h2' | exact as_bool (S_gtr rfl rfl) h3' | exact S_al rfl | exact S_bx rfl rfl | exact S_store rfl rfl rfl rfl rfl rfl | (apply Pu.ok; repeat' (first | rfl | exact .inK (by simp only [InK]; omega) | exact .wr | constructor | decide | omega)))); constructor) | refine Pa rfl rfl rfl rfl rfl ?_ | refine Po rfl rfl rfl rfl rfl ?_ | fail)
      refine retN (.tmp rfl (.inl rfl) (.cellA inferInstance rfl rfl rfl rfl (by first | exact .inl rfl | exact .inr (flat_of rfl)) .nil)) ?_
      rfl
  rw [if_neg h1]
  have h2' : decide (tree < 0) = false := decide_eq_false (by omega)
  have h3' : decide (15 < tree) = false := decide_eq_false (by omega)
  have hre := plan_Regions n (fun b hb => (hgood.br b hb).r) hgood.nb
  have hen := plan_Ends n hgood
  have hmb : (n.bridges.map bridgeV).length = n.bridges.length := by simp
  have hnb := hgood.nb
  obtain ⟨nb, hnbe⟩ : ∃ nb, nb = n.bridges.length := ⟨_, rfl⟩
  rw [← hnbe] at hen hnb hmb
  repeat' (first | (apply dt rfl; case h => exact S_mkM (f := Vec.cells) (l := nb) (c := nb) .zero _ rfl rfl (by rw [hmb]) (by rw [hmb]) (Nat.le_refl _) (by omega) rfl rfl) | (apply dt rfl; case h => exact S_mkM (f := intV1) (l := nb) (c := nb) (0 : Int) _ rfl rfl (by rw [hmb]) (by rw [hmb]) (Nat.le_refl _) (by omega) rfl rfl) | (apply Wa; constructor) | refine Wb rfl ?_ | refine Wc rfl ?_ | refine Wd (by kernel_rfl) ?_ | refine We rfl ?_ | refine Wf rfl ?_ | refine Wi rfl rfl ?_ | ((first | apply dX rfl | apply Da rfl rfl | apply Db rfl rfl (by intro h; first | trivial | exact ⟨h, trivial⟩ | exact ⟨h, h, trivial⟩)); (focus ((try intro hg); first | exact S_call hwr rfl | exact as_bool (S_lss rfl rfl) h2' | exact as_bool (S_gtr rfl rfl) h3' | exact S_call hre rfl | exact S_call hen rfl | exact S_al rfl | exact S_bx rfl rfl | exact S_store rfl rfl rfl rfl rfl rfl | (apply Pu.ok; repeat' (first | rfl | exact .inK (by simp only [InK]; omega) | exact .wr | constructor | decide | omega)))); constructor) | refine Pa rfl rfl rfl rfl rfl ?_ | refine Po rfl rfl rfl rfl rfl ?_ | fail)
  have hs0l : (says0 n tree).length = (List.replicate nb Vec.zero).length := by simp [says0, hnbe]
  refine DW_loop (fun k : Nat => ⟨[(1, .dat false (.int .i64 tree)), (2, .ptr 2 0), (5, .ptr 5 0), (7, .dat true (.slice (((List.range nb).map (endsOf n)).map endsRow))), (8, .own 37 0 0 nb), (9, .own 41 0 0 nb), (43, .dat false (.slice (n.bridges.map bridgeV))), (44, .dat true (.int .i64 (n.bridges.map bridgeV).length)), (45, .dat true (.int .i64 k))],
      [(2, .cells false true (n.cells.map (.dat false))), (5, .cells false true [.dat true (.int .i64 0), .dat true (.int .i64 0)]), (37, .row 0 false true 4 ((mix (says0 n tree) (List.replicate nb .zero) k).map Vec.cells)), (41, .row 0 false true 1 ((List.replicate nb (0 : Int)).map intV1))], 146⟩)
    (fun k => k ≤ nb) (fun k => nb - k) 0 (Nat.zero_le _)
    (by rw [mix_zero]; exact Wk_g some rfl rfl (by (repeat' (first | exact trivial | rfl | exact listLe_map _ | exact ⟨_, rfl, .inl rfl⟩ | exact ⟨_, rfl, .inr (.inl rfl)⟩ | exact ⟨_, rfl, .inr (.inr rfl)⟩ | refine ⟨_, _, rfl, rfl, ?_⟩ | exact ⟨_, rfl, rfl⟩ | exact ⟨_, _, _, _, rfl, rfl, rfl⟩ | exact ⟨_, rfl⟩ | exact ⟨_, _, rfl⟩ | apply And.intro)))) (fun k hk => ?_)
  by_cases hlt : k < nb
  · have hx : n.bridges[(k : Int).toNat]? = some (n.bridges[k]'(by omega)) := by simp [show k < n.bridges.length by omega]
    have hbo := hgood.br (n.bridges[k]'(by omega)) (List.getElem_mem _)
    have hs0 : (says0 n tree)[k]? = some ⟨(n.bridges[k]'(by omega)).id tree, 0, (n.bridges[k]'(by omega)).id tree, 0⟩ := by simp [says0, show k < n.bridges.length by omega]
    generalize n.bridges[k]'(by omega) = b at hx hbo hs0
    have hid := plan_Ident b hbo tree
    have hset := mix_set hs0l hs0
    have hu : (mix (says0 n tree) (List.replicate nb .zero) k)[(k : Int).toNat]? = some .zero := by rw [Int.toNat_natCast, mix_get hs0l]; simp [hlt]
    repeat' (first | (apply Wa; constructor) | refine Wb rfl ?_ | refine Wc rfl ?_ | refine Wd (by kernel_rfl) ?_ | refine We rfl ?_ | refine Wf rfl ?_ | refine Wg rfl (by omega) ?_ | refine Wh rfl (by omega) ?_ | refine Wi rfl rfl ?_ | ((first | apply dX rfl | apply Da rfl rfl | apply Db rfl rfl (by intro h; first | trivial | exact ⟨h, trivial⟩ | exact ⟨h, h, trivial⟩)); (focus ((try intro hg); first | exact S_ixM rfl rfl (by omega) hx | exact S_call hid rfl | exact S_ixO rfl rfl rfl (by omega) (by omega) | exact S_storeM (f := Vec.cells) (a := ⟨b.id tree, 0, b.id tree, 0⟩) rfl rfl hu rfl rfl (.inr ⟨rfl, inferInstance⟩) rfl rfl | exact S_al rfl | exact S_bx rfl rfl | exact S_store rfl rfl rfl rfl rfl rfl | (apply Pu.ok; repeat' (first | rfl | exact .inK (by simp only [InK]; omega) | exact .wr | constructor | decide | omega)))); constructor) | refine Pa rfl rfl rfl rfl rfl ?_ | refine Po rfl rfl rfl rfl rfl ?_ | fail)
    refine loop_again (k + 1) hlt (by omega) ?_
    rw [← hset]
    exact (Wk_g some rfl rfl (by (repeat' (first | exact trivial | rfl | exact listLe_map _ | exact ⟨_, rfl, .inl rfl⟩ | exact ⟨_, rfl, .inr (.inl rfl)⟩ | exact ⟨_, rfl, .inr (.inr rfl)⟩ | refine ⟨_, _, rfl, rfl, ?_⟩ | exact ⟨_, rfl, rfl⟩ | exact ⟨_, _, _, _, rfl, rfl, rfl⟩ | exact ⟨_, rfl⟩ | exact ⟨_, _, rfl⟩ | apply And.intro))))
  · have he : mix (says0 n tree) (List.replicate nb Vec.zero) k = saysN n tree 0 := by
      rw [mix_all hs0l (by simp; omega)]; with_unfolding_all rfl
    rw [he]
    have hsl0 := saysN_len n tree 0
    refine DW_seal 8 rfl rfl (by rw [List.length_map, hsl0]; exact hnbe) ?_
    repeat' (first | (apply Wa; constructor) | refine Wb rfl ?_ | refine Wc rfl ?_ | refine Wd (by kernel_rfl) ?_ | refine We rfl ?_ | refine Wf rfl ?_ | refine Wg rfl (by omega) ?_ | refine Wh rfl (by omega) ?_ | refine Wi rfl rfl ?_ | ((first | apply dX rfl | apply Da rfl rfl | apply Db rfl rfl (by intro h; first | trivial | exact ⟨h, trivial⟩ | exact ⟨h, h, trivial⟩)); (focus ((try intro hg); first | exact S_al rfl | exact S_bx rfl rfl | exact S_store rfl rfl rfl rfl rfl rfl | (apply Pu.ok; repeat' (first | rfl | exact .inK (by simp only [InK]; omega) | exact .wr | constructor | decide | omega)))); constructor) | refine Pa rfl rfl rfl rfl rfl ?_ | refine Po rfl rfl rfl rfl rfl ?_ | fail)
    refine DW_loop (fun t : Nat => ⟨[(1, .dat false (.int .i64 tree)), (2, .ptr 2 0), (5, .ptr 5 0), (7, .dat true (.slice (((List.range nb).map (endsOf n)).map endsRow))), (8, .dat true (.slice ((saysN n tree t).map Vec.cells))), (9, .own 41 0 0 nb), (64, .dat true (.int .i64 (((n.bridges.map bridgeV).length : Int) + 1))), (65, .dat true (.int .i64 t))],
        [(2, .cells false true (n.cells.map (.dat false))), (5, .cells false true [.dat true (.int .i64 0), .dat true (.int .i64 0)]), (41, .row 0 false true 1 ((rootS n tree t).map intV1))], 146⟩)
      (fun t => t ≤ nb + 1) (fun t => nb + 1 - t) 0 (Nat.zero_le _)
      (by
        have : rootS n tree 0 = List.replicate nb 0 := by rw [hnbe]; with_unfolding_all rfl
        rw [this]; exact Wk_g some rfl rfl (by (repeat' (first | exact trivial | rfl | exact listLe_map _ | exact ⟨_, rfl, .inl rfl⟩ | exact ⟨_, rfl, .inr (.inl rfl)⟩ | exact ⟨_, rfl, .inr (.inr rfl)⟩ | refine ⟨_, _, rfl, rfl, ?_⟩ | exact ⟨_, rfl, rfl⟩ | exact ⟨_, _, _, _, rfl, rfl, rfl⟩ | exact ⟨_, rfl⟩ | exact ⟨_, _, rfl⟩ | apply And.intro)))) (fun t htk => ?_)
    by_cases htl : t < nb + 1
    · have hsl := saysN_len n tree t
      have hsl' := saysN_len n tree (t + 1)
      have hrl := rootS_len n tree t
      have hrl' := rootS_len n tree (t + 1)
      have hcl := clone_vecsP (saysN n tree t) (by omega)
      have hmx : (saysN n tree (t + 1)).length = (saysN n tree t).length := by rw [hsl, hsl']
      have hmr : (rootS n tree (t + 1)).length = (rootS n tree t).length := by rw [hrl, hrl']
      repeat' (first | (apply Wa; constructor) | refine Wb rfl ?_ | refine Wc rfl ?_ | refine Wd (by kernel_rfl) ?_ | refine We rfl ?_ | refine Wf rfl ?_ | refine Wg rfl (by omega) ?_ | refine Wh rfl (by omega) ?_ | refine Wi rfl rfl ?_ | (apply dt rfl; case h => first | exact S_callG0 68 hcl rfl rfl (.own _ _)) | ((first | apply dX rfl | apply Da rfl rfl | apply Db rfl rfl (by intro h; first | trivial | exact ⟨h, trivial⟩ | exact ⟨h, h, trivial⟩)); (focus ((try intro hg); first | exact S_callG0 68 hcl rfl rfl (.own _ _) | exact S_al rfl | exact S_bx rfl rfl | exact S_store rfl rfl rfl rfl rfl rfl | (apply Pu.ok; repeat' (first | rfl | exact .inK (by simp only [InK]; omega) | exact .wr | constructor | decide | omega)))); constructor) | refine Pa rfl rfl rfl rfl rfl ?_ | refine Po rfl rfl rfl rfl rfl ?_ | fail)
      refine DW_loop (fun k : Nat => ⟨[(1, .dat false (.int .i64 tree)), (2, .ptr 2 0), (5, .ptr 5 0), (7, .dat true (.slice (((List.range nb).map (endsOf n)).map endsRow))), (8, .dat true (.slice ((saysN n tree t).map Vec.cells))), (9, .own 41 0 0 nb), (12, .own 68 0 0 nb), (64, .dat true (.int .i64 (((n.bridges.map bridgeV).length : Int) + 1))), (65, .dat true (.int .i64 t)),
          (70, .dat false (.slice (n.bridges.map bridgeV))), (71, .dat true (.int .i64 (n.bridges.map bridgeV).length)), (72, .dat true (.int .i64 k))],
          [(2, .cells false true (n.cells.map (.dat false))), (5, .cells false true [.dat true (.int .i64 0), .dat true (.int .i64 0)]), (41, .row 0 false true 1 ((mix (rootS n tree (t + 1)) (rootS n tree t) k).map intV1)), (68, .row 0 false true 4 ((mix (saysN n tree (t + 1)) (saysN n tree t) k).map Vec.cells))], 146⟩)
        (fun k => k ≤ nb) (fun k => nb - k) 0 (Nat.zero_le _)
        (by
          rw [mix_zero, mix_zero, hnbe, ← hsl]
          exact Wk_g some rfl rfl (by (repeat' (first | exact trivial | rfl | exact listLe_map _ | exact ⟨_, rfl, .inl rfl⟩ | exact ⟨_, rfl, .inr (.inl rfl)⟩ | exact ⟨_, rfl, .inr (.inr rfl)⟩ | refine ⟨_, _, rfl, rfl, ?_⟩ | exact ⟨_, rfl, rfl⟩ | exact ⟨_, _, _, _, rfl, rfl, rfl⟩ | exact ⟨_, rfl⟩ | exact ⟨_, _, rfl⟩ | apply And.intro)))) (fun k hk2 => ?_)
      by_cases hlt2 : k < nb
      · have hx : n.bridges[(k : Int).toNat]? = some (n.bridges[k]'(by omega)) := by simp [show k < n.bridges.length by omega]
        have hx' : n.bridges[k]? = some (n.bridges[k]'(by omega)) := by simp [show k < n.bridges.length by omega]
        have hbo := hgood.br (n.bridges[k]'(by omega)) (List.getElem_mem _)
        generalize n.bridges[k]'(by omega) = b at hx hx' hbo
        have hid := plan_Ident b hbo tree
        have hsg := saysN_get (tree := tree) (t := t) hx'
        have hrg := rootS_get (tree := tree) (t := t) hx'
        have hxe : ((List.range nb).map (endsOf n))[(k : Int).toNat]? = some (endsOf n k) := by simp [hlt2]
        have hel := endsOf_len n k
        have hnl := hgood.nl
        have hoff := plan_offers (endsOf n k) (saysN n tree t) (by omega) (fun e he => by
          have h3 := (rawE_ok hgood (mem_endsOf.1 he)).2.2.1
          omega)
        generalize offersOf (endsOf n k) (saysN n tree t) = os at hoff hsg hrg
        have hch := vec_Choose (b.id tree) os
        have hset := mix_set hmx hsg
        have hsetr := mix_set hmr hrg
        have hu : (mix (saysN n tree (t + 1)) (saysN n tree t) k)[(k : Int).toNat]? = some ((saysN n tree t)[k]'(by omega)) := by rw [Int.toNat_natCast, mix_get hmx]; simp [show k < (saysN n tree t).length by omega]
        have hur : (mix (rootS n tree (t + 1)) (rootS n tree t) k)[(k : Int).toNat]? = some ((rootS n tree t)[k]'(by omega)) := by rw [Int.toNat_natCast, mix_get hmr]; simp [show k < (rootS n tree t).length by omega]
        generalize (saysN n tree t)[k]'(by omega) = v0 at hu
        generalize (rootS n tree t)[k]'(by omega) = r0 at hur
        generalize chooseS (b.id tree) os = c at hch hset hsetr
        repeat' (first | (apply Wa; constructor) | refine Wb rfl ?_ | refine Wc rfl ?_ | refine Wd (by kernel_rfl) ?_ | refine We rfl ?_ | refine Wf rfl ?_ | refine Wg rfl (by omega) ?_ | refine Wh rfl (by omega) ?_ | refine Wi rfl rfl ?_ | ((first | apply dX rfl | apply Da rfl rfl | apply Db rfl rfl (by intro h; first | trivial | exact ⟨h, trivial⟩ | exact ⟨h, h, trivial⟩)); (focus ((try intro hg); first | exact S_ixM rfl rfl (by omega) hx | exact S_ixM rfl rfl (by omega) hxe | exact S_call hid rfl | exact S_call hoff rfl | exact S_call hch rfl | exact S_ixO rfl rfl rfl (by omega) (by omega) | exact S_storeM (f := Vec.cells) (a := c.says (b.id tree)) rfl rfl hu rfl rfl (.inr ⟨rfl, inferInstance⟩) rfl rfl | exact S_storeM (f := intV1) (a := c.port) rfl rfl hur rfl rfl (.inr ⟨rfl, inferInstance⟩) rfl rfl | exact S_al rfl | exact S_bx rfl rfl | exact S_store rfl rfl rfl rfl rfl rfl | (apply Pu.ok; repeat' (first | rfl | exact .inK (by simp only [InK]; omega) | exact .wr | constructor | decide | omega)))); constructor) | refine Pa rfl rfl rfl rfl rfl ?_ | refine Po rfl rfl rfl rfl rfl ?_ | fail)
        refine loop_again (k + 1) hlt2 (by omega) ?_
        rw [← hset, ← hsetr]
        exact (Wk_g some rfl rfl (by (repeat' (first | exact trivial | rfl | exact listLe_map _ | exact ⟨_, rfl, .inl rfl⟩ | exact ⟨_, rfl, .inr (.inl rfl)⟩ | exact ⟨_, rfl, .inr (.inr rfl)⟩ | refine ⟨_, _, rfl, rfl, ?_⟩ | exact ⟨_, rfl, rfl⟩ | exact ⟨_, _, _, _, rfl, rfl, rfl⟩ | exact ⟨_, rfl⟩ | exact ⟨_, _, rfl⟩ | apply And.intro))))
      · rw [mix_all hmx (by omega), mix_all hmr (by omega)]
        refine DW_seal 12 rfl rfl (by rw [List.length_map, hsl', hnbe]) ?_
        repeat' (first | (apply Wa; constructor) | refine Wb rfl ?_ | refine Wc rfl ?_ | refine Wd (by kernel_rfl) ?_ | refine We rfl ?_ | refine Wf rfl ?_ | refine Wg rfl (by omega) ?_ | refine Wh rfl (by omega) ?_ | refine Wi rfl rfl ?_ | ((first | apply dX rfl | apply Da rfl rfl | apply Db rfl rfl (by intro h; first | trivial | exact ⟨h, trivial⟩ | exact ⟨h, h, trivial⟩)); (focus ((try intro hg); first | exact S_al rfl | exact S_bx rfl rfl | exact S_store rfl rfl rfl rfl rfl rfl | (apply Pu.ok; repeat' (first | rfl | exact .inK (by simp only [InK]; omega) | exact .wr | constructor | decide | omega)))); constructor) | refine Pa rfl rfl rfl rfl rfl ?_ | refine Po rfl rfl rfl rfl rfl ?_ | fail)
        exact loop_again (t + 1) (by omega) (by omega) (Wk_g some rfl rfl (by (repeat' (first | exact trivial | rfl | exact listLe_map _ | exact ⟨_, rfl, .inl rfl⟩ | exact ⟨_, rfl, .inr (.inl rfl)⟩ | exact ⟨_, rfl, .inr (.inr rfl)⟩ | refine ⟨_, _, rfl, rfl, ?_⟩ | exact ⟨_, rfl, rfl⟩ | exact ⟨_, _, _, _, rfl, rfl, rfl⟩ | exact ⟨_, rfl⟩ | exact ⟨_, _, rfl⟩ | apply And.intro))))
    · have hte : t = n.bridges.length + 1 := by omega
      subst hte
      have hsl := saysN_len n tree (n.bridges.length + 1)
      have hrl := rootS_len n tree (n.bridges.length + 1)
      rw [rootS_end] at hrl ⊢
      repeat' (first | (apply Wa; constructor) | refine Wb rfl ?_ | refine Wc rfl ?_ | refine Wd (by kernel_rfl) ?_ | refine We rfl ?_ | refine Wf rfl ?_ | refine Wg rfl (by omega) ?_ | refine Wh rfl (by omega) ?_ | refine Wi rfl rfl ?_ | ((first | apply dX rfl | apply Da rfl rfl | apply Db rfl rfl (by intro h; first | trivial | exact ⟨h, trivial⟩ | exact ⟨h, h, trivial⟩)); (focus ((try intro hg); first | exact S_al rfl | exact S_bx rfl rfl | exact S_store rfl rfl rfl rfl rfl rfl | (apply Pu.ok; repeat' (first | rfl | exact .inK (by simp only [InK]; omega) | exact .wr | constructor | decide | omega)))); constructor) | refine Pa rfl rfl rfl rfl rfl ?_ | refine Po rfl rfl rfl rfl rfl ?_ | fail)
      refine DW_loop (fun p : Nat × List Place => ⟨[(2, .ptr 2 0), (5, .ptr 5 0), (7, .dat true (.slice (((List.range nb).map (endsOf n)).map endsRow))), (8, .dat true (.slice ((saysN n tree (n.bridges.length + 1)).map Vec.cells))), (9, .own 41 0 0 nb), (15, .own 15 0 0 p.2.length), (102, .dat true (.int .i64 (n.bridges.map bridgeV).length)), (103, .dat true (.int .i64 p.1))],
          [(2, .cells false true (n.cells.map (.dat false))), (5, .cells false true [.dat true (.int .i64 0), .dat true (.int .i64 0)]), (41, .row 0 false true 1 ((rootN n tree).map intV1)), (15, .row 0 false true 7 (p.2.map Place.cells))], 146⟩)
        (fun p => p.1 ≤ nb ∧ p.2 = (planF n tree).take p.1) (fun p => nb - p.1) (0, []) ⟨Nat.zero_le _, rfl⟩
        (Wk_g (fun g => if g = 15 then none else some g) rfl rfl (by (repeat' (first | exact trivial | rfl | exact listLe_map _ | exact ⟨_, rfl, .inl rfl⟩ | exact ⟨_, rfl, .inr (.inl rfl)⟩ | exact ⟨_, rfl, .inr (.inr rfl)⟩ | refine ⟨_, _, rfl, rfl, ?_⟩ | exact ⟨_, rfl, rfl⟩ | exact ⟨_, _, _, _, rfl, rfl, rfl⟩ | exact ⟨_, rfl⟩ | exact ⟨_, _, rfl⟩ | apply And.intro)))) (fun p hR => ?_)
      obtain ⟨k, us⟩ := p
      obtain ⟨hk3, hus⟩ := hR
      simp only at hk3 hus
      dsimp only
      have hpl : (planF n tree).length = nb := by simp [planF, hnbe]
      have hul : us.length = k := by rw [hus, List.length_take]; omega
      by_cases hlt3 : k < nb
      · have hpk : (planF n tree)[k]? = some (placeOf n tree k) := by simp [planF, show k < n.bridges.length by omega]
        have hnx : us ++ [placeOf n tree k] = (planF n tree).take (k + 1) := by rw [List.take_add_one, hpk, hus]; rfl
        have hxe : ((List.range nb).map (endsOf n))[(k : Int).toNat]? = some (endsOf n k) := by simp [hlt3]
        have hxs : (saysN n tree (n.bridges.length + 1))[(k : Int).toNat]? = some ((saysN n tree (n.bridges.length + 1))[k]'(by omega)) := by simp [show k < (saysN n tree (n.bridges.length + 1)).length by omega]
        have hxr : (rootN n tree)[(k : Int).toNat]? = some ((rootN n tree)[k]'(by omega)) := by simp [show k < (rootN n tree).length by omega]
        have hel := endsOf_len n k
        have hnl := hgood.nl
        have hpe : placeOf n tree k = ⟨(saysN n tree (n.bridges.length + 1))[k]'(by omega), (rootN n tree)[k]'(by omega), portsOf n.links k, rolesP (endsOf n k) ((saysN n tree (n.bridges.length + 1))[k]'(by omega)) ((rootN n tree)[k]'(by omega)) (offersOf (endsOf n k) (saysN n tree (n.bridges.length + 1))) (portsOf n.links k)⟩ := by
          unfold placeOf
          rw [Int.toNat_natCast] at hxs hxr
          simp only [hxs, hxr, Option.getD_some]
        have hoff := plan_offers (endsOf n k) (saysN n tree (n.bridges.length + 1)) (by omega) (fun e he => by
          have h3 := (rawE_ok hgood (mem_endsOf.1 he)).2.2.1
          omega)
        generalize (saysN n tree (n.bridges.length + 1))[k]'(by omega) = v at hxs hpe
        generalize (rootN n tree)[k]'(by omega) = r at hxr hpe
        generalize offersOf (endsOf n k) (saysN n tree (n.bridges.length + 1)) = os at hoff hpe
        have hro := plan_Roles n hnl k (endsOf n k) v r os
        generalize portsOf n.links k = ps at hro hpe
        generalize rolesP (endsOf n k) v r os ps = rs at hro hpe
        rw [hpe] at hnx
        have hxr1 : ((rootN n tree).map intV1)[(k : Int).toNat]? = some (intV1 r) := by rw [List.getElem?_map, hxr]; rfl
        repeat' (first | (apply Wa; constructor) | refine Wb rfl ?_ | refine Wc rfl ?_ | refine Wd (by kernel_rfl) ?_ | refine We rfl ?_ | refine Wf rfl ?_ | refine Wg rfl (by omega) ?_ | refine Wh rfl (by omega) ?_ | refine Wi rfl rfl ?_ | ((first | apply dX rfl | apply Da rfl rfl | apply Db rfl rfl (by intro h; first | trivial | exact ⟨h, trivial⟩ | exact ⟨h, h, trivial⟩)); (focus ((try intro hg); first | exact S_ixM rfl rfl (by omega) hxe | exact S_ixM rfl rfl (by omega) hxs | exact S_ixO rfl rfl rfl (by omega) (by omega) | exact S_load_rptr rfl rfl hxr1 rfl | exact S_call hoff rfl | exact S_call hro rfl | exact S_appM (f := Place.cells) (us := us) (bs := [⟨v, r, ps, rs⟩]) rfl rfl (.dat _ _) rfl rfl (.inl rfl) rfl (by simp only [List.length_singleton]; omega) | exact S_al rfl | exact S_bx rfl rfl | exact S_store rfl rfl rfl rfl rfl rfl | (apply Pu.ok; repeat' (first | rfl | exact .inK (by simp only [InK]; omega) | exact .wr | constructor | decide | omega)))); constructor) | refine Pa rfl rfl rfl rfl rfl ?_ | refine Po rfl rfl rfl rfl rfl ?_ | fail)
        exact loop_again (k + 1, us ++ [⟨v, r, ps, rs⟩]) ⟨hlt3, hnx⟩ (by simp only; omega) (Wk_g some rfl rfl (by (repeat' (first | exact trivial | rfl | exact listLe_map _ | exact ⟨_, rfl, .inl rfl⟩ | exact ⟨_, rfl, .inr (.inl rfl)⟩ | exact ⟨_, rfl, .inr (.inr rfl)⟩ | refine ⟨_, _, rfl, rfl, ?_⟩ | exact ⟨_, rfl, rfl⟩ | exact ⟨_, _, _, _, rfl, rfl, rfl⟩ | exact ⟨_, rfl⟩ | exact ⟨_, _, rfl⟩ | apply And.intro))))
      · have he2 : us = planF n tree := by rw [hus, List.take_of_length_le (by omega)]
        refine DW_seal 15 rfl rfl (by simp) ?_
        repeat' (first | (apply Wa; constructor) | refine Wb rfl ?_ | refine Wc rfl ?_ | refine Wd (by kernel_rfl) ?_ | refine We rfl ?_ | refine Wf rfl ?_ | refine Wg rfl (by omega) ?_ | refine Wh rfl (by omega) ?_ | refine Wi rfl rfl ?_ | ((first | apply dX rfl | apply Da rfl rfl | apply Db rfl rfl (by intro h; first | trivial | exact ⟨h, trivial⟩ | exact ⟨h, h, trivial⟩)); (focus ((try intro hg); first | exact S_al rfl | exact S_bx rfl rfl | exact S_store rfl rfl rfl rfl rfl rfl | (apply Pu.ok; repeat' (first | rfl | exact .inK (by simp only [InK]; omega) | exact .wr | constructor | decide | omega)))); constructor) | refine Pa rfl rfl rfl rfl rfl ?_ | refine Po rfl rfl rfl rfl rfl ?_ | fail)
        refine retN (.tmp rfl (.inl rfl) (.cellA inferInstance rfl rfl rfl rfl (by first | exact .inl rfl | exact .inr (flat_of rfl)) .nil)) ?_
        rw [← he2]; rfl
end Go.Proofs.Ytfmaehhloffabaa
