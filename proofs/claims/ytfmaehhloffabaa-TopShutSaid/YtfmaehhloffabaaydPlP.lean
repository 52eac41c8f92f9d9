/- Contracts: plan.Ports, plan.Roles; ContainsFunc at ends; Clone of vectors. -/
import Derived.Test.YtfmaehhloffabaaycChM
import Derived.Test.YtfmaehhloffabaaydPlS
namespace Go.Proofs.Ytfmaehhloffabaa
open Go.RowKit
attribute [local irreducible] SStep DW DWin DOps thenQ inBlk loopQ retQ retQG FnF FnG FnI Wk IntKind.wrap IntKind.andI IntKind.orI IntKind.xorI IntKind.andNotI IntKind.shlI IntKind.shrI Region.wrong Bridge.wrong Link.wrong Bridge.prio identR sortE sortI rawE rawP famX ctrD famM idsR srtX liveB roleOf
set_option maxHeartbeats 2000000 in
theorem plan_Ports (n : Net) (hn : n.links.length ≤ 40) (i : Int) : FnF Try.prog 24 [.rp n.cells, .int .i64 i] (.slice ((portsOf n.links i).map intV1)) := by
  refine fnF_of Try.func24 rfl rfl rfl ?_
  simp only [envOf]
  have hml : (n.links.map linkV).length = n.links.length := by simp
  repeat' (first | (apply Wa; constructor) | refine Wb rfl ?_ | refine Wc rfl ?_ | refine Wd (by kernel_rfl) ?_ | refine We rfl ?_ | refine Wf rfl ?_ | refine Wi rfl rfl ?_ | ((first | apply dX rfl | apply Da rfl rfl | apply Db rfl rfl (by intro h; first | trivial | exact ⟨h, trivial⟩ | exact ⟨h, h, trivial⟩)); (focus ((try intro hg); first | exact S_al rfl | exact S_bx rfl rfl | exact S_store rfl rfl rfl rfl rfl rfl | (apply Pu.ok; repeat' (first | rfl | exact .inK (by simp only [InK]; omega) | exact .wr | constructor | decide | omega)))); constructor) | refine Pa rfl rfl rfl rfl rfl ?_ | refine Po rfl rfl rfl rfl rfl ?_ | fail)
  refine DW_loop (fun p : Nat × List Int => ⟨[(1, .dat false (.int .i64 i)), (5, .own 5 0 0 p.2.length), (11, .dat false (.slice (n.links.map linkV))), (12, .dat true (.int .i64 (n.links.map linkV).length)), (13, .dat true (.int .i64 p.1))], [(5, .row 0 false true 1 (p.2.map intV1))], 39⟩)
    (fun p => p.1 ≤ n.links.length ∧ p.2 = rawP (n.links.take p.1) i) (fun p => n.links.length - p.1) (0, []) ⟨Nat.zero_le _, (rawP_nil _ _).symm⟩
    (Wk_g (fun g => if g = 5 then none else some g) rfl rfl (by (repeat' (first | exact trivial | rfl | exact listLe_map _ | exact ⟨_, rfl, .inl rfl⟩ | exact ⟨_, rfl, .inr (.inl rfl)⟩ | exact ⟨_, rfl, .inr (.inr rfl)⟩ | refine ⟨_, _, rfl, rfl, ?_⟩ | exact ⟨_, rfl, rfl⟩ | exact ⟨_, _, _, _, rfl, rfl, rfl⟩ | exact ⟨_, rfl⟩ | exact ⟨_, _, rfl⟩ | apply And.intro)))) (fun p hR => ?_)
  obtain ⟨k, us⟩ := p
  obtain ⟨hk, hus⟩ := hR
  simp only at hk hus
  dsimp only
  have hul : us.length ≤ 2 * k := by rw [hus]; have := rawP_len (n.links.take k) i; simp at this; omega
  by_cases hlt : k < n.links.length
  · have hx : n.links[(k : Int).toNat]? = some n.links[k] := by simp [hlt]
    have hst := rawP_step (i := i) (show n.links[k]? = some n.links[k] by simp [hlt])
    rw [← hus] at hst
    generalize n.links[k] = l at hx hst
    have hpa : portAt i l = (if l.a = i then [l.pa] else []) ++ (if l.b = i then [l.pb] else []) := rfl
    by_cases ha : l.a = i <;> by_cases hb : l.b = i
    · rw [if_pos ha, if_pos hb] at hpa
      repeat' (first | (apply Wa; constructor) | refine Wb rfl ?_ | refine Wc rfl ?_ | refine Wd (by kernel_rfl) ?_ | refine We rfl ?_ | refine Wf rfl ?_ | refine Wg rfl (by omega) ?_ | refine Wh rfl (by omega) ?_ | refine Wi rfl rfl ?_ | ((first | apply dX rfl | apply Da rfl rfl | apply Db rfl rfl (by intro h; first | trivial | exact ⟨h, trivial⟩ | exact ⟨h, h, trivial⟩)); (focus ((try intro hg); first | exact S_ixM rfl rfl (by omega) hx | exact S_appM (f := intV1) (us := us) (bs := [l.pa]) rfl rfl (.dat _ _) rfl rfl (.inr ⟨rfl, inferInstance⟩) rfl (by simp only [List.length_singleton]; omega) | exact S_appM (f := intV1) (us := us ++ [l.pa]) (bs := [l.pb]) rfl rfl (.dat _ _) rfl rfl (.inr ⟨rfl, inferInstance⟩) rfl (by simp only [List.length_singleton, List.length_append]; omega) | exact S_al rfl | exact S_bx rfl rfl | exact S_store rfl rfl rfl rfl rfl rfl | (apply Pu.ok; repeat' (first | rfl | exact .inK (by simp only [InK]; omega) | exact .wr | constructor | decide | omega)))); constructor) | refine Pa rfl rfl rfl rfl rfl ?_ | refine Po rfl rfl rfl rfl rfl ?_ | fail)
      exact loop_again (k + 1, us ++ [l.pa] ++ [l.pb]) ⟨hlt, by rw [hst, hpa]; simp⟩ (by simp only; omega) (Wk_g some rfl rfl (by (repeat' (first | exact trivial | rfl | exact listLe_map _ | exact ⟨_, rfl, .inl rfl⟩ | exact ⟨_, rfl, .inr (.inl rfl)⟩ | exact ⟨_, rfl, .inr (.inr rfl)⟩ | refine ⟨_, _, rfl, rfl, ?_⟩ | exact ⟨_, rfl, rfl⟩ | exact ⟨_, _, _, _, rfl, rfl, rfl⟩ | exact ⟨_, rfl⟩ | exact ⟨_, _, rfl⟩ | apply And.intro))))
    · rw [if_pos ha, if_neg hb] at hpa
      repeat' (first | (apply Wa; constructor) | refine Wb rfl ?_ | refine Wc rfl ?_ | refine Wd (by kernel_rfl) ?_ | refine We rfl ?_ | refine Wf rfl ?_ | refine Wg rfl (by omega) ?_ | refine Wh rfl (by omega) ?_ | refine Wi rfl rfl ?_ | ((first | apply dX rfl | apply Da rfl rfl | apply Db rfl rfl (by intro h; first | trivial | exact ⟨h, trivial⟩ | exact ⟨h, h, trivial⟩)); (focus ((try intro hg); first | exact S_ixM rfl rfl (by omega) hx | exact S_appM (f := intV1) (us := us) (bs := [l.pa]) rfl rfl (.dat _ _) rfl rfl (.inr ⟨rfl, inferInstance⟩) rfl (by simp only [List.length_singleton]; omega) | exact S_al rfl | exact S_bx rfl rfl | exact S_store rfl rfl rfl rfl rfl rfl | (apply Pu.ok; repeat' (first | rfl | exact .inK (by simp only [InK]; omega) | exact .wr | constructor | decide | omega)))); constructor) | refine Pa rfl rfl rfl rfl rfl ?_ | refine Po rfl rfl rfl rfl rfl ?_ | fail)
      exact loop_again (k + 1, us ++ [l.pa]) ⟨hlt, by rw [hst, hpa]; simp⟩ (by simp only; omega) (Wk_g some rfl rfl (by (repeat' (first | exact trivial | rfl | exact listLe_map _ | exact ⟨_, rfl, .inl rfl⟩ | exact ⟨_, rfl, .inr (.inl rfl)⟩ | exact ⟨_, rfl, .inr (.inr rfl)⟩ | refine ⟨_, _, rfl, rfl, ?_⟩ | exact ⟨_, rfl, rfl⟩ | exact ⟨_, _, _, _, rfl, rfl, rfl⟩ | exact ⟨_, rfl⟩ | exact ⟨_, _, rfl⟩ | apply And.intro))))
    · rw [if_neg ha, if_pos hb] at hpa
      repeat' (first | (apply Wa; constructor) | refine Wb rfl ?_ | refine Wc rfl ?_ | refine Wd (by kernel_rfl) ?_ | refine We rfl ?_ | refine Wf rfl ?_ | refine Wg rfl (by omega) ?_ | refine Wh rfl (by omega) ?_ | refine Wi rfl rfl ?_ | ((first | apply dX rfl | apply Da rfl rfl | apply Db rfl rfl (by intro h; first | trivial | exact ⟨h, trivial⟩ | exact ⟨h, h, trivial⟩)); (focus ((try intro hg); first | exact S_ixM rfl rfl (by omega) hx | exact S_appM (f := intV1) (us := us) (bs := [l.pb]) rfl rfl (.dat _ _) rfl rfl (.inr ⟨rfl, inferInstance⟩) rfl (by simp only [List.length_singleton]; omega) | exact S_al rfl | exact S_bx rfl rfl | exact S_store rfl rfl rfl rfl rfl rfl | (apply Pu.ok; repeat' (first | rfl | exact .inK (by simp only [InK]; omega) | exact .wr | constructor | decide | omega)))); constructor) | refine Pa rfl rfl rfl rfl rfl ?_ | refine Po rfl rfl rfl rfl rfl ?_ | fail)
      exact loop_again (k + 1, us ++ [l.pb]) ⟨hlt, by rw [hst, hpa]; simp⟩ (by simp only; omega) (Wk_g some rfl rfl (by (repeat' (first | exact trivial | rfl | exact listLe_map _ | exact ⟨_, rfl, .inl rfl⟩ | exact ⟨_, rfl, .inr (.inl rfl)⟩ | exact ⟨_, rfl, .inr (.inr rfl)⟩ | refine ⟨_, _, rfl, rfl, ?_⟩ | exact ⟨_, rfl, rfl⟩ | exact ⟨_, _, _, _, rfl, rfl, rfl⟩ | exact ⟨_, rfl⟩ | exact ⟨_, _, rfl⟩ | apply And.intro))))
    · rw [if_neg ha, if_neg hb] at hpa
      repeat' (first | (apply Wa; constructor) | refine Wb rfl ?_ | refine Wc rfl ?_ | refine Wd (by kernel_rfl) ?_ | refine We rfl ?_ | refine Wf rfl ?_ | refine Wg rfl (by omega) ?_ | refine Wh rfl (by omega) ?_ | refine Wi rfl rfl ?_ | ((first | apply dX rfl | apply Da rfl rfl | apply Db rfl rfl (by intro h; first | trivial | exact ⟨h, trivial⟩ | exact ⟨h, h, trivial⟩)); (focus ((try intro hg); first | exact S_ixM rfl rfl (by omega) hx | exact S_al rfl | exact S_bx rfl rfl | exact S_store rfl rfl rfl rfl rfl rfl | (apply Pu.ok; repeat' (first | rfl | exact .inK (by simp only [InK]; omega) | exact .wr | constructor | decide | omega)))); constructor) | refine Pa rfl rfl rfl rfl rfl ?_ | refine Po rfl rfl rfl rfl rfl ?_ | fail)
      exact loop_again (k + 1, us) ⟨hlt, by rw [hst, hpa]; simp⟩ (by simp only; omega) (Wk_g some rfl rfl (by (repeat' (first | exact trivial | rfl | exact listLe_map _ | exact ⟨_, rfl, .inl rfl⟩ | exact ⟨_, rfl, .inr (.inl rfl)⟩ | exact ⟨_, rfl, .inr (.inr rfl)⟩ | refine ⟨_, _, rfl, rfl, ?_⟩ | exact ⟨_, rfl, rfl⟩ | exact ⟨_, _, _, _, rfl, rfl, rfl⟩ | exact ⟨_, rfl⟩ | exact ⟨_, _, rfl⟩ | apply And.intro))))
  · have he : us = rawP n.links i := by rw [hus, List.take_of_length_le (by omega)]
    subst he
    have hsl : (sortI (rawP n.links i)).length = (rawP n.links i).length := by with_unfolding_all exact List.length_mergeSort _
    have hso := ints_Sort (rawP n.links i) (by have := rawP_len n.links i; omega)
    rw [portsOf_eq]
    repeat' (first | refine DW_mark 5 (bx := .row 0 false true 1 ((sortI (rawP n.links i)).map intV1)) rfl ?_ | (apply Wa; constructor) | refine Wb rfl ?_ | refine Wc rfl ?_ | refine Wd (by kernel_rfl) ?_ | refine We rfl ?_ | refine Wf rfl ?_ | refine Wg rfl (by omega) ?_ | refine Wh rfl (by omega) ?_ | refine Wi rfl rfl ?_ | ((first | apply dX rfl | apply Da rfl rfl | apply Db rfl rfl (by intro h; first | trivial | exact ⟨h, trivial⟩ | exact ⟨h, h, trivial⟩)); (focus ((try intro hg); first | exact S_callI 5 hso rfl rfl | exact S_al rfl | exact S_bx rfl rfl | exact S_store rfl rfl rfl rfl rfl rfl | (apply Pu.ok; repeat' (first | rfl | exact .inK (by simp only [InK]; omega) | exact .wr | constructor | decide | omega)))); constructor) | refine Pa rfl rfl rfl rfl rfl ?_ | refine Po rfl rfl rfl rfl rfl ?_ | fail)
    intro _
    refine DW_seal 5 rfl rfl (by rw [List.length_map, hsl]) ?_
    repeat' (first | (apply Wa; constructor) | refine Wb rfl ?_ | refine Wc rfl ?_ | refine Wd (by kernel_rfl) ?_ | refine We rfl ?_ | refine Wf rfl ?_ | refine Wi rfl rfl ?_ | ((first | apply dX rfl | apply Da rfl rfl | apply Db rfl rfl (by intro h; first | trivial | exact ⟨h, trivial⟩ | exact ⟨h, h, trivial⟩)); (focus ((try intro hg); first | exact S_al rfl | exact S_bx rfl rfl | exact S_store rfl rfl rfl rfl rfl rfl | (apply Pu.ok; repeat' (first | rfl | exact .inK (by simp only [InK]; omega) | exact .wr | constructor | decide | omega)))); constructor) | refine Pa rfl rfl rfl rfl rfl ?_ | refine Po rfl rfl rfl rfl rfl ?_ | fail)
    refine ret1 rfl (.inl rfl) ?_
    rfl
theorem end_IndexFunc (l : List End) (f : FuncId) (cap : List V) (p : End → Bool) (hf : ∀ b, FnF Try.prog f (.agg (endV b) :: cap) (.bool (p b))) : FnF Try.prog 60 [.slice (l.map endV), .fn f cap] (.int .i64 (if l.any p then (l.findIdx p : Int) else -1)) := by
  refine fnF_of Try.func60 rfl rfl rfl ?_
  simp only [envOf]
  refine DW_len 0 rfl (fun hlen => ?_)
  have hml : (l.map endV).length = l.length := by simp
  repeat' (first | (apply Wa; constructor) | refine Wb rfl ?_ | refine Wc rfl ?_ | refine Wd (by kernel_rfl) ?_ | refine We rfl ?_ | refine Wf rfl ?_ | refine Wi rfl rfl ?_ | ((first | apply dX rfl | apply Da rfl rfl | apply Db rfl rfl (by intro h; first | trivial | exact ⟨h, trivial⟩ | exact ⟨h, h, trivial⟩)); (focus ((try intro hg); first | exact S_al rfl | exact S_bx rfl rfl | exact S_store rfl rfl rfl rfl rfl rfl | (apply Pu.ok; repeat' (first | rfl | exact .inK (by simp only [InK]; omega) | exact .wr | constructor | decide | omega)))); constructor) | refine Pa rfl rfl rfl rfl rfl ?_ | refine Po rfl rfl rfl rfl rfl ?_ | fail)
  refine DW_loop (fun k : Nat => ⟨[(0, .dat false (.slice (l.map endV))), (1, .dat false (.fn f cap)), (7, .dat true (.int .i64 (l.map endV).length)), (8, .dat true (.int .i64 k))], [], 19⟩)
    (fun k => k ≤ l.length ∧ (l.take k).any p = false) (fun k => l.length - k) 0 ⟨Nat.zero_le _, by simp⟩
    (Wk_g some rfl rfl (by (repeat' (first | exact trivial | rfl | exact listLe_map _ | exact ⟨_, rfl, .inl rfl⟩ | exact ⟨_, rfl, .inr (.inl rfl)⟩ | exact ⟨_, rfl, .inr (.inr rfl)⟩ | refine ⟨_, _, rfl, rfl, ?_⟩ | exact ⟨_, rfl, rfl⟩ | exact ⟨_, _, _, _, rfl, rfl, rfl⟩ | exact ⟨_, rfl⟩ | exact ⟨_, _, rfl⟩ | apply And.intro)))) (fun k hR => ?_)
  obtain ⟨hk, ha⟩ := hR
  by_cases hlt : k < l.length
  · have hx : l[(k : Int).toNat]? = some l[k] := by simp [hlt]
    have hx' : l[k]? = some l[k] := by simp [hlt]
    have hfb := hf l[k]
    generalize l[k] = b at hx hx' hfb
    have ht : l.take (k + 1) = l.take k ++ [b] := by rw [List.take_add_one, hx']; rfl
    cases hp : p b with
    | true =>
      rw [hp] at hfb
      repeat' (first | (apply Wa; constructor) | refine Wb rfl ?_ | refine Wc rfl ?_ | refine Wd (by kernel_rfl) ?_ | refine We rfl ?_ | refine Wf rfl ?_ | refine Wg rfl (by omega) ?_ | refine Wh rfl (by omega) ?_ | refine Wi rfl rfl ?_ | ((first | apply dX rfl | apply Da rfl rfl | apply Db rfl rfl (by intro h; first | trivial | exact ⟨h, trivial⟩ | exact ⟨h, h, trivial⟩)); (focus ((try intro hg); first | exact S_ixM rfl rfl (by omega) hx | exact S_callv rfl rfl hfb | exact S_al rfl | exact S_bx rfl rfl | exact S_store rfl rfl rfl rfl rfl rfl | (apply Pu.ok; repeat' (first | rfl | exact .inK (by simp only [InK]; omega) | exact .wr | constructor | decide | omega)))); constructor) | refine Pa rfl rfl rfl rfl rfl ?_ | refine Po rfl rfl rfl rfl rfl ?_ | fail)
      refine ret1 rfl (.inl rfl) ?_
      have hany : l.any p = true := List.any_eq_true.2 ⟨b, List.mem_of_getElem? hx', hp⟩
      rw [if_pos hany]
      have : l.findIdx p = k := by
        rw [List.findIdx_eq hlt]
        refine ⟨?_, fun j hj => ?_⟩
        · have : l[k] = b := (List.getElem?_eq_some_iff.1 hx').2
          rw [this]; exact hp
        · have := List.any_eq_false.1 ha (l[j]) (by rw [List.mem_take_iff_getElem]; exact ⟨j, by omega, rfl⟩)
          simpa using this
      rw [this]
    | false =>
      rw [hp] at hfb
      repeat' (first | (apply Wa; constructor) | refine Wb rfl ?_ | refine Wc rfl ?_ | refine Wd (by kernel_rfl) ?_ | refine We rfl ?_ | refine Wf rfl ?_ | refine Wg rfl (by omega) ?_ | refine Wh rfl (by omega) ?_ | refine Wi rfl rfl ?_ | ((first | apply dX rfl | apply Da rfl rfl | apply Db rfl rfl (by intro h; first | trivial | exact ⟨h, trivial⟩ | exact ⟨h, h, trivial⟩)); (focus ((try intro hg); first | exact S_ixM rfl rfl (by omega) hx | exact S_callv rfl rfl hfb | exact S_al rfl | exact S_bx rfl rfl | exact S_store rfl rfl rfl rfl rfl rfl | (apply Pu.ok; repeat' (first | rfl | exact .inK (by simp only [InK]; omega) | exact .wr | constructor | decide | omega)))); constructor) | refine Pa rfl rfl rfl rfl rfl ?_ | refine Po rfl rfl rfl rfl rfl ?_ | fail)
      exact loop_again (k + 1) ⟨hlt, by rw [ht, List.any_append, ha]; simp [hp]⟩ (by omega) (Wk_g some rfl rfl (by (repeat' (first | exact trivial | rfl | exact listLe_map _ | exact ⟨_, rfl, .inl rfl⟩ | exact ⟨_, rfl, .inr (.inl rfl)⟩ | exact ⟨_, rfl, .inr (.inr rfl)⟩ | refine ⟨_, _, rfl, rfl, ?_⟩ | exact ⟨_, rfl, rfl⟩ | exact ⟨_, _, _, _, rfl, rfl, rfl⟩ | exact ⟨_, rfl⟩ | exact ⟨_, _, rfl⟩ | apply And.intro))))
  · rw [List.take_of_length_le (by omega)] at ha
    repeat' (first | (apply Wa; constructor) | refine Wb rfl ?_ | refine Wc rfl ?_ | refine Wd (by kernel_rfl) ?_ | refine We rfl ?_ | refine Wf rfl ?_ | refine Wg rfl (by omega) ?_ | refine Wh rfl (by omega) ?_ | refine Wi rfl rfl ?_ | ((first | apply dX rfl | apply Da rfl rfl | apply Db rfl rfl (by intro h; first | trivial | exact ⟨h, trivial⟩ | exact ⟨h, h, trivial⟩)); (focus ((try intro hg); first | exact S_al rfl | exact S_bx rfl rfl | exact S_store rfl rfl rfl rfl rfl rfl | (apply Pu.ok; repeat' (first | rfl | exact .inK (by simp only [InK]; omega) | exact .wr | constructor | decide | omega)))); constructor) | refine Pa rfl rfl rfl rfl rfl ?_ | refine Po rfl rfl rfl rfl rfl ?_ | fail)
    refine ret1 rfl (.inl rfl) ?_
    rw [if_neg (by rw [ha]; simp)]
theorem end_ContainsFunc (l : List End) (f : FuncId) (cap : List V) (p : End → Bool) (hf : ∀ b, FnF Try.prog f (.agg (endV b) :: cap) (.bool (p b))) : FnF Try.prog 40 [.slice (l.map endV), .fn f cap] (.bool (l.any p)) := by
  refine fnF_of Try.func40 rfl rfl rfl ?_
  simp only [envOf]
  repeat' (first | (apply Wa; constructor) | refine Wb rfl ?_ | refine Wc rfl ?_ | refine Wd (by kernel_rfl) ?_ | refine We rfl ?_ | refine Wf rfl ?_ | refine Wi rfl rfl ?_ | ((first | apply dX rfl | apply Da rfl rfl | apply Db rfl rfl (by intro h; first | trivial | exact ⟨h, trivial⟩ | exact ⟨h, h, trivial⟩)); (focus ((try intro hg); first | exact S_call (end_IndexFunc l f cap p hf) rfl | exact S_al rfl | exact S_bx rfl rfl | exact S_store rfl rfl rfl rfl rfl rfl | (apply Pu.ok; repeat' (first | rfl | exact .inK (by simp only [InK]; omega) | exact .wr | constructor | decide | omega)))); constructor) | refine Pa rfl rfl rfl rfl rfl ?_ | refine Po rfl rfl rfl rfl rfl ?_ | fail)
  refine ret1 rfl (.inl rfl) ?_
  congr 1
  split
  · rename_i h
    rw [h, decide_eq_true_iff]; omega
  · rename_i h
    rw [Bool.eq_false_iff.2 h, decide_eq_false_iff_not]; omega
theorem roles_fn (p : Int) (e : End) : FnF Try.prog 41 [.agg (endV e), .rp [.int .i64 p]] (.bool (decide (e.port = p))) := by
  refine fnF_of Try.func41 rfl rfl rfl ?_
  simp only [envOf]
  repeat' (first | (apply Wa; constructor) | refine Wb rfl ?_ | refine Wc rfl ?_ | refine Wd (by kernel_rfl) ?_ | refine We rfl ?_ | refine Wf rfl ?_ | refine Wi rfl rfl ?_ | ((first | apply dX rfl | apply Da rfl rfl | apply Db rfl rfl (by intro h; first | trivial | exact ⟨h, trivial⟩ | exact ⟨h, h, trivial⟩)); (focus ((try intro hg); first | exact S_al rfl | exact S_bx rfl rfl | exact S_store rfl rfl rfl rfl rfl rfl | (apply Pu.ok; repeat' (first | rfl | exact .inK (by simp only [InK]; omega) | exact .wr | constructor | decide | omega)))); constructor) | refine Pa rfl rfl rfl rfl rfl ?_ | refine Po rfl rfl rfl rfl rfl ?_ | fail)
  refine ret1 rfl (.inl rfl) ?_
  rfl
set_option maxHeartbeats 2000000 in
theorem plan_Roles (n : Net) (hn : n.links.length ≤ 40) (i : Int) (ends : List End) (says : Vec) (root : Int) (l : List Offer) :
    FnF Try.prog 23 [.rp n.cells, .int .i64 i, .slice (ends.map endV), says.v, .int .i64 root, offers l] (.tuple [.slice ((portsOf n.links i).map intV1), .slice ((rolesP ends says root l (portsOf n.links i)).map intV1)]) := by
  refine fnF_of Try.func23 rfl rfl rfl ?_
  simp only [envOf]
  have hpl : (portsOf n.links i).length ≤ 80 := by
    have := rawP_len n.links i
    rw [portsOf_eq]; unfold sortI; rw [List.length_mergeSort]; omega
  have hpo := plan_Ports n hn i
  generalize portsOf n.links i = ps at hpl hpo
  have hml : (ps.map intV1).length = ps.length := by simp
  repeat' (first | (apply Wa; constructor) | refine Wb rfl ?_ | refine Wc rfl ?_ | refine Wd (by kernel_rfl) ?_ | refine We rfl ?_ | refine Wf rfl ?_ | refine Wi rfl rfl ?_ | ((first | apply dX rfl | apply Da rfl rfl | apply Db rfl rfl (by intro h; first | trivial | exact ⟨h, trivial⟩ | exact ⟨h, h, trivial⟩)); (focus ((try intro hg); first | exact S_call hpo rfl | exact S_al rfl | exact S_bx rfl rfl | exact S_store rfl rfl rfl rfl rfl rfl | (apply Pu.ok; repeat' (first | rfl | exact .inK (by simp only [InK]; omega) | exact .wr | constructor | decide | omega)))); constructor) | refine Pa rfl rfl rfl rfl rfl ?_ | refine Po rfl rfl rfl rfl rfl ?_ | fail)
  refine DW_loop (fun p : Nat × List Int => ⟨[(2, .dat false (.slice (ends.map endV))), (4, .dat false (.int .i64 root)), (5, .dat false (offers l)), (9, .ptr 9 0), (12, .dat true (.slice (ps.map intV1))), (13, .own 13 0 0 p.2.length), (20, .dat true (.slice (ps.map intV1))), (21, .dat true (.int .i64 (ps.map intV1).length)), (22, .dat true (.int .i64 p.1))],
      [(9, .cells false true (says.cells.map (.dat false))), (13, .row 0 false true 1 (p.2.map intV1))], 41⟩)
    (fun p => p.1 ≤ ps.length ∧ p.2 = rolesP ends says root l (ps.take p.1)) (fun p => ps.length - p.1) (0, []) ⟨Nat.zero_le _, rfl⟩
    (Wk_g (fun g => if g = 13 then none else some g) rfl rfl (by (repeat' (first | exact trivial | rfl | exact listLe_map _ | exact ⟨_, rfl, .inl rfl⟩ | exact ⟨_, rfl, .inr (.inl rfl)⟩ | exact ⟨_, rfl, .inr (.inr rfl)⟩ | refine ⟨_, _, rfl, rfl, ?_⟩ | exact ⟨_, rfl, rfl⟩ | exact ⟨_, _, _, _, rfl, rfl, rfl⟩ | exact ⟨_, rfl⟩ | exact ⟨_, _, rfl⟩ | apply And.intro)))) (fun p hR => ?_)
  obtain ⟨k, us⟩ := p
  obtain ⟨hk, hus⟩ := hR
  simp only at hk hus
  dsimp only
  have hul : us.length = k := by rw [hus, rolesP_len]; simp; omega
  by_cases hlt : k < ps.length
  · have hx : ps[(k : Int).toNat]? = some ps[k] := by simp [hlt]
    have ht : ps.take (k + 1) = ps.take k ++ [ps[k]] := by rw [List.take_add_one, List.getElem?_eq_getElem hlt]; rfl
    generalize ps[k] = p at hx ht
    have hc := end_ContainsFunc ends 41 [.rp [.int .i64 p]] (fun e => decide (e.port = p)) (fun e => roles_fn p e)
    have hnext : rolesP ends says root l (ps.take (k + 1)) = us ++ [if ends.any (fun e => decide (e.port = p)) then roleOf says root p l else 0] := by
      rw [ht, hus]; unfold rolesP; rw [List.map_append]; rfl
    have hro := vec_Role says root p l
    cases ha : ends.any (fun e => decide (e.port = p)) with
    | true =>
      rw [ha] at hc hnext
      rw [if_pos rfl] at hnext
      repeat' (first | (apply Wa; constructor) | refine Wb rfl ?_ | refine Wc rfl ?_ | refine Wd (by kernel_rfl) ?_ | refine We rfl ?_ | refine Wf rfl ?_ | refine Wg rfl (by omega) ?_ | refine Wh rfl (by omega) ?_ | refine Wi rfl rfl ?_ | ((first | apply dX rfl | apply Da rfl rfl | apply Db rfl rfl (by intro h; first | trivial | exact ⟨h, trivial⟩ | exact ⟨h, h, trivial⟩)); (focus ((try intro hg); first | exact S_ixM rfl rfl (by omega) hx | exact S_frz 15 rfl rfl (S_makeFunc rfl) | exact S_call hc rfl | exact S_call hro rfl | exact S_appM (f := intV1) (us := us) (bs := [roleOf says root p l]) rfl rfl (.dat _ _) rfl rfl (.inr ⟨rfl, inferInstance⟩) rfl (by simp only [List.length_singleton]; omega) | exact S_al rfl | exact S_bx rfl rfl | exact S_store rfl rfl rfl rfl rfl rfl | (apply Pu.ok; repeat' (first | rfl | exact .inK (by simp only [InK]; omega) | exact .wr | constructor | decide | omega)))); constructor) | refine Pa rfl rfl rfl rfl rfl ?_ | refine Po rfl rfl rfl rfl rfl ?_ | fail)
      exact loop_again (k + 1, us ++ [roleOf says root p l]) ⟨hlt, hnext.symm⟩ (by simp only; omega) (Wk_g some rfl rfl (by (repeat' (first | exact trivial | rfl | exact listLe_map _ | exact ⟨_, rfl, .inl rfl⟩ | exact ⟨_, rfl, .inr (.inl rfl)⟩ | exact ⟨_, rfl, .inr (.inr rfl)⟩ | refine ⟨_, _, rfl, rfl, ?_⟩ | exact ⟨_, rfl, rfl⟩ | exact ⟨_, _, _, _, rfl, rfl, rfl⟩ | exact ⟨_, rfl⟩ | exact ⟨_, _, rfl⟩ | apply And.intro))))
    | false =>
      rw [ha] at hc hnext
      rw [if_neg (by simp)] at hnext
      repeat' (first | (apply Wa; constructor) | refine Wb rfl ?_ | refine Wc rfl ?_ | refine Wd (by kernel_rfl) ?_ | refine We rfl ?_ | refine Wf rfl ?_ | refine Wg rfl (by omega) ?_ | refine Wh rfl (by omega) ?_ | refine Wi rfl rfl ?_ | ((first | apply dX rfl | apply Da rfl rfl | apply Db rfl rfl (by intro h; first | trivial | exact ⟨h, trivial⟩ | exact ⟨h, h, trivial⟩)); (focus ((try intro hg); first | exact S_ixM rfl rfl (by omega) hx | exact S_frz 15 rfl rfl (S_makeFunc rfl) | exact S_call hc rfl | exact S_appM (f := intV1) (us := us) (bs := [0]) rfl rfl (.dat _ _) rfl rfl (.inr ⟨rfl, inferInstance⟩) rfl (by simp only [List.length_singleton]; omega) | exact S_al rfl | exact S_bx rfl rfl | exact S_store rfl rfl rfl rfl rfl rfl | (apply Pu.ok; repeat' (first | rfl | exact .inK (by simp only [InK]; omega) | exact .wr | constructor | decide | omega)))); constructor) | refine Pa rfl rfl rfl rfl rfl ?_ | refine Po rfl rfl rfl rfl rfl ?_ | fail)
      exact loop_again (k + 1, us ++ [0]) ⟨hlt, hnext.symm⟩ (by simp only; omega) (Wk_g some rfl rfl (by (repeat' (first | exact trivial | rfl | exact listLe_map _ | exact ⟨_, rfl, .inl rfl⟩ | exact ⟨_, rfl, .inr (.inl rfl)⟩ | exact ⟨_, rfl, .inr (.inr rfl)⟩ | refine ⟨_, _, rfl, rfl, ?_⟩ | exact ⟨_, rfl, rfl⟩ | exact ⟨_, _, _, _, rfl, rfl, rfl⟩ | exact ⟨_, rfl⟩ | exact ⟨_, _, rfl⟩ | apply And.intro))))
  · have he : us = rolesP ends says root l ps := by rw [hus, List.take_of_length_le (by omega)]
    refine DW_seal 13 rfl rfl (by simp) ?_
    repeat' (first | (apply Wa; constructor) | refine Wb rfl ?_ | refine Wc rfl ?_ | refine Wd (by kernel_rfl) ?_ | refine We rfl ?_ | refine Wf rfl ?_ | refine Wg rfl (by omega) ?_ | refine Wh rfl (by omega) ?_ | refine Wi rfl rfl ?_ | ((first | apply dX rfl | apply Da rfl rfl | apply Db rfl rfl (by intro h; first | trivial | exact ⟨h, trivial⟩ | exact ⟨h, h, trivial⟩)); (focus ((try intro hg); first | exact S_al rfl | exact S_bx rfl rfl | exact S_store rfl rfl rfl rfl rfl rfl | (apply Pu.ok; repeat' (first | rfl | exact .inK (by simp only [InK]; omega) | exact .wr | constructor | decide | omega)))); constructor) | refine Pa rfl rfl rfl rfl rfl ?_ | refine Po rfl rfl rfl rfl rfl ?_ | fail)
    refine ret2 rfl (.inl rfl) rfl (.inl rfl) ?_
    rw [← he]
theorem clone_vecsP (l : List Vec) (hl : l.length ≤ 1099511627776) : FnG Try.prog 20 [.dat false (.slice (l.map Vec.cells))] [] (.own 1000 0 0 l.length) [(1000, .row 0 false true 4 (l.map Vec.cells))] := by
  refine fnG_of Try.func20 rfl rfl rfl ?_
  simp only [envD]
  repeat' (first | refine DW_isnil rfl rfl rfl (fun h0 => ?_) ?_ | (apply dt rfl; case h => exact S_litO (els := []) _ rfl rfl rfl rfl rfl) | (apply Wa; constructor) | refine Wb rfl ?_ | refine Wc rfl ?_ | refine Wd (by kernel_rfl) ?_ | refine We rfl ?_ | refine Wf rfl ?_ | refine Wi rfl rfl ?_ | ((first | apply dX rfl | apply Da rfl rfl | apply Db rfl rfl (by intro h; first | trivial | exact ⟨h, trivial⟩ | exact ⟨h, h, trivial⟩)); (focus ((try intro hg); first | exact S_appM (f := Vec.cells) (us := []) (bs := l) rfl rfl (.dat _ _) rfl rfl (.inr ⟨rfl, inferInstance⟩) rfl (by simp only [List.length_nil]; omega) | exact S_al rfl | exact S_bx rfl rfl | exact S_store rfl rfl rfl rfl rfl rfl | (apply Pu.ok; repeat' (first | rfl | exact .inK (by simp only [InK]; omega) | exact .wr | constructor | decide | omega)))); constructor) | refine Pa rfl rfl rfl rfl rfl ?_ | refine Po rfl rfl rfl rfl rfl ?_ | fail)
  · have hl0 : l = [] := List.map_eq_nil_iff.1 h0
    subst hl0
    exact gOwn (Wk_g (fun g => none) rfl rfl (by (repeat' (first | exact trivial | rfl | exact listLe_map _ | exact ⟨_, rfl, .inl rfl⟩ | exact ⟨_, rfl, .inr (.inl rfl)⟩ | exact ⟨_, rfl, .inr (.inr rfl)⟩ | refine ⟨_, _, rfl, rfl, ?_⟩ | exact ⟨_, rfl, rfl⟩ | exact ⟨_, _, _, _, rfl, rfl, rfl⟩ | exact ⟨_, rfl⟩ | exact ⟨_, _, rfl⟩ | apply And.intro))))
  · exact gOwn (Wk_g (fun g => if g = 1000 then some 5 else none) rfl rfl (by (repeat' (first | exact trivial | rfl | exact listLe_map _ | exact ⟨_, rfl, .inl rfl⟩ | exact ⟨_, rfl, .inr (.inl rfl)⟩ | exact ⟨_, rfl, .inr (.inr rfl)⟩ | refine ⟨_, _, rfl, rfl, ?_⟩ | exact ⟨_, rfl, rfl⟩ | exact ⟨_, _, _, _, rfl, rfl, rfl⟩ | exact ⟨_, rfl⟩ | exact ⟨_, _, rfl⟩ | apply And.intro))))
end Go.Proofs.Ytfmaehhloffabaa
