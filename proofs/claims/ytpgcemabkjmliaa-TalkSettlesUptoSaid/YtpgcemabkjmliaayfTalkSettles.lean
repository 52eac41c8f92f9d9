/- Law: TalkSettles. -/
import Derived.Test.YtpgcemabkjmliaaydTas
namespace Go.Proofs.Ytpgcemabkjmliaa
open Go.RowKit
attribute [local irreducible] SStep DW DWin DOps thenQ inBlk loopQ retQ retQG FnF FnG FnI FnM Wk IntKind.wrap IntKind.andI IntKind.orI IntKind.xorI IntKind.andNotI IntKind.shlI IntKind.shrI playA onA
set_option maxHeartbeats 8000000 in
theorem law_TalkSettles (n : Net) (ht : n.typed) (trees : Int) (l : List Doing) (more : Int) (hlb : l.length ≤ 1048576) : FnF Try.prog 7 [n.v, .int .i64 trees, .slice (l.map Doing.cells), .int .i64 more] (.bool true) := by
  refine fnF_of Try.func7 rfl rfl rfl ?_
  simp only [envOf]
  have hml : (l.map Doing.cells).length = l.length := by simp
  by_cases c1 : more < 0
  · repeat' (first | (apply Wa; constructor) | refine Wb rfl ?_ | refine Wc rfl ?_ | refine Wd (by kernel_rfl) ?_ | refine We rfl ?_ | refine Wf rfl ?_ | refine Wg rfl (by omega) ?_ | refine Wh rfl (by omega) ?_ | refine Wi rfl rfl ?_ | ((first | apply dX rfl | apply Da rfl rfl | apply Db rfl rfl (by intro h; first | trivial | exact ⟨h, trivial⟩ | exact ⟨h, h, trivial⟩)); (focus ((try intro hg); first | exact S_call law7_alive rfl | exact Ca rfl rfl (by constructor) (by omega) | exact Cb rfl rfl (by constructor) (by omega) | exact S_al rfl | exact S_bx rfl rfl | exact S_store rfl rfl rfl rfl rfl rfl | (apply Pu.ok; repeat' (first | rfl | exact .inK (by simp only [InK]; omega) | exact .wr | constructor | decide | omega)))); constructor) | refine Pa rfl rfl rfl rfl rfl ?_ | refine Po rfl rfl rfl rfl rfl ?_ | fail)
    refine ret1 rfl (by first | exact .inl rfl | exact .inr (flat_of rfl)) ?_
    rfl
  by_cases c2 : 100 < more
  · repeat' (first | (apply Wa; constructor) | refine Wb rfl ?_ | refine Wc rfl ?_ | refine Wd (by kernel_rfl) ?_ | refine We rfl ?_ | refine Wf rfl ?_ | refine Wg rfl (by omega) ?_ | refine Wh rfl (by omega) ?_ | refine Wi rfl rfl ?_ | ((first | apply dX rfl | apply Da rfl rfl | apply Db rfl rfl (by intro h; first | trivial | exact ⟨h, trivial⟩ | exact ⟨h, h, trivial⟩)); (focus ((try intro hg); first | exact S_call law7_alive rfl | exact Ca rfl rfl (by constructor) (by omega) | exact Cb rfl rfl (by constructor) (by omega) | exact S_al rfl | exact S_bx rfl rfl | exact S_store rfl rfl rfl rfl rfl rfl | (apply Pu.ok; repeat' (first | rfl | exact .inK (by simp only [InK]; omega) | exact .wr | constructor | decide | omega)))); constructor) | refine Pa rfl rfl rfl rfl rfl ?_ | refine Po rfl rfl rfl rfl rfl ?_ | fail)
    refine ret1 rfl (by first | exact .inl rfl | exact .inr (flat_of rfl)) ?_
    rfl
  by_cases c3 : 28 < l.length
  · repeat' (first | (apply Wa; constructor) | refine Wb rfl ?_ | refine Wc rfl ?_ | refine Wd (by kernel_rfl) ?_ | refine We rfl ?_ | refine Wf rfl ?_ | refine Wg rfl (by omega) ?_ | refine Wh rfl (by omega) ?_ | refine Wi rfl rfl ?_ | ((first | apply dX rfl | apply Da rfl rfl | apply Db rfl rfl (by intro h; first | trivial | exact ⟨h, trivial⟩ | exact ⟨h, h, trivial⟩)); (focus ((try intro hg); first | exact S_call law7_alive rfl | exact Ca rfl rfl (by constructor) (by omega) | exact Cb rfl rfl (by constructor) (by omega) | exact S_al rfl | exact S_bx rfl rfl | exact S_store rfl rfl rfl rfl rfl rfl | (apply Pu.ok; repeat' (first | rfl | exact .inK (by simp only [InK]; omega) | exact .wr | constructor | decide | omega)))); constructor) | refine Pa rfl rfl rfl rfl rfl ?_ | refine Po rfl rfl rfl rfl rfl ?_ | fail)
    refine ret1 rfl (by first | exact .inl rfl | exact .inr (flat_of rfl)) ?_
    rfl
  have hp := talk_Play n ht trees (l ++ [tickD 40])
  have ht40 := law7_ticks 40
  have htm := law7_ticks more
  rcases playA_cases ht trees (l ++ [tickD 40]) with ⟨f, hf, hne⟩ | ⟨hg, h0, h1, h2, hl, ⟨m, t⟩, hon, hpl⟩
  · rw [hf] at hp
    rw [← whole_eq (f := Doing.cells) (us := l ++ [tickD 40]) rfl] at hp
    obtain ⟨e, i⟩ := f
    simp only at hne
    repeat' (first | (apply dt rfl; case h => exact S_litO (els := []) _ rfl rfl rfl rfl rfl) | (apply Wa; constructor) | refine Wb rfl ?_ | refine Wc rfl ?_ | refine Wd (by kernel_rfl) ?_ | refine We rfl ?_ | refine Wf rfl ?_ | refine Wg rfl (by omega) ?_ | refine Wh rfl (by omega) ?_ | refine Wi rfl rfl ?_ | ((first | apply dX rfl | apply Da rfl rfl | apply Db rfl rfl (by intro h; first | trivial | exact ⟨h, trivial⟩ | exact ⟨h, h, trivial⟩)); (focus ((try intro hg); first | exact S_call law7_alive rfl | exact S_call ht40 rfl | exact S_appM (f := Doing.cells) (us := []) (bs := l) rfl rfl (.dat _ _) rfl rfl (.inr ⟨rfl, inferInstance⟩) rfl (by simp only [List.length_nil]; omega) | exact S_appM (f := Doing.cells) (us := l) (bs := [tickD 40]) rfl rfl (.dat _ _) rfl rfl (.inr ⟨rfl, inferInstance⟩) rfl (by simp only [List.length_singleton]; omega) | exact S_call hp rfl | exact Ca rfl rfl (by constructor) (by omega) | exact Cb rfl rfl (by constructor) (by omega) | exact S_al rfl | exact S_bx rfl rfl | exact S_store rfl rfl rfl rfl rfl rfl | (apply Pu.ok; repeat' (first | rfl | exact .inK (by simp only [InK]; omega) | exact .wr | constructor | decide | omega)))); constructor) | refine Pa rfl rfl rfl rfl rfl ?_ | refine Po rfl rfl rfl rfl rfl ?_ | fail)
    refine ret1 rfl (by first | exact .inl rfl | exact .inr (flat_of rfl)) ?_
    rfl
  · rw [hpl] at hp
    obtain ⟨mg, mt, m0, mk, mgt, mtl⟩ := play_two ht hpl hg h0 h1 h2 hon
    obtain ⟨t1, hon1, htt⟩ := run_ticks (by decide) hon
    simp only at hon1 htt
    have hgt1 := (run_good hg h2 hon1).2
    have hst : standsT m t := by rw [htt]; exact stands_ticks mg hgt1 (by decide)
    have hst2 : standsT m (ticksN m t more.toNat) := by
      rw [htt]
      intro j u hu i hi
      rw [ticksN_get, ticksN_get] at hu
      obtain ⟨u1, h3, rfl⟩ := Option.map_eq_some_iff.1 hu
      obtain ⟨u0, h4, rfl⟩ := Option.map_eq_some_iff.1 h3
      rw [← tkN_add]
      exact settle_roles mg j (hgt1.m u0 (List.mem_of_getElem? h4)).1 hi (by simp; omega)
    have ha1 := law7_as m mt mg m0 t mgt hst
    have ha2 := law7_as m mt mg m0 _ (ticksN_good mgt more.toNat) hst2
    have hq := talk_On m mt t (fun _ => ⟨mgt, by omega⟩) [tickD more]
    rw [onA_loop m0 (by simp), onLoop_tick (by omega)] at hq
    change FnF _ _ _ (.tuple [m.v, talkV t, faultV (0, 0)]) at hp
    change FnF _ _ _ (.tuple [m.v, talkV (ticksN m t more.toNat), faultV (0, 0)]) at hq
    rw [← whole_eq (f := Doing.cells) (us := l ++ [tickD 40]) rfl] at hp
    repeat' (first | (apply dt rfl; case h => exact S_litO (els := []) _ rfl rfl rfl rfl rfl) | (apply Wa; constructor) | refine Wb rfl ?_ | refine Wc rfl ?_ | refine Wd (by kernel_rfl) ?_ | refine We rfl ?_ | refine Wf rfl ?_ | refine Wg rfl (by omega) ?_ | refine Wh rfl (by omega) ?_ | refine Wi rfl rfl ?_ | ((first | apply dX rfl | apply Da rfl rfl | apply Db rfl rfl (by intro h; first | trivial | exact ⟨h, trivial⟩ | exact ⟨h, h, trivial⟩)); (focus ((try intro hg); first | exact S_call law7_alive rfl | exact S_call ht40 rfl | exact S_call htm rfl | exact S_appM (f := Doing.cells) (us := []) (bs := l) rfl rfl (.dat _ _) rfl rfl (.inr ⟨rfl, inferInstance⟩) rfl (by simp only [List.length_nil]; omega) | exact S_appM (f := Doing.cells) (us := l) (bs := [tickD 40]) rfl rfl (.dat _ _) rfl rfl (.inr ⟨rfl, inferInstance⟩) rfl (by simp only [List.length_singleton]; omega) | exact S_call hp rfl | exact S_call ha1 rfl | exact S_call ha2 rfl | exact S_call hq rfl | exact Ca rfl rfl (by constructor) (by omega) | exact Cb rfl rfl (by constructor) (by omega) | exact S_al rfl | exact S_bx rfl rfl | exact S_store rfl rfl rfl rfl rfl rfl | (apply Pu.ok; repeat' (first | rfl | exact .inK (by simp only [InK]; omega) | exact .wr | constructor | decide | omega)))); constructor) | refine Pa rfl rfl rfl rfl rfl ?_ | refine Po rfl rfl rfl rfl rfl ?_ | fail)
    refine ret1 rfl (by first | exact .inl rfl | exact .inr (flat_of rfl)) ?_
    rfl
end Go.Proofs.Ytpgcemabkjmliaa
