/- Law: TopGhost. -/
import Derived.Test.YtfmaehhloffabaayfTopLine
namespace Go.Proofs.Ytfmaehhloffabaa
open Go.RowKit
theorem start_tk2 {n m : Net} {T U : Nat} : (ticksN m (ticksN n (start0 n 1) T) U)[(0 : Int).toNat]? = some (tkN m 0 (tkN n 0 ((List.range n.bridges.length).map (mind0 n 0)) T) U) := by
  show (ticksN m (ticksN n (start0 n 1) T) U)[0]? = _
  rw [ticksN_get, ticksN_get]; rfl
attribute [local irreducible] SStep DW DWin DOps thenQ inBlk loopQ retQ retQG FnF FnG FnI FnM Wk IntKind.wrap IntKind.andI IntKind.orI IntKind.xorI IntKind.andNotI IntKind.shlI IntKind.shrI playA onA ticksN tkN planF planA portsOf roleF opensT planS lineN cutN
set_option maxHeartbeats 8000000 in
theorem law_TopGhost (k at_ : Int) : FnF Try.prog 4 [.int .i64 k, .int .i64 at_] (.bool true) := by
  refine fnF_of Try.func4 rfl rfl rfl ?_
  simp only [envOf]
  by_cases c1 : k < 3
  · repeat' (first | (apply Wa; constructor) | refine Wb rfl ?_ | refine Wc rfl ?_ | refine Wd (by kernel_rfl) ?_ | refine We rfl ?_ | refine Wf rfl ?_ | refine Wg rfl (by omega) ?_ | refine Wh rfl (by omega) ?_ | refine Wi rfl rfl ?_ | ((first | apply dX rfl | apply Da rfl rfl | apply Db rfl rfl (by intro h; first | trivial | exact ⟨h, trivial⟩ | exact ⟨h, h, trivial⟩)); (focus ((try intro hg); first | exact S_call top_alive rfl | exact Ca rfl rfl (by constructor) (by omega) | exact Cb rfl rfl (by constructor) (by omega) | exact S_al rfl | exact S_bx rfl rfl | exact S_store rfl rfl rfl rfl rfl rfl | (apply Pu.ok; repeat' (first | rfl | exact .inK (by simp only [InK]; omega) | exact .wr | constructor | decide | omega)))); constructor) | refine Pa rfl rfl rfl rfl rfl ?_ | refine Po rfl rfl rfl rfl rfl ?_ | fail)
    refine ret1 rfl (by first | exact .inl rfl | exact .inr (flat_of rfl)) ?_
    rfl
  by_cases c2 : 12 < k
  · repeat' (first | (apply Wa; constructor) | refine Wb rfl ?_ | refine Wc rfl ?_ | refine Wd (by kernel_rfl) ?_ | refine We rfl ?_ | refine Wf rfl ?_ | refine Wg rfl (by omega) ?_ | refine Wh rfl (by omega) ?_ | refine Wi rfl rfl ?_ | ((first | apply dX rfl | apply Da rfl rfl | apply Db rfl rfl (by intro h; first | trivial | exact ⟨h, trivial⟩ | exact ⟨h, h, trivial⟩)); (focus ((try intro hg); first | exact S_call top_alive rfl | exact Ca rfl rfl (by constructor) (by omega) | exact Cb rfl rfl (by constructor) (by omega) | exact S_al rfl | exact S_bx rfl rfl | exact S_store rfl rfl rfl rfl rfl rfl | (apply Pu.ok; repeat' (first | rfl | exact .inK (by simp only [InK]; omega) | exact .wr | constructor | decide | omega)))); constructor) | refine Pa rfl rfl rfl rfl rfl ?_ | refine Po rfl rfl rfl rfl rfl ?_ | fail)
    refine ret1 rfl (by first | exact .inl rfl | exact .inr (flat_of rfl)) ?_
    rfl
  by_cases c3 : at_ < 0
  · repeat' (first | (apply Wa; constructor) | refine Wb rfl ?_ | refine Wc rfl ?_ | refine Wd (by kernel_rfl) ?_ | refine We rfl ?_ | refine Wf rfl ?_ | refine Wg rfl (by omega) ?_ | refine Wh rfl (by omega) ?_ | refine Wi rfl rfl ?_ | ((first | apply dX rfl | apply Da rfl rfl | apply Db rfl rfl (by intro h; first | trivial | exact ⟨h, trivial⟩ | exact ⟨h, h, trivial⟩)); (focus ((try intro hg); first | exact S_call top_alive rfl | exact Ca rfl rfl (by constructor) (by omega) | exact Cb rfl rfl (by constructor) (by omega) | exact S_al rfl | exact S_bx rfl rfl | exact S_store rfl rfl rfl rfl rfl rfl | (apply Pu.ok; repeat' (first | rfl | exact .inK (by simp only [InK]; omega) | exact .wr | constructor | decide | omega)))); constructor) | refine Pa rfl rfl rfl rfl rfl ?_ | refine Po rfl rfl rfl rfl rfl ?_ | fail)
    refine ret1 rfl (by first | exact .inl rfl | exact .inr (flat_of rfl)) ?_
    rfl
  by_cases c4 : 180 < at_
  · repeat' (first | (apply Wa; constructor) | refine Wb rfl ?_ | refine Wc rfl ?_ | refine Wd (by kernel_rfl) ?_ | refine We rfl ?_ | refine Wf rfl ?_ | refine Wg rfl (by omega) ?_ | refine Wh rfl (by omega) ?_ | refine Wi rfl rfl ?_ | ((first | apply dX rfl | apply Da rfl rfl | apply Db rfl rfl (by intro h; first | trivial | exact ⟨h, trivial⟩ | exact ⟨h, h, trivial⟩)); (focus ((try intro hg); first | exact S_call top_alive rfl | exact Ca rfl rfl (by constructor) (by omega) | exact Cb rfl rfl (by constructor) (by omega) | exact S_al rfl | exact S_bx rfl rfl | exact S_store rfl rfl rfl rfl rfl rfl | (apply Pu.ok; repeat' (first | rfl | exact .inK (by simp only [InK]; omega) | exact .wr | constructor | decide | omega)))); constructor) | refine Pa rfl rfl rfl rfl rfl ?_ | refine Po rfl rfl rfl rfl rfl ?_ | fail)
    refine ret1 rfl (by first | exact .inl rfl | exact .inr (flat_of rfl)) ?_
    rfl
  obtain ⟨K, rfl⟩ : ∃ K : Nat, k = (K : Int) := ⟨k.toNat, by omega⟩
  obtain ⟨T, rfl⟩ : ∃ T : Nat, at_ = (T : Int) := ⟨at_.toNat, by omega⟩
  have hrm : (T : Int).tmod 50 = ((T % 50 : Nat) : Int) := by rw [Int.tmod_eq_emod_of_nonneg (by omega)]; omega
  obtain ⟨U, hU⟩ : ∃ U, U = T % 50 := ⟨_, rfl⟩
  rw [← hU] at hrm
  have hU2 : U < 50 := by omega
  have hln := top_line K (by omega) false
  have hg := lineN_good (k := K) (by omega) false
  have htk0 := top_ticks 50
  have htk := top_ticks (21 + (U : Int))
  have hp := talk_Play (lineN K false) (lineN_typed K false) 1 [⟨1, 50, 0, 0⟩, ⟨3, 0, 0, 0⟩, ⟨1, 21 + (U : Int), 0, 0⟩]
  rw [play_loop (lineN_wrong (by omega) false) (by simp), on_tick (by decide), on_do (by simp) (cut_do (k := K) (by omega)), on_tick (by omega), on_nil] at hp
  have hl0 := start_tk2 (n := lineN K false) (m := cutN K) (T := (50 : Int).toNat) (U := (21 + (U : Int)).toNat)
  have hl1 : (tkN (lineN K false) 0 ((List.range (lineN K false).bridges.length).map (mind0 (lineN K false) 0)) (50 : Int).toNat).length = K := by rw [tkN_len, List.length_map, List.length_range, lineN_len]
  have hgh := fun (i : Nat) (h1 : 1 ≤ i) (hi : i < K) => ghost (k := K) (by omega) (by omega) hl1 (T := (21 + (U : Int)).toNat) (by omega) h1 hi
  have hll : (tkN (cutN K) 0 (tkN (lineN K false) 0 ((List.range (lineN K false).bridges.length).map (mind0 (lineN K false) 0)) (50 : Int).toNat) (21 + (U : Int)).toNat).length = K := by rw [tkN_len, hl1]
  obtain ⟨b, hb, hbo, hbi⟩ : ∃ b, (lineN K false).bridges[(0 : Int).toNat]? = some b ∧ b.ok ∧ b.id 0 = 9223372036854775818 := by
    have hj' : 0 < (lineN K false).bridges.length := by rw [lineN_len]; omega
    refine ⟨_, List.getElem?_eq_getElem hj', hg.br _ (List.getElem_mem hj'), ?_⟩
    have := lineN_id (k := K) (r := false) (i := 0) (by omega)
    rw [idN_of (List.getElem?_eq_getElem hj')] at this
    exact this
  have hib := plan_Ident b hbo 0
  rw [hbi] at hib
  generalize tkN (cutN K) 0 (tkN (lineN K false) 0 ((List.range (lineN K false).bridges.length).map (mind0 (lineN K false) 0)) (50 : Int).toNat) (21 + (U : Int)).toNat = l at hl0 hgh hll
  generalize ticksN (cutN K) (ticksN (lineN K false) (start0 (lineN K false) 1) (50 : Int).toNat) (21 + (U : Int)).toNat = t at hp hl0
  generalize lineN K false = n at hln hp hb
  generalize cutN K = m at hp
  clear hg hl1
  change FnF _ _ _ (.tuple [m.v, talkV t, faultV (0, 0)]) at hp
  have hml : (l.map Mind.cells).length = l.length := by simp
  repeat' (first | (apply Wa; constructor) | refine Wb rfl ?_ | refine Wc rfl ?_ | refine Wd (by kernel_rfl) ?_ | refine We rfl ?_ | refine Wf rfl ?_ | refine Wg rfl (by omega) ?_ | refine Wh rfl (by omega) ?_ | refine Wi rfl rfl ?_ | ((first | apply dX rfl | apply Da rfl rfl | apply Db rfl rfl (by intro h; first | trivial | exact ⟨h, trivial⟩ | exact ⟨h, h, trivial⟩)); (focus ((try intro hg); first | exact as_int (S_rem rfl rfl (by decide)) hrm | exact S_call top_alive rfl | exact S_call hln rfl | exact S_call htk0 rfl | exact S_call htk rfl | exact S_call hp rfl | exact S_ixM rfl rfl (by omega) hl0 | exact S_ixM rfl rfl (by omega) hb | exact S_call hib rfl | exact Ca rfl rfl (by constructor) (by omega) | exact Cb rfl rfl (by constructor) (by omega) | exact S_al rfl | exact S_bx rfl rfl | exact S_store rfl rfl rfl rfl rfl rfl | (apply Pu.ok; repeat' (first | rfl | exact .inK (by simp only [InK]; omega) | exact .wr | constructor | decide | omega)))); constructor) | refine Pa rfl rfl rfl rfl rfl ?_ | refine Po rfl rfl rfl rfl rfl ?_ | fail)
  refine DW_loop (fun i : Nat => ⟨[(9, .dat true (.int .u64 9223372036854775818)), (54, .dat true (.slice (l.map Mind.cells))), (55, .dat true (.int .i64 (l.map Mind.cells).length)), (56, .dat true (.int .i64 i))], [], 71⟩)
    (fun i => i ≤ K) (fun i => K - i) 0 (Nat.zero_le _) (Wk_g some rfl rfl (by (repeat' (first | exact trivial | rfl | exact listLe_map _ | exact ⟨_, rfl, .inl rfl⟩ | exact ⟨_, rfl, .inr (.inl rfl)⟩ | exact ⟨_, rfl, .inr (.inr rfl)⟩ | refine ⟨_, _, rfl, rfl, ?_⟩ | exact ⟨_, rfl, rfl⟩ | exact ⟨_, _, _, _, rfl, rfl, rfl⟩ | exact ⟨_, rfl⟩ | exact ⟨_, _, rfl⟩ | apply And.intro)))) (fun i hi => ?_)
  by_cases hlt : i < K
  · have hx : l[(i : Int).toNat]? = some (mAt l i) := by rw [Int.toNat_natCast]; exact mAt_get (by omega)
    by_cases h1 : 1 ≤ i
    · have hr := hgh i h1 hlt
      generalize mAt l i = m at hx hr
      repeat' (first | (apply Wa; constructor) | refine Wb rfl ?_ | refine Wc rfl ?_ | refine Wd (by kernel_rfl) ?_ | refine We rfl ?_ | refine Wf rfl ?_ | refine Wg rfl (by omega) ?_ | refine Wh rfl (by omega) ?_ | refine Wi rfl rfl ?_ | ((first | apply dX rfl | apply Da rfl rfl | apply Db rfl rfl (by intro h; first | trivial | exact ⟨h, trivial⟩ | exact ⟨h, h, trivial⟩)); (focus ((try intro hg); first | exact S_ixM rfl rfl (by omega) hx | exact Ca rfl rfl (by constructor) (by omega) | exact Cb rfl rfl (by constructor) (by omega) | exact S_al rfl | exact S_bx rfl rfl | exact S_store rfl rfl rfl rfl rfl rfl | (apply Pu.ok; repeat' (first | rfl | exact .inK (by simp only [InK]; omega) | exact .wr | constructor | decide | omega)))); constructor) | refine Pa rfl rfl rfl rfl rfl ?_ | refine Po rfl rfl rfl rfl rfl ?_ | fail)
      exact loop_again (i + 1) hlt (by omega) (Wk_g some rfl rfl (by (repeat' (first | exact trivial | rfl | exact listLe_map _ | exact ⟨_, rfl, .inl rfl⟩ | exact ⟨_, rfl, .inr (.inl rfl)⟩ | exact ⟨_, rfl, .inr (.inr rfl)⟩ | refine ⟨_, _, rfl, rfl, ?_⟩ | exact ⟨_, rfl, rfl⟩ | exact ⟨_, _, _, _, rfl, rfl, rfl⟩ | exact ⟨_, rfl⟩ | exact ⟨_, _, rfl⟩ | apply And.intro))))
    · generalize mAt l i = m at hx
      repeat' (first | (apply Wa; constructor) | refine Wb rfl ?_ | refine Wc rfl ?_ | refine Wd (by kernel_rfl) ?_ | refine We rfl ?_ | refine Wf rfl ?_ | refine Wg rfl (by omega) ?_ | refine Wh rfl (by omega) ?_ | refine Wi rfl rfl ?_ | ((first | apply dX rfl | apply Da rfl rfl | apply Db rfl rfl (by intro h; first | trivial | exact ⟨h, trivial⟩ | exact ⟨h, h, trivial⟩)); (focus ((try intro hg); first | exact S_ixM rfl rfl (by omega) hx | exact Ca rfl rfl (by constructor) (by omega) | exact Cb rfl rfl (by constructor) (by omega) | exact S_al rfl | exact S_bx rfl rfl | exact S_store rfl rfl rfl rfl rfl rfl | (apply Pu.ok; repeat' (first | rfl | exact .inK (by simp only [InK]; omega) | exact .wr | constructor | decide | omega)))); constructor) | refine Pa rfl rfl rfl rfl rfl ?_ | refine Po rfl rfl rfl rfl rfl ?_ | fail)
      exact loop_again (i + 1) hlt (by omega) (Wk_g some rfl rfl (by (repeat' (first | exact trivial | rfl | exact listLe_map _ | exact ⟨_, rfl, .inl rfl⟩ | exact ⟨_, rfl, .inr (.inl rfl)⟩ | exact ⟨_, rfl, .inr (.inr rfl)⟩ | refine ⟨_, _, rfl, rfl, ?_⟩ | exact ⟨_, rfl, rfl⟩ | exact ⟨_, _, _, _, rfl, rfl, rfl⟩ | exact ⟨_, rfl⟩ | exact ⟨_, _, rfl⟩ | apply And.intro))))
  · repeat' (first | (apply Wa; constructor) | refine Wb rfl ?_ | refine Wc rfl ?_ | refine Wd (by kernel_rfl) ?_ | refine We rfl ?_ | refine Wf rfl ?_ | refine Wg rfl (by omega) ?_ | refine Wh rfl (by omega) ?_ | refine Wi rfl rfl ?_ | ((first | apply dX rfl | apply Da rfl rfl | apply Db rfl rfl (by intro h; first | trivial | exact ⟨h, trivial⟩ | exact ⟨h, h, trivial⟩)); (focus ((try intro hg); first | exact Ca rfl rfl (by constructor) (by omega) | exact Cb rfl rfl (by constructor) (by omega) | exact S_al rfl | exact S_bx rfl rfl | exact S_store rfl rfl rfl rfl rfl rfl | (apply Pu.ok; repeat' (first | rfl | exact .inK (by simp only [InK]; omega) | exact .wr | constructor | decide | omega)))); constructor) | refine Pa rfl rfl rfl rfl rfl ?_ | refine Po rfl rfl rfl rfl rfl ?_ | fail)
    refine ret1 rfl (by first | exact .inl rfl | exact .inr (flat_of rfl)) ?_
    rfl
end Go.Proofs.Ytfmaehhloffabaa
