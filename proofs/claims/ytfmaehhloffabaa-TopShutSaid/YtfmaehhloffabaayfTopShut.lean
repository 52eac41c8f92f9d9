/- Law: TopShut. -/
import Derived.Test.YtfmaehhloffabaaydTopA
namespace Go.Proofs.Ytfmaehhloffabaa
open Go.RowKit
theorem sum_take {α : Type} {f : α → Nat} {l : List α} {k : Nat} {x : α} (h : l[k]? = some x) : ((l.take (k + 1)).map f).sum = ((l.take k).map f).sum + f x := by
  rw [List.take_add_one, h, List.map_append, List.sum_append]; simp
theorem blkN_take {l : List Int} {k : Nat} {x : Int} (h : l[k]? = some x) : blkN (l.take (k + 1)) = blkN (l.take k) + if x = 3 then 1 else 0 := by
  unfold blkN
  rw [countP_take h]
  by_cases e : x = 3 <;> simp [e]
theorem blkN_pos {l : List Int} {k : Nat} (h : l[k]? = some 3) : blkN l ≠ 0 := fun e => by
  unfold blkN at e
  have := List.countP_eq_zero.1 e 3 (List.mem_of_getElem? h)
  simp at this
structure ShutP (K i : Nat) (p : Place) : Prop where
  b : blkN p.roles = 0 ∨ i = (K + 1) / 2
  c : p.vec.cost = 10 * ((min i (K - i) : Nat) : Int)
  l : p.roles.length ≤ 2
theorem shut_at {K : Nat} (h3 : 3 ≤ K) (hK : K ≤ 12) : ((planS (lineN K true) 0 0 (dRing K 0)).map fun p => blkN p.roles).sum = 1 ∧ (planS (lineN K true) 0 0 (dRing K 0)).length = K ∧ ∃ v : Int, ∀ (i : Nat) p, (planS (lineN K true) 0 0 (dRing K 0))[i]? = some p → ShutP K i p ∧ p.vec.root = v ∧ (i = 0 → p.vec.bridge = v) := by
  obtain ⟨h1, h2⟩ := ring_shut K (by omega) h3
  have hlen : (planS (lineN K true) 0 0 (dRing K 0)).length = K := by
    unfold planS
    rw [List.length_map, List.length_range, lineN_len]
  refine ⟨h1, hlen, idN (lineN K true) 0 0, fun i p hp => ?_⟩
  have hi : i < K := by have := (List.getElem?_eq_some_iff.1 hp).1; omega
  have := List.all_eq_true.1 h2 i (List.mem_range.2 hi)
  rw [hp] at this
  simp only [Bool.and_eq_true, decide_eq_true_eq] at this
  refine ⟨⟨this.1.1, this.1.2, this.2⟩, ?_⟩
  unfold planS at hp
  rw [List.getElem?_map, List.getElem?_range (by rw [lineN_len]; exact hi), Option.map_some] at hp
  injection hp with hp
  subst hp
  exact ⟨rfl, fun e => by subst e; rfl⟩
attribute [local irreducible] SStep DW DWin DOps thenQ inBlk loopQ retQ retQG FnF FnG FnI FnM Wk IntKind.wrap IntKind.andI IntKind.orI IntKind.xorI IntKind.andNotI IntKind.shlI IntKind.shrI playA onA ticksN tkN planF planA portsOf roleF opensT planS lineN blkN
set_option maxHeartbeats 8000000 in
theorem law_TopShut (k : Int) : FnF Try.prog 6 [.int .i64 k] (.bool true) := by
  refine fnF_of Try.func6 rfl rfl rfl ?_
  simp only [envOf]
  by_cases c1 : k < 3
  · repeat' (first | (apply Wa; constructor) | refine Wb rfl ?_ | refine Wc rfl ?_ | refine Wd (by kernel_rfl) ?_ | refine We rfl ?_ | refine Wf rfl ?_ | refine Wg rfl (by omega) ?_ | refine Wh rfl (by omega) ?_ | refine Wi rfl rfl ?_ | ((first | apply dX rfl | apply Da rfl rfl | apply Db rfl rfl (by intro h; first | trivial | exact ⟨h, trivial⟩ | exact ⟨h, h, trivial⟩)); (focus ((try intro hg); first | exact S_call top_alive rfl | exact Ca rfl rfl (by constructor) (by omega) | exact Cb rfl rfl (by constructor) (by omega) | exact S_al rfl | exact S_bx rfl rfl | exact S_store rfl rfl rfl rfl rfl rfl | (apply Pu.ok; repeat' (first | rfl | exact .inK (by simp only [InK]; omega) | exact .wr | constructor | decide | omega)))); constructor) | refine Pa rfl rfl rfl rfl rfl ?_ | refine Po rfl rfl rfl rfl rfl ?_ | fail)
    refine ret1 rfl (by first | exact .inl rfl | exact .inr (flat_of rfl)) ?_
    rfl
  by_cases c2 : 12 < k
  · repeat' (first | (apply Wa; constructor) | refine Wb rfl ?_ | refine Wc rfl ?_ | refine Wd (by kernel_rfl) ?_ | refine We rfl ?_ | refine Wf rfl ?_ | refine Wg rfl (by omega) ?_ | refine Wh rfl (by omega) ?_ | refine Wi rfl rfl ?_ | ((first | apply dX rfl | apply Da rfl rfl | apply Db rfl rfl (by intro h; first | trivial | exact ⟨h, trivial⟩ | exact ⟨h, h, trivial⟩)); (focus ((try intro hg); first | exact S_call top_alive rfl | exact Ca rfl rfl (by constructor) (by omega) | exact Cb rfl rfl (by constructor) (by omega) | exact S_al rfl | exact S_bx rfl rfl | exact S_store rfl rfl rfl rfl rfl rfl | (apply Pu.ok; repeat' (first | rfl | exact .inK (by simp only [InK]; omega) | exact .wr | constructor | decide | omega)))); constructor) | refine Pa rfl rfl rfl rfl rfl ?_ | refine Po rfl rfl rfl rfl rfl ?_ | fail)
    refine ret1 rfl (by first | exact .inl rfl | exact .inr (flat_of rfl)) ?_
    rfl
  obtain ⟨K, rfl⟩ : ∃ K : Nat, k = (K : Int) := ⟨k.toNat, by omega⟩
  have hln := top_line K (by omega) true
  have hg := lineN_good (k := K) (by omega) true
  have hpp := plan_Plan (lineN K true) (lineN_typed K true) (0 : Nat)
  rw [planA_good (by rw [lineN_wrong (by omega)]) (by omega), planF_S hg line_one (tree := (0 : Nat)) (dist_of hg line_one (ring_dist K (by omega) (by omega)))] at hpp
  change FnF _ _ [(lineN K true).v, .int .i64 0] (.tuple [.slice ((planS (lineN K true) 0 0 (dRing K 0)).map Place.cells), faultV (0, 0)]) at hpp
  obtain ⟨hsum, hlen, v, hat⟩ := shut_at (K := K) (by omega) (by omega)
  generalize planS (lineN K true) 0 0 (dRing K 0) = l at hpp hsum hlen hat
  generalize lineN K true = n at hln hpp
  clear hg
  have hml : (l.map Place.cells).length = l.length := by simp
  have hz0 : l[(0 : Int).toNat]? = some (l[0]'(by omega)) := by simp [show 0 < l.length by omega]
  have hv0 := (hat 0 (l[0]'(by omega)) (by simp [show 0 < l.length by omega])).2.2 rfl
  generalize l[0]'(by omega) = p0 at hz0 hv0
  repeat' (first | (apply Wa; constructor) | refine Wb rfl ?_ | refine Wc rfl ?_ | refine Wd (by kernel_rfl) ?_ | refine We rfl ?_ | refine Wf rfl ?_ | refine Wg rfl (by omega) ?_ | refine Wh rfl (by omega) ?_ | refine Wi rfl rfl ?_ | ((first | apply dX rfl | apply Da rfl rfl | apply Db rfl rfl (by intro h; first | trivial | exact ⟨h, trivial⟩ | exact ⟨h, h, trivial⟩)); (focus ((try intro hg); first | exact S_call top_alive rfl | exact S_call hln rfl | exact S_call hpp rfl | exact Ca rfl rfl (by constructor) (by omega) | exact Cb rfl rfl (by constructor) (by omega) | exact S_al rfl | exact S_bx rfl rfl | exact S_store rfl rfl rfl rfl rfl rfl | (apply Pu.ok; repeat' (first | rfl | exact .inK (by simp only [InK]; omega) | exact .wr | constructor | decide | omega)))); constructor) | refine Pa rfl rfl rfl rfl rfl ?_ | refine Po rfl rfl rfl rfl rfl ?_ | fail)
  refine DW_loop (fun q : Nat × Nat => ⟨[(0, .dat false (.int .i64 K)), (3, .dat true (.slice (l.map Place.cells))), (5, .dat true (.int .i64 q.2)), (33, .dat true (.slice (l.map Place.cells))), (34, .dat true (.int .i64 (l.map Place.cells).length)), (35, .dat true (.int .i64 q.1))], [], 81⟩)
    (fun q => q.1 ≤ K ∧ q.2 = ((l.take q.1).map fun p => blkN p.roles).sum ∧ q.2 ≤ 2 * q.1) (fun q => K - q.1) (0, 0) ⟨Nat.zero_le _, by simp, Nat.le_refl _⟩ (Wk_g some rfl rfl (by (repeat' (first | exact trivial | rfl | exact listLe_map _ | exact ⟨_, rfl, .inl rfl⟩ | exact ⟨_, rfl, .inr (.inl rfl)⟩ | exact ⟨_, rfl, .inr (.inr rfl)⟩ | refine ⟨_, _, rfl, rfl, ?_⟩ | exact ⟨_, rfl, rfl⟩ | exact ⟨_, _, _, _, rfl, rfl, rfl⟩ | exact ⟨_, rfl⟩ | exact ⟨_, _, rfl⟩ | apply And.intro)))) (fun q hR => ?_)
  obtain ⟨i, s⟩ := q
  obtain ⟨hi, hs, hs2⟩ := hR
  simp only at hi hs hs2
  dsimp only
  by_cases hlt : i < K
  · have hx0 : l[i]? = some (l[i]'(by omega)) := by simp [show i < l.length by omega]
    have hx : l[(i : Int).toNat]? = some (l[i]'(by omega)) := by simp [show i < l.length by omega]
    have hst := sum_take (f := fun p : Place => blkN p.roles) hx0
    obtain ⟨⟨hb, hc, hrl⟩, hv, _⟩ := hat i _ hx0
    generalize l[i]'(by omega) = p at hx hst hb hc hrl hv
    rw [← hs] at hst
    have hmn : min (i : Int) ((K : Int) - (i : Int)) = ((min i (K - i) : Nat) : Int) := by omega
    have hmc : ((min i (K - i) : Nat) : Int) ≤ 30 := by omega
    generalize min i (K - i) = c at hc hmn hmc
    have hmr : (p.roles.map intV1).length = p.roles.length := by simp
    have hquo : ((K : Int) + 1).tdiv 2 = (((K + 1) / 2 : Nat) : Int) := by rw [Int.tdiv_eq_ediv_of_nonneg (by omega)]; omega
    have hqw : IntKind.i64.wrap (((K : Int) + 1).tdiv 2) = (((K + 1) / 2 : Nat) : Int) := by rw [hquo]; exact wrap_in (by simp only [InK]; omega)
    obtain ⟨h, hh⟩ : ∃ h, h = (K + 1) / 2 := ⟨_, rfl⟩
    rw [← hh] at hqw hb
    repeat' (first | (apply Wa; constructor) | refine Wb rfl ?_ | refine Wc rfl ?_ | refine Wd (by kernel_rfl) ?_ | refine We rfl ?_ | refine Wf rfl ?_ | refine Wg rfl (by omega) ?_ | refine Wh rfl (by omega) ?_ | refine Wi rfl rfl ?_ | ((first | apply dX rfl | apply Da rfl rfl | apply Db rfl rfl (by intro h; first | trivial | exact ⟨h, trivial⟩ | exact ⟨h, h, trivial⟩)); (focus ((try intro hg); first | exact S_ixM rfl rfl (by omega) hx | exact S_ixM rfl rfl (by omega) hz0 | exact as_int (S_min rfl rfl) hmn | exact Ca rfl rfl (by constructor) (by omega) | exact Cb rfl rfl (by constructor) (by omega) | exact S_al rfl | exact S_bx rfl rfl | exact S_store rfl rfl rfl rfl rfl rfl | (apply Pu.ok; repeat' (first | rfl | exact .inK (by simp only [InK]; omega) | exact .wr | constructor | decide | omega)))); constructor) | refine Pa rfl rfl rfl rfl rfl ?_ | refine Po rfl rfl rfl rfl rfl ?_ | fail)
    refine DW_loop (fun q : Nat × Nat => ⟨[(0, .dat false (.int .i64 K)), (3, .dat true (.slice (l.map Place.cells))), (5, .dat true (.int .i64 q.2)), (33, .dat true (.slice (l.map Place.cells))), (34, .dat true (.int .i64 (l.map Place.cells).length)), (35, .dat true (.int .i64 i)), (6, .dat true (.int .i64 i)), (62, .dat true (.slice (p.roles.map intV1))), (63, .dat true (.int .i64 (p.roles.map intV1).length)), (64, .dat true (.int .i64 q.1))], [], 81⟩)
      (fun q => q.1 ≤ p.roles.length ∧ q.2 = s + blkN (p.roles.take q.1) ∧ q.2 ≤ 2 * i + q.1) (fun q => p.roles.length - q.1) (0, s) ⟨Nat.zero_le _, by with_unfolding_all rfl, hs2⟩ (Wk_g some rfl rfl (by (repeat' (first | exact trivial | rfl | exact listLe_map _ | exact ⟨_, rfl, .inl rfl⟩ | exact ⟨_, rfl, .inr (.inl rfl)⟩ | exact ⟨_, rfl, .inr (.inr rfl)⟩ | refine ⟨_, _, rfl, rfl, ?_⟩ | exact ⟨_, rfl, rfl⟩ | exact ⟨_, _, _, _, rfl, rfl, rfl⟩ | exact ⟨_, rfl⟩ | exact ⟨_, _, rfl⟩ | apply And.intro)))) (fun q hR => ?_)
    obtain ⟨j, u⟩ := q
    obtain ⟨hj, hu, hu2⟩ := hR
    simp only at hj hu hu2
    dsimp only
    by_cases hlj : j < p.roles.length
    · have hy0 : p.roles[j]? = some p.roles[j] := by simp [hlj]
      have hy : p.roles[(j : Int).toNat]? = some p.roles[j] := by simp [hlj]
      have hbt := blkN_take hy0
      have hbp := fun e : p.roles[j] = 3 => blkN_pos (by rw [← e]; exact hy0)
      generalize p.roles[j] = r at hy hbt hbp
      by_cases hr : r = 3
      · have hih : i = h := by
          rcases hb with hb | hb
          · exact absurd hb (hbp hr)
          · exact hb
        rw [if_pos hr] at hbt
        repeat' (first | (apply Wa; constructor) | refine Wb rfl ?_ | refine Wc rfl ?_ | refine Wd (by kernel_rfl) ?_ | refine We rfl ?_ | refine Wf rfl ?_ | refine Wg rfl (by omega) ?_ | refine Wh rfl (by omega) ?_ | refine Wi rfl rfl ?_ | ((first | apply dX rfl | apply Da rfl rfl | apply Db rfl rfl (by intro h; first | trivial | exact ⟨h, trivial⟩ | exact ⟨h, h, trivial⟩)); (focus ((try intro hg); first | exact S_ixM rfl rfl (by omega) hy | exact as_int (S_quo rfl rfl (by decide)) hqw | exact Ca rfl rfl (by constructor) (by omega) | exact Cb rfl rfl (by constructor) (by omega) | exact S_al rfl | exact S_bx rfl rfl | exact S_store rfl rfl rfl rfl rfl rfl | (apply Pu.ok; repeat' (first | rfl | exact .inK (by simp only [InK]; omega) | exact .wr | constructor | decide | omega)))); constructor) | refine Pa rfl rfl rfl rfl rfl ?_ | refine Po rfl rfl rfl rfl rfl ?_ | fail)
        exact loop_again (j + 1, u + 1) ⟨hlj, by rw [hbt]; omega, by simp only; omega⟩ (by simp only; omega) (Wk_g some rfl rfl (by (repeat' (first | exact trivial | rfl | exact listLe_map _ | exact ⟨_, rfl, .inl rfl⟩ | exact ⟨_, rfl, .inr (.inl rfl)⟩ | exact ⟨_, rfl, .inr (.inr rfl)⟩ | refine ⟨_, _, rfl, rfl, ?_⟩ | exact ⟨_, rfl, rfl⟩ | exact ⟨_, _, _, _, rfl, rfl, rfl⟩ | exact ⟨_, rfl⟩ | exact ⟨_, _, rfl⟩ | apply And.intro))))
      · rw [if_neg hr] at hbt
        repeat' (first | (apply Wa; constructor) | refine Wb rfl ?_ | refine Wc rfl ?_ | refine Wd (by kernel_rfl) ?_ | refine We rfl ?_ | refine Wf rfl ?_ | refine Wg rfl (by omega) ?_ | refine Wh rfl (by omega) ?_ | refine Wi rfl rfl ?_ | ((first | apply dX rfl | apply Da rfl rfl | apply Db rfl rfl (by intro h; first | trivial | exact ⟨h, trivial⟩ | exact ⟨h, h, trivial⟩)); (focus ((try intro hg); first | exact S_ixM rfl rfl (by omega) hy | exact Ca rfl rfl (by constructor) (by omega) | exact Cb rfl rfl (by constructor) (by omega) | exact S_al rfl | exact S_bx rfl rfl | exact S_store rfl rfl rfl rfl rfl rfl | (apply Pu.ok; repeat' (first | rfl | exact .inK (by simp only [InK]; omega) | exact .wr | constructor | decide | omega)))); constructor) | refine Pa rfl rfl rfl rfl rfl ?_ | refine Po rfl rfl rfl rfl rfl ?_ | fail)
        exact loop_again (j + 1, u) ⟨hlj, by rw [hbt]; omega, by simp only; omega⟩ (by simp only; omega) (Wk_g some rfl rfl (by (repeat' (first | exact trivial | rfl | exact listLe_map _ | exact ⟨_, rfl, .inl rfl⟩ | exact ⟨_, rfl, .inr (.inl rfl)⟩ | exact ⟨_, rfl, .inr (.inr rfl)⟩ | refine ⟨_, _, rfl, rfl, ?_⟩ | exact ⟨_, rfl, rfl⟩ | exact ⟨_, _, _, _, rfl, rfl, rfl⟩ | exact ⟨_, rfl⟩ | exact ⟨_, _, rfl⟩ | apply And.intro))))
    · rw [List.take_of_length_le (by omega)] at hu
      repeat' (first | (apply Wa; constructor) | refine Wb rfl ?_ | refine Wc rfl ?_ | refine Wd (by kernel_rfl) ?_ | refine We rfl ?_ | refine Wf rfl ?_ | refine Wg rfl (by omega) ?_ | refine Wh rfl (by omega) ?_ | refine Wi rfl rfl ?_ | ((first | apply dX rfl | apply Da rfl rfl | apply Db rfl rfl (by intro h; first | trivial | exact ⟨h, trivial⟩ | exact ⟨h, h, trivial⟩)); (focus ((try intro hg); first | exact Ca rfl rfl (by constructor) (by omega) | exact Cb rfl rfl (by constructor) (by omega) | exact S_al rfl | exact S_bx rfl rfl | exact S_store rfl rfl rfl rfl rfl rfl | (apply Pu.ok; repeat' (first | rfl | exact .inK (by simp only [InK]; omega) | exact .wr | constructor | decide | omega)))); constructor) | refine Pa rfl rfl rfl rfl rfl ?_ | refine Po rfl rfl rfl rfl rfl ?_ | fail)
      exact loop_again (i + 1, u) ⟨hlt, by rw [hst]; omega, by simp only; omega⟩ (by simp only; omega) (Wk_g some rfl rfl (by (repeat' (first | exact trivial | rfl | exact listLe_map _ | exact ⟨_, rfl, .inl rfl⟩ | exact ⟨_, rfl, .inr (.inl rfl)⟩ | exact ⟨_, rfl, .inr (.inr rfl)⟩ | refine ⟨_, _, rfl, rfl, ?_⟩ | exact ⟨_, rfl, rfl⟩ | exact ⟨_, _, _, _, rfl, rfl, rfl⟩ | exact ⟨_, rfl⟩ | exact ⟨_, _, rfl⟩ | apply And.intro))))
  · rw [List.take_of_length_le (by omega), hsum] at hs
    subst hs
    repeat' (first | (apply Wa; constructor) | refine Wb rfl ?_ | refine Wc rfl ?_ | refine Wd (by kernel_rfl) ?_ | refine We rfl ?_ | refine Wf rfl ?_ | refine Wg rfl (by omega) ?_ | refine Wh rfl (by omega) ?_ | refine Wi rfl rfl ?_ | ((first | apply dX rfl | apply Da rfl rfl | apply Db rfl rfl (by intro h; first | trivial | exact ⟨h, trivial⟩ | exact ⟨h, h, trivial⟩)); (focus ((try intro hg); first | exact Ca rfl rfl (by constructor) (by omega) | exact Cb rfl rfl (by constructor) (by omega) | exact S_al rfl | exact S_bx rfl rfl | exact S_store rfl rfl rfl rfl rfl rfl | (apply Pu.ok; repeat' (first | rfl | exact .inK (by simp only [InK]; omega) | exact .wr | constructor | decide | omega)))); constructor) | refine Pa rfl rfl rfl rfl rfl ?_ | refine Po rfl rfl rfl rfl rfl ?_ | fail)
    refine ret1 rfl (by first | exact .inl rfl | exact .inr (flat_of rfl)) ?_
    rfl
end Go.Proofs.Ytfmaehhloffabaa
