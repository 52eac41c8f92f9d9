/- Law: TopCheap. -/
import Derived.Test.YtfmaehhloffabaaycTln
import Derived.Test.YtfmaehhloffabaaydTlc
import Derived.Test.YtfmaehhloffabaaydTopA
import Derived.Test.YtfmaehhloffabaaydTopO
namespace Go.Proofs.Ytfmaehhloffabaa
open Go.RowKit
theorem lineM_mut {n : Net} {g : Nat} (h : Mem.at (lineM n) g ≠ .gone) : (Mem.at (lineM n) g).mut = true := by
  unfold lineM at h ⊢
  unfold Mem.at at h ⊢
  rw [look_cons, look_cons] at h ⊢
  split
  · rfl
  · rename_i h1
    rw [if_neg h1] at h
    split
    · rfl
    · rename_i h2
      rw [if_neg h2] at h
      exact absurd rfl h
theorem lineM_keys {n : Net} {g : Nat} (h : g ∈ (lineM n).map (·.1)) : g ∈ [900, 901] := h
theorem lineM_hs {m : Mem} (h0 : m.at 900 = .gone) (h1 : m.at 901 = .gone) : ∀ g, g ∈ [900, 901] → Mem.at ([] : Mem) g = m.at g := fun g hg => by
  simp only [List.mem_cons, List.mem_nil_iff, or_false] at hg
  rcases hg with rfl | rfl
  · exact h0.symm
  · exact h1.symm
theorem lineM_app {n : Net} : ∀ g, Mem.at (lineM n) g = Mem.at (lineM n ++ []) g := fun _ => by rw [List.append_nil]
theorem top_lineC (k : Nat) (hk : k ≤ 12) (ring : Bool) : FnM Try.prog 8 [.dat false (.int .i64 k), .dat true (.bool ring)] [] (.aggd [.own 900 0 0 (lineN k ring).bridges.length, .own 901 0 0 (lineN k ring).links.length]) (lineM (lineN k ring)) :=
  have h := top_lineO k hk ring
  ⟨h.1, fun C vs hm hl hv => h.2 C vs hm hl (fun j d v hd hj => by
    match j, hd with
    | 0, hd => exact hv 0 d v hd hj
    | 1, hd =>
      injection hd with hd
      subst hd
      have h1 : RdF C true (.bool ring) v := hv 1 _ v rfl hj
      exact h1.weak hm
    | j + 2, hd => simp at hd)⟩
theorem dear_at {K j : Nat} (h3 : 3 ≤ K) (hK : K ≤ 12) (hj : j < K) {m : Nat} {x : Link} (hx : (dearN K j).links[m]? = some x) : bothX (planS (dearN K j) 0 0 (dCut K j)) x = !decide (m = j) := by
  have hlen : (dearN K j).links.length = K := by
    unfold dearN lineN ringLk
    rw [if_pos ⟨rfl, by omega⟩]
    simp; omega
  have hm : m < K := by have := (List.getElem?_eq_some_iff.1 hx).1; omega
  have := List.all_eq_true.1 (dear_open K (by omega) h3 j hj) m (List.mem_range.2 hm)
  rw [hx] at this
  simp only at this
  cases h1 : bothX (planS (dearN K j) 0 0 (dCut K j)) x <;> cases h2 : decide (m = j) <;> rw [h1, h2] at this <;> simp at this ⊢
theorem dear_typed (K j : Nat) : (dearN K j).typed := ⟨(lineN_typed K true).ad, (lineN_typed K true).wy⟩
attribute [local irreducible] SStep DW DWin DOps thenQ inBlk loopQ retQ retQG FnF FnG FnI FnM Wk IntKind.wrap IntKind.andI IntKind.orI IntKind.xorI IntKind.andNotI IntKind.shlI IntKind.shrI playA onA ticksN tkN planF planA portsOf roleF opensT planS lineN dearN
set_option maxHeartbeats 8000000 in
theorem law_TopCheap (k dear : Int) : FnF Try.prog 5 [.int .i64 k, .int .i64 dear] (.bool true) := by
  refine fnF_of Try.func5 rfl rfl rfl ?_
  simp only [envOf]
  by_cases c1 : k < 3
  · repeat' (first | (apply Wa; constructor) | refine Wb rfl ?_ | refine Wc rfl ?_ | refine Wd (by kernel_rfl) ?_ | refine We rfl ?_ | refine Wf rfl ?_ | refine Wg rfl (by omega) ?_ | refine Wh rfl (by omega) ?_ | refine Wi rfl rfl ?_ | ((first | apply dX rfl | apply Da rfl rfl | apply Db rfl rfl (by intro h; first | trivial | exact ⟨h, trivial⟩ | exact ⟨h, h, trivial⟩)); (focus ((try intro hg); first | exact S_call top_alive rfl | exact Ca rfl rfl (by constructor) (by omega) | exact Cb rfl rfl (by constructor) (by omega) | exact S_al rfl | exact S_bx rfl rfl | exact S_store rfl rfl rfl rfl rfl rfl | (apply Pu.ok; repeat' (first | rfl | exact .inK (by simp only [InK]; omega) | exact .wr | constructor | decide | omega)))); constructor) | refine Pa rfl rfl rfl rfl rfl ?_ | refine Po rfl rfl rfl rfl rfl ?_ | fail)
    refine ret1 rfl (by first | exact .inl rfl | exact .inr (flat_of rfl)) ?_
    rfl
  by_cases c2 : 12 < k
  · repeat' (first | (apply Wa; constructor) | refine Wb rfl ?_ | refine Wc rfl ?_ | refine Wd (by kernel_rfl) ?_ | refine We rfl ?_ | refine Wf rfl ?_ | refine Wg rfl (by omega) ?_ | refine Wh rfl (by omega) ?_ | refine Wi rfl rfl ?_ | ((first | apply dX rfl | apply Da rfl rfl | apply Db rfl rfl (by intro h; first | trivial | exact ⟨h, trivial⟩ | exact ⟨h, h, trivial⟩)); (focus ((try intro hg); first | exact S_call top_alive rfl | exact Ca rfl rfl (by constructor) (by omega) | exact Cb rfl rfl (by constructor) (by omega) | exact S_al rfl | exact S_bx rfl rfl | exact S_store rfl rfl rfl rfl rfl rfl | (apply Pu.ok; repeat' (first | rfl | exact .inK (by simp only [InK]; omega) | exact .wr | constructor | decide | omega)))); constructor) | refine Pa rfl rfl rfl rfl rfl ?_ | refine Po rfl rfl rfl rfl rfl ?_ | fail)
    refine ret1 rfl (by first | exact .inl rfl | exact .inr (flat_of rfl)) ?_
    rfl
  by_cases c3 : dear < 0
  · repeat' (first | (apply Wa; constructor) | refine Wb rfl ?_ | refine Wc rfl ?_ | refine Wd (by kernel_rfl) ?_ | refine We rfl ?_ | refine Wf rfl ?_ | refine Wg rfl (by omega) ?_ | refine Wh rfl (by omega) ?_ | refine Wi rfl rfl ?_ | ((first | apply dX rfl | apply Da rfl rfl | apply Db rfl rfl (by intro h; first | trivial | exact ⟨h, trivial⟩ | exact ⟨h, h, trivial⟩)); (focus ((try intro hg); first | exact S_call top_alive rfl | exact Ca rfl rfl (by constructor) (by omega) | exact Cb rfl rfl (by constructor) (by omega) | exact S_al rfl | exact S_bx rfl rfl | exact S_store rfl rfl rfl rfl rfl rfl | (apply Pu.ok; repeat' (first | rfl | exact .inK (by simp only [InK]; omega) | exact .wr | constructor | decide | omega)))); constructor) | refine Pa rfl rfl rfl rfl rfl ?_ | refine Po rfl rfl rfl rfl rfl ?_ | fail)
    refine ret1 rfl (by first | exact .inl rfl | exact .inr (flat_of rfl)) ?_
    rfl
  by_cases c4 : k ≤ dear
  · repeat' (first | (apply Wa; constructor) | refine Wb rfl ?_ | refine Wc rfl ?_ | refine Wd (by kernel_rfl) ?_ | refine We rfl ?_ | refine Wf rfl ?_ | refine Wg rfl (by omega) ?_ | refine Wh rfl (by omega) ?_ | refine Wi rfl rfl ?_ | ((first | apply dX rfl | apply Da rfl rfl | apply Db rfl rfl (by intro h; first | trivial | exact ⟨h, trivial⟩ | exact ⟨h, h, trivial⟩)); (focus ((try intro hg); first | exact S_call top_alive rfl | exact Ca rfl rfl (by constructor) (by omega) | exact Cb rfl rfl (by constructor) (by omega) | exact S_al rfl | exact S_bx rfl rfl | exact S_store rfl rfl rfl rfl rfl rfl | (apply Pu.ok; repeat' (first | rfl | exact .inK (by simp only [InK]; omega) | exact .wr | constructor | decide | omega)))); constructor) | refine Pa rfl rfl rfl rfl rfl ?_ | refine Po rfl rfl rfl rfl rfl ?_ | fail)
    refine ret1 rfl (by first | exact .inl rfl | exact .inr (flat_of rfl)) ?_
    rfl
  obtain ⟨K, rfl⟩ : ∃ K : Nat, k = (K : Int) := ⟨k.toNat, by omega⟩
  obtain ⟨J, rfl⟩ : ∃ J : Nat, dear = (J : Int) := ⟨dear.toNat, by omega⟩
  have hln := top_lineC K (by omega) true
  have htk := top_ticks 90
  have hw : (dearN K J).wrong = (0, 0) := dear_wrong K (by omega) (by omega) J (by omega)
  have hdt : (dearN K J).typed := dear_typed K J
  have hg : (dearN K J).good := ((Net.wrong_iff hdt).1 (by rw [hw])).1
  have hone : ∀ b ∈ (dearN K J).bridges, b.region = regR := by
    with_unfolding_all
      exact line_one (k := K) (ring := true)
  have hp := talk_Play (dearN K J) hdt 1 [⟨1, 90, 0, 0⟩]
  rw [play_loop hw (by decide), on_tick (by decide), on_nil] at hp
  have htg : goodT (dearN K J) (ticksN (dearN K J) (start0 (dearN K J) 1) (90 : Int).toNat) := ticksN_good (start0_good (by decide)) _
  have hop := fun (x : Link) (hx : x ∈ (dearN K J).links) => link_at hg hone (tree := 0) (dist_of hg hone (dear_dist K (by omega) (by omega) J (by omega))) (start0_good (trees := 1) (by decide)) (by simp [start0]) (T := (90 : Int).toNat) (by decide) hx
  have hda := fun (m : Nat) (x : Link) hx => dear_at (K := K) (j := J) (by omega) (by omega) (by omega) (m := m) (x := x) hx
  change ∀ x, x ∈ (dearN K J).links → opensT _ (0 : Nat) x.a x.pa = opX (planS (dearN K J) 0 0 (dCut K J)) x.a.toNat x.pa ∧ opensT _ (0 : Nat) x.b x.pb = opX (planS (dearN K J) 0 0 (dCut K J)) x.b.toNat x.pb at hop
  generalize ticksN (dearN K J) (start0 (dearN K J) 1) (90 : Int).toNat = t at hp htg hop
  generalize planS (dearN K J) 0 0 (dCut K J) = ps at hop hda
  have hnl : (lineN K true).links.length = K := by
    with_unfolding_all
      unfold lineN ringLk
      rw [if_pos ⟨rfl, by omega⟩]
      simp; omega
  have hnb : (lineN K true).bridges.length = K := lineN_len K true
  obtain ⟨x0, hx0⟩ : ∃ x0, (lineN K true).links[J]? = some x0 := ⟨_, List.getElem?_eq_getElem (by omega)⟩
  have hde : dearN K J = ⟨(lineN K true).bridges, (lineN K true).links.set J { x0 with cost := 1000 }⟩ := by
    with_unfolding_all
      unfold dearN
      rw [modify_set hx0]
  rw [hde] at hp htg hop hda hg
  clear hw hdt hone hde
  change FnF _ _ _ (.tuple [Net.v ⟨(lineN K true).bridges, (lineN K true).links.set J { x0 with cost := 1000 }⟩, talkV t, faultV (0, 0)]) at hp
  have hwh : Net.v ⟨(lineN K true).bridges, (lineN K true).links.set J { x0 with cost := 1000 }⟩ = .agg [.slice ((((lineN K true).bridges.map bridgeV).drop 0).take (lineN K true).bridges.length), .slice (((((lineN K true).links.set J { x0 with cost := 1000 }).map linkV).drop 0).take (lineN K true).links.length)] := by
    rw [whole_eq rfl, whole_eq (by rw [List.length_set])]; rfl
  rw [show FnF Try.prog 9 [Net.v ⟨(lineN K true).bridges, (lineN K true).links.set J { x0 with cost := 1000 }⟩, .int .i64 1, .slice ([⟨1, 90, 0, 0⟩].map Doing.cells)] = FnF Try.prog 9 [.agg [.slice ((((lineN K true).bridges.map bridgeV).drop 0).take (lineN K true).bridges.length), .slice (((((lineN K true).links.set J { x0 with cost := 1000 }).map linkV).drop 0).take (lineN K true).links.length)], .int .i64 1, .slice ([⟨1, 90, 0, 0⟩].map Doing.cells)] by rw [hwh]] at hp
  have hll : ((lineN K true).links.set J { x0 with cost := 1000 }).length = K := by rw [List.length_set, hnl]
  generalize hmm : (⟨(lineN K true).bridges, (lineN K true).links.set J { x0 with cost := 1000 }⟩ : Net) = m at hop hda hg htg
  have hml : m.links = (lineN K true).links.set J { x0 with cost := 1000 } := by rw [← hmm]
  repeat' (first | refine dstep rfl (.plain rfl (S_callW [900, 901] (lineM (lineN K true)) hln rfl (lineM_hs rfl rfl) (fun _ _ => rfl) (fun _ _ _ _ h => by cases h) (fun _ => lineM_mut) lineM_app (fun _ => lineM_keys) rfl rfl rfl)) ?_ | (apply Wa; constructor) | refine Wb rfl ?_ | refine Wc rfl ?_ | refine Wd (by kernel_rfl) ?_ | refine We rfl ?_ | refine Wf rfl ?_ | refine Wg rfl (by omega) ?_ | refine Wh rfl (by omega) ?_ | refine Wi rfl rfl ?_ | ((first | apply dX rfl | apply Da rfl rfl | apply Db rfl rfl (by intro h; first | trivial | exact ⟨h, trivial⟩ | exact ⟨h, h, trivial⟩)); (focus ((try intro hg); first | exact S_call top_alive rfl | exact S_ixO rfl rfl rfl (by omega) (by omega) | exact S_storeM (f := linkV) (a := { x0 with cost := 1000 }) rfl rfl hx0 rfl rfl (.inl rfl) rfl rfl | exact S_call htk rfl | exact S_call hp rfl | exact Ca rfl rfl (by constructor) (by omega) | exact Cb rfl rfl (by constructor) (by omega) | exact S_al rfl | exact S_bx rfl rfl | exact S_store rfl rfl rfl rfl rfl rfl | (apply Pu.ok; repeat' (first | rfl | exact .inK (by simp only [InK]; omega) | exact .wr | constructor | decide | omega)))); constructor) | refine Pa rfl rfl rfl rfl rfl ?_ | refine Po rfl rfl rfl rfl rfl ?_ | fail)
  refine DW_loop (fun i : Nat => ⟨[(1, .dat false (.int .i64 J)), (7, .ptr 7 0), (47, .own 901 0 0 (lineN K true).links.length), (48, .dat true (.int .i64 (lineN K true).links.length)), (49, .dat true (.int .i64 i))], [(7, .cells false true [.dat true (.slice (t.map mindsRow))]), (901, .row 0 false true 6 (m.links.map linkV))], 73⟩)
    (fun i => i ≤ K) (fun i => K - i) 0 (Nat.zero_le _) (by rw [hml]; exact Wk_g some rfl rfl (by (repeat' (first | exact ownLe2 rfl rfl rfl | exact trivial | rfl | exact listLe_map _ | exact ⟨_, rfl, .inl rfl⟩ | exact ⟨_, rfl, .inr (.inl rfl)⟩ | exact ⟨_, rfl, .inr (.inr rfl)⟩ | refine ⟨_, _, rfl, rfl, ?_⟩ | exact ⟨_, rfl, rfl⟩ | exact ⟨_, _, _, _, rfl, rfl, rfl⟩ | exact ⟨_, rfl⟩ | exact ⟨_, _, rfl⟩ | apply And.intro)))) (fun i hi => ?_)
  by_cases hlt : i < K
  · have hil : i < m.links.length := by rw [hml]; omega
    have hx : (m.links.map linkV)[(i : Int).toNat]? = some (linkV m.links[i]) := by simp [hil]
    obtain ⟨o1, o2⟩ := hop m.links[i] (List.getElem_mem hil)
    have hd := hda i m.links[i] (by simp [hil])
    generalize m.links[i] = x at hx o1 o2 hd
    rw [show bothX ps x = (opX ps x.a.toNat x.pa && opX ps x.b.toNat x.pb) from rfl] at hd
    have ho1 := talk_Opens m hg t htg (0 : Nat) x.a x.pa
    have ho2 := talk_Opens m hg t htg (0 : Nat) x.b x.pb
    rw [o1] at ho1
    rw [o2] at ho2
    change FnF _ _ [talkV t, .int .i64 0, .int .i64 x.a, .int .i64 x.pa] _ at ho1
    change FnF _ _ [talkV t, .int .i64 0, .int .i64 x.b, .int .i64 x.pb] _ at ho2
    generalize opX ps x.a.toNat x.pa = q1 at ho1 hd
    generalize opX ps x.b.toNat x.pb = q2 at ho2 hd
    by_cases he : i = J
    · rw [decide_eq_true he] at hd
      cases q1
      · repeat' (first | (apply Wa; constructor) | refine Wb rfl ?_ | refine Wc rfl ?_ | refine Wd (by kernel_rfl) ?_ | refine We rfl ?_ | refine Wf rfl ?_ | refine Wg rfl (by omega) ?_ | refine Wh rfl (by omega) ?_ | refine Wi rfl rfl ?_ | ((first | apply dX rfl | apply Da rfl rfl | apply Db rfl rfl (by intro h; first | trivial | exact ⟨h, trivial⟩ | exact ⟨h, h, trivial⟩)); (focus ((try intro hg); first | exact S_ixO rfl rfl rfl (by omega) (by omega) | exact S_load_rptr rfl rfl hx rfl | exact S_call ho1 rfl | exact S_call ho2 rfl | exact Ca rfl rfl (by constructor) (by omega) | exact Cb rfl rfl (by constructor) (by omega) | exact S_al rfl | exact S_bx rfl rfl | exact S_store rfl rfl rfl rfl rfl rfl | (apply Pu.ok; repeat' (first | rfl | exact .inK (by simp only [InK]; omega) | exact .wr | constructor | decide | omega)))); constructor) | refine Pa rfl rfl rfl rfl rfl ?_ | refine Po rfl rfl rfl rfl rfl ?_ | fail)
        exact loop_again (i + 1) hlt (by omega) (Wk_g some rfl rfl (by (repeat' (first | exact ownLe2 rfl rfl rfl | exact trivial | rfl | exact listLe_map _ | exact ⟨_, rfl, .inl rfl⟩ | exact ⟨_, rfl, .inr (.inl rfl)⟩ | exact ⟨_, rfl, .inr (.inr rfl)⟩ | refine ⟨_, _, rfl, rfl, ?_⟩ | exact ⟨_, rfl, rfl⟩ | exact ⟨_, _, _, _, rfl, rfl, rfl⟩ | exact ⟨_, rfl⟩ | exact ⟨_, _, rfl⟩ | apply And.intro))))
      · cases q2
        · repeat' (first | (apply Wa; constructor) | refine Wb rfl ?_ | refine Wc rfl ?_ | refine Wd (by kernel_rfl) ?_ | refine We rfl ?_ | refine Wf rfl ?_ | refine Wg rfl (by omega) ?_ | refine Wh rfl (by omega) ?_ | refine Wi rfl rfl ?_ | ((first | apply dX rfl | apply Da rfl rfl | apply Db rfl rfl (by intro h; first | trivial | exact ⟨h, trivial⟩ | exact ⟨h, h, trivial⟩)); (focus ((try intro hg); first | exact S_ixO rfl rfl rfl (by omega) (by omega) | exact S_load_rptr rfl rfl hx rfl | exact S_call ho1 rfl | exact S_call ho2 rfl | exact Ca rfl rfl (by constructor) (by omega) | exact Cb rfl rfl (by constructor) (by omega) | exact S_al rfl | exact S_bx rfl rfl | exact S_store rfl rfl rfl rfl rfl rfl | (apply Pu.ok; repeat' (first | rfl | exact .inK (by simp only [InK]; omega) | exact .wr | constructor | decide | omega)))); constructor) | refine Pa rfl rfl rfl rfl rfl ?_ | refine Po rfl rfl rfl rfl rfl ?_ | fail)
          exact loop_again (i + 1) hlt (by omega) (Wk_g some rfl rfl (by (repeat' (first | exact ownLe2 rfl rfl rfl | exact trivial | rfl | exact listLe_map _ | exact ⟨_, rfl, .inl rfl⟩ | exact ⟨_, rfl, .inr (.inl rfl)⟩ | exact ⟨_, rfl, .inr (.inr rfl)⟩ | refine ⟨_, _, rfl, rfl, ?_⟩ | exact ⟨_, rfl, rfl⟩ | exact ⟨_, _, _, _, rfl, rfl, rfl⟩ | exact ⟨_, rfl⟩ | exact ⟨_, _, rfl⟩ | apply And.intro))))
        · cases hd
    · rw [decide_eq_false he] at hd
      cases q1
      · cases hd
      · cases q2
        · cases hd
        · repeat' (first | (apply Wa; constructor) | refine Wb rfl ?_ | refine Wc rfl ?_ | refine Wd (by kernel_rfl) ?_ | refine We rfl ?_ | refine Wf rfl ?_ | refine Wg rfl (by omega) ?_ | refine Wh rfl (by omega) ?_ | refine Wi rfl rfl ?_ | ((first | apply dX rfl | apply Da rfl rfl | apply Db rfl rfl (by intro h; first | trivial | exact ⟨h, trivial⟩ | exact ⟨h, h, trivial⟩)); (focus ((try intro hg); first | exact S_ixO rfl rfl rfl (by omega) (by omega) | exact S_load_rptr rfl rfl hx rfl | exact S_call ho1 rfl | exact S_call ho2 rfl | exact Ca rfl rfl (by constructor) (by omega) | exact Cb rfl rfl (by constructor) (by omega) | exact S_al rfl | exact S_bx rfl rfl | exact S_store rfl rfl rfl rfl rfl rfl | (apply Pu.ok; repeat' (first | rfl | exact .inK (by simp only [InK]; omega) | exact .wr | constructor | decide | omega)))); constructor) | refine Pa rfl rfl rfl rfl rfl ?_ | refine Po rfl rfl rfl rfl rfl ?_ | fail)
          exact loop_again (i + 1) hlt (by omega) (Wk_g some rfl rfl (by (repeat' (first | exact ownLe2 rfl rfl rfl | exact trivial | rfl | exact listLe_map _ | exact ⟨_, rfl, .inl rfl⟩ | exact ⟨_, rfl, .inr (.inl rfl)⟩ | exact ⟨_, rfl, .inr (.inr rfl)⟩ | refine ⟨_, _, rfl, rfl, ?_⟩ | exact ⟨_, rfl, rfl⟩ | exact ⟨_, _, _, _, rfl, rfl, rfl⟩ | exact ⟨_, rfl⟩ | exact ⟨_, _, rfl⟩ | apply And.intro))))
  · repeat' (first | (apply Wa; constructor) | refine Wb rfl ?_ | refine Wc rfl ?_ | refine Wd (by kernel_rfl) ?_ | refine We rfl ?_ | refine Wf rfl ?_ | refine Wg rfl (by omega) ?_ | refine Wh rfl (by omega) ?_ | refine Wi rfl rfl ?_ | ((first | apply dX rfl | apply Da rfl rfl | apply Db rfl rfl (by intro h; first | trivial | exact ⟨h, trivial⟩ | exact ⟨h, h, trivial⟩)); (focus ((try intro hg); first | exact Ca rfl rfl (by constructor) (by omega) | exact Cb rfl rfl (by constructor) (by omega) | exact S_al rfl | exact S_bx rfl rfl | exact S_store rfl rfl rfl rfl rfl rfl | (apply Pu.ok; repeat' (first | rfl | exact .inK (by simp only [InK]; omega) | exact .wr | constructor | decide | omega)))); constructor) | refine Pa rfl rfl rfl rfl rfl ?_ | refine Po rfl rfl rfl rfl rfl ?_ | fail)
    refine ret1 rfl (by first | exact .inl rfl | exact .inr (flat_of rfl)) ?_
    rfl
end Go.Proofs.Ytfmaehhloffabaa
