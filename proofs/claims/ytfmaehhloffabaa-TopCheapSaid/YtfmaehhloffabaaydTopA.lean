/- Contract: the whole's alive; what a played net's ports do. -/
import Derived.Test.YtfmaehhloffabaayfTalkOpens
namespace Go.Proofs.Ytfmaehhloffabaa
open Go.RowKit
theorem play_loop {n : Net} (h0 : n.wrong = (0, 0)) {l : List Doing} (hl : l.length ≤ 30) : playA n 1 l = onLoop 0 l n (start0 n 1) := playA_loop (by rw [h0]) (by decide) (by decide) hl
theorem on_tick {i : Nat} {k : Int} {r : List Doing} {n : Net} {t : List (List Mind)} (hk : 0 ≤ k ∧ k ≤ 200) : onLoop i (⟨1, k, 0, 0⟩ :: r) n t = onLoop (i + 1) r n (ticksN n t k.toNat) := by
  rw [onLoop, if_pos rfl, if_neg (by simp only; omega)]
theorem on_nil {i : Nat} {n : Net} {t : List (List Mind)} : onLoop i [] n t = (some (n, t), (0, 0)) := by rw [onLoop]
theorem on_do {i : Nat} {d : Doing} {r : List Doing} {n n' : Net} {t : List (List Mind)} (hk : d.kind ≠ 1) (h : doS n d = (n', 0)) : onLoop i (d :: r) n t = onLoop (i + 1) r n' t := by
  rw [onLoop, if_neg hk, h]; rfl
theorem both_at {n : Net} {reg : Region} (h : n.good) (hr : ∀ b ∈ n.bridges, b.region = reg) {tree : Nat} {r : Nat} {c : List Int} (hd : Dist n tree r c) {t1 : List (List Mind)} (ht : goodT n t1) (hk : tree < t1.length) {T : Nat} (hT : 90 ≤ T) {i : Nat} (hi : i < n.bridges.length) {p : Int} (hp : p ∈ portsOf n.links i) : opensT (ticksN n t1 T) tree i p = opX (planS n tree r c) i p := by
  rw [opensT_at h ht hT hk hi hp, roleF_S h hr hd hi hp]; rfl
theorem link_at {n : Net} {reg : Region} (h : n.good) (hr : ∀ b ∈ n.bridges, b.region = reg) {tree : Nat} {r : Nat} {c : List Int} (hd : Dist n tree r c) {t1 : List (List Mind)} (ht : goodT n t1) (hk : tree < t1.length) {T : Nat} (hT : 90 ≤ T) {x : Link} (hx : x ∈ n.links) :
    opensT (ticksN n t1 T) tree x.a x.pa = opX (planS n tree r c) x.a.toNat x.pa ∧ opensT (ticksN n t1 T) tree x.b x.pb = opX (planS n tree r c) x.b.toNat x.pb := by
  have hl := h.lk x hx
  have a0 := hl.a0
  have a1 := hl.a1
  have b0 := hl.b0
  have b1 := hl.b1
  obtain ⟨pa, pb⟩ := port_mem h hx
  have ea : ((x.a.toNat : Nat) : Int) = x.a := by omega
  have eb : ((x.b.toNat : Nat) : Int) = x.b := by omega
  have h1 := both_at h hr hd ht hk hT (i := x.a.toNat) (by omega) (by rw [ea]; exact pa)
  have h2 := both_at h hr hd ht hk hT (i := x.b.toNat) (by omega) (by rw [eb]; exact pb)
  rw [ea] at h1
  rw [eb] at h2
  exact ⟨h1, h2⟩
theorem line_one {k : Nat} {ring : Bool} : ∀ b ∈ (lineN k ring).bridges, b.region = regR := fun b hb => by obtain ⟨i, _, rfl⟩ := lineN_br hb; rfl
theorem countP_take {α : Type} {p : α → Bool} {l : List α} {k : Nat} {x : α} (h : l[k]? = some x) : (l.take (k + 1)).countP p = (l.take k).countP p + if p x = true then 1 else 0 := by
  rw [List.take_add_one, h, List.countP_append]
  cases hp : p x <;> simp [hp]
attribute [local irreducible] SStep DW DWin DOps thenQ inBlk loopQ retQ retQG FnF FnG FnI FnM Wk IntKind.wrap IntKind.andI IntKind.orI IntKind.xorI IntKind.andNotI IntKind.shlI IntKind.shrI playA onA ticksN tkN planF planA portsOf roleF opensT planS
set_option maxHeartbeats 8000000 in
theorem top_alive : FnF Try.prog 7 [] (.bool true) := by
  refine fnF_of Try.func7 rfl rfl rfl ?_
  simp only [envOf]
  have hln : FnF Try.prog 8 [.int .i64 3, .bool true] (lineN 3 true).v := top_line 3 (by decide) true
  have hg : (lineN 3 true).good := lineN_good (by decide) true
  have hp := talk_Play (lineN 3 true) (lineN_typed 3 true) 1 [⟨1, 90, 0, 0⟩]
  rw [play_loop (lineN_wrong (by decide) true) (by decide), on_tick (by decide), on_nil] at hp
  have htg : goodT (lineN 3 true) (ticksN (lineN 3 true) (start0 (lineN 3 true) 1) (90 : Int).toNat) := ticksN_good (start0_good (by decide)) _
  have hop := fun (x : Link) (hx : x ∈ (lineN 3 true).links) => link_at hg line_one (tree := 0) (dist_of hg line_one (ring_dist 3 (by decide) (by decide))) (start0_good (trees := 1) (by decide)) (by simp [start0]) (T := (90 : Int).toNat) (by decide) hx
  have hct : (lineN 3 true).links.countP (bothX (planS (lineN 3 true) 0 0 (dRing 3 0))) = 2 := ring_open 3 (by decide) (by decide)
  have hnl : (lineN 3 true).links.length = 3 := by with_unfolding_all rfl
  have htk := top_ticks 90
  generalize ticksN (lineN 3 true) (start0 (lineN 3 true) 1) (90 : Int).toNat = t at hp htg hop
  change ∀ x, x ∈ (lineN 3 true).links → opensT t (0 : Nat) x.a x.pa = opX (planS (lineN 3 true) (0 : Nat) 0 (dRing 3 0)) x.a.toNat x.pa ∧ opensT t (0 : Nat) x.b x.pb = opX (planS (lineN 3 true) (0 : Nat) 0 (dRing 3 0)) x.b.toNat x.pb at hop
  generalize hps : planS (lineN 3 true) (0 : Nat) 0 (dRing 3 0) = ps at hop hct
  generalize lineN 3 true = n at hln hg hp htg hop hct hnl
  clear hps
  change FnF _ _ _ (.tuple [n.v, talkV t, faultV (0, 0)]) at hp
  have hml : (n.links.map linkV).length = n.links.length := by simp
  repeat' (first | (apply Wa; constructor) | refine Wb rfl ?_ | refine Wc rfl ?_ | refine Wd (by kernel_rfl) ?_ | refine We rfl ?_ | refine Wf rfl ?_ | refine Wg rfl (by omega) ?_ | refine Wh rfl (by omega) ?_ | refine Wi rfl rfl ?_ | ((first | apply dX rfl | apply Da rfl rfl | apply Db rfl rfl (by intro h; first | trivial | exact ⟨h, trivial⟩ | exact ⟨h, h, trivial⟩)); (focus ((try intro hg); first | exact S_call hln rfl | exact S_call htk rfl | exact S_call hp rfl | exact Ca rfl rfl (by constructor) (by omega) | exact Cb rfl rfl (by constructor) (by omega) | exact S_al rfl | exact S_bx rfl rfl | exact S_store rfl rfl rfl rfl rfl rfl | (apply Pu.ok; repeat' (first | rfl | exact .inK (by simp only [InK]; omega) | exact .wr | constructor | decide | omega)))); constructor) | refine Pa rfl rfl rfl rfl rfl ?_ | refine Po rfl rfl rfl rfl rfl ?_ | fail)
  refine DW_loop (fun j : Nat => ⟨[(1, .ptr 1 0), (2, .ptr 2 0), (3, .ptr 3 0), (4, .dat true (.int .i64 ((n.links.take j).countP (bothX ps)))), (16, .dat true (.slice (n.links.map linkV))), (17, .dat true (.int .i64 (n.links.map linkV).length)), (18, .dat true (.int .i64 j))], [(1, .cells false true (n.cells.map (.dat true))), (2, .cells false true [.dat true (.slice (t.map mindsRow))]), (3, .cells false true [.dat true (.int .i64 0), .dat true (.int .i64 0)])], 46⟩)
    (fun j => j ≤ n.links.length) (fun j => n.links.length - j) 0 (Nat.zero_le _) (Wk_g some rfl rfl (by (repeat' (first | exact trivial | rfl | exact listLe_map _ | exact ⟨_, rfl, .inl rfl⟩ | exact ⟨_, rfl, .inr (.inl rfl)⟩ | exact ⟨_, rfl, .inr (.inr rfl)⟩ | refine ⟨_, _, rfl, rfl, ?_⟩ | exact ⟨_, rfl, rfl⟩ | exact ⟨_, _, _, _, rfl, rfl, rfl⟩ | exact ⟨_, rfl⟩ | exact ⟨_, _, rfl⟩ | apply And.intro)))) (fun j hj => ?_)
  by_cases hlt : j < n.links.length
  · have hx : n.links[(j : Int).toNat]? = some n.links[j] := by simp [hlt]
    have hc := countP_take (p := bothX ps) (l := n.links) (k := j) (x := n.links[j]) (by simp [hlt])
    have hcl : (n.links.take j).countP (bothX ps) ≤ 40 := Nat.le_trans List.countP_le_length (by rw [List.length_take]; omega)
    obtain ⟨o1, o2⟩ := hop n.links[j] (List.getElem_mem hlt)
    generalize n.links[j] = x at hx hc o1 o2
    have ho1 := talk_Opens n hg t htg (0 : Nat) x.a x.pa
    have ho2 := talk_Opens n hg t htg (0 : Nat) x.b x.pb
    rw [o1] at ho1
    rw [o2] at ho2
    rw [show bothX ps x = (opX ps x.a.toNat x.pa && opX ps x.b.toNat x.pb) from rfl] at hc
    change FnF _ _ [talkV t, .int .i64 0, .int .i64 x.a, .int .i64 x.pa] _ at ho1
    change FnF _ _ [talkV t, .int .i64 0, .int .i64 x.b, .int .i64 x.pb] _ at ho2
    cases h1 : opX ps x.a.toNat x.pa with
    | false =>
      rw [h1] at ho1 hc
      simp only [Bool.false_and, Bool.false_eq_true, if_false, Nat.add_zero] at hc
      repeat' (first | (apply Wa; constructor) | refine Wb rfl ?_ | refine Wc rfl ?_ | refine Wd (by kernel_rfl) ?_ | refine We rfl ?_ | refine Wf rfl ?_ | refine Wg rfl (by omega) ?_ | refine Wh rfl (by omega) ?_ | refine Wi rfl rfl ?_ | ((first | apply dX rfl | apply Da rfl rfl | apply Db rfl rfl (by intro h; first | trivial | exact ⟨h, trivial⟩ | exact ⟨h, h, trivial⟩)); (focus ((try intro hg); first | exact S_ixM rfl rfl (by omega) hx | exact S_call ho1 rfl | exact S_call ho2 rfl | exact Ca rfl rfl (by constructor) (by omega) | exact Cb rfl rfl (by constructor) (by omega) | exact S_al rfl | exact S_bx rfl rfl | exact S_store rfl rfl rfl rfl rfl rfl | (apply Pu.ok; repeat' (first | rfl | exact .inK (by simp only [InK]; omega) | exact .wr | constructor | decide | omega)))); constructor) | refine Pa rfl rfl rfl rfl rfl ?_ | refine Po rfl rfl rfl rfl rfl ?_ | fail)
      exact loop_again (j + 1) hlt (by omega) (by rw [hc]; exact Wk_g some rfl rfl (by (repeat' (first | exact trivial | rfl | exact listLe_map _ | exact ⟨_, rfl, .inl rfl⟩ | exact ⟨_, rfl, .inr (.inl rfl)⟩ | exact ⟨_, rfl, .inr (.inr rfl)⟩ | refine ⟨_, _, rfl, rfl, ?_⟩ | exact ⟨_, rfl, rfl⟩ | exact ⟨_, _, _, _, rfl, rfl, rfl⟩ | exact ⟨_, rfl⟩ | exact ⟨_, _, rfl⟩ | apply And.intro))))
    | true =>
      rw [h1] at ho1 hc
      cases h2 : opX ps x.b.toNat x.pb with
      | false =>
        rw [h2] at ho2 hc
        simp only [Bool.and_false, Bool.false_eq_true, if_false, Nat.add_zero] at hc
        repeat' (first | (apply Wa; constructor) | refine Wb rfl ?_ | refine Wc rfl ?_ | refine Wd (by kernel_rfl) ?_ | refine We rfl ?_ | refine Wf rfl ?_ | refine Wg rfl (by omega) ?_ | refine Wh rfl (by omega) ?_ | refine Wi rfl rfl ?_ | ((first | apply dX rfl | apply Da rfl rfl | apply Db rfl rfl (by intro h; first | trivial | exact ⟨h, trivial⟩ | exact ⟨h, h, trivial⟩)); (focus ((try intro hg); first | exact S_ixM rfl rfl (by omega) hx | exact S_call ho1 rfl | exact S_call ho2 rfl | exact Ca rfl rfl (by constructor) (by omega) | exact Cb rfl rfl (by constructor) (by omega) | exact S_al rfl | exact S_bx rfl rfl | exact S_store rfl rfl rfl rfl rfl rfl | (apply Pu.ok; repeat' (first | rfl | exact .inK (by simp only [InK]; omega) | exact .wr | constructor | decide | omega)))); constructor) | refine Pa rfl rfl rfl rfl rfl ?_ | refine Po rfl rfl rfl rfl rfl ?_ | fail)
        exact loop_again (j + 1) hlt (by omega) (by rw [hc]; exact Wk_g some rfl rfl (by (repeat' (first | exact trivial | rfl | exact listLe_map _ | exact ⟨_, rfl, .inl rfl⟩ | exact ⟨_, rfl, .inr (.inl rfl)⟩ | exact ⟨_, rfl, .inr (.inr rfl)⟩ | refine ⟨_, _, rfl, rfl, ?_⟩ | exact ⟨_, rfl, rfl⟩ | exact ⟨_, _, _, _, rfl, rfl, rfl⟩ | exact ⟨_, rfl⟩ | exact ⟨_, _, rfl⟩ | apply And.intro))))
      | true =>
        rw [h2] at ho2 hc
        simp only [Bool.and_self, if_true] at hc
        repeat' (first | (apply Wa; constructor) | refine Wb rfl ?_ | refine Wc rfl ?_ | refine Wd (by kernel_rfl) ?_ | refine We rfl ?_ | refine Wf rfl ?_ | refine Wg rfl (by omega) ?_ | refine Wh rfl (by omega) ?_ | refine Wi rfl rfl ?_ | ((first | apply dX rfl | apply Da rfl rfl | apply Db rfl rfl (by intro h; first | trivial | exact ⟨h, trivial⟩ | exact ⟨h, h, trivial⟩)); (focus ((try intro hg); first | exact S_ixM rfl rfl (by omega) hx | exact S_call ho1 rfl | exact S_call ho2 rfl | exact Ca rfl rfl (by constructor) (by omega) | exact Cb rfl rfl (by constructor) (by omega) | exact S_al rfl | exact S_bx rfl rfl | exact S_store rfl rfl rfl rfl rfl rfl | (apply Pu.ok; repeat' (first | rfl | exact .inK (by simp only [InK]; omega) | exact .wr | constructor | decide | omega)))); constructor) | refine Pa rfl rfl rfl rfl rfl ?_ | refine Po rfl rfl rfl rfl rfl ?_ | fail)
        exact loop_again (j + 1) hlt (by omega) (by rw [hc]; exact Wk_g some rfl rfl (by (repeat' (first | exact trivial | rfl | exact listLe_map _ | exact ⟨_, rfl, .inl rfl⟩ | exact ⟨_, rfl, .inr (.inl rfl)⟩ | exact ⟨_, rfl, .inr (.inr rfl)⟩ | refine ⟨_, _, rfl, rfl, ?_⟩ | exact ⟨_, rfl, rfl⟩ | exact ⟨_, _, _, _, rfl, rfl, rfl⟩ | exact ⟨_, rfl⟩ | exact ⟨_, _, rfl⟩ | apply And.intro))))
  · rw [List.take_of_length_le (by omega), hct]
    repeat' (first | (apply Wa; constructor) | refine Wb rfl ?_ | refine Wc rfl ?_ | refine Wd (by kernel_rfl) ?_ | refine We rfl ?_ | refine Wf rfl ?_ | refine Wg rfl (by omega) ?_ | refine Wh rfl (by omega) ?_ | refine Wi rfl rfl ?_ | ((first | apply dX rfl | apply Da rfl rfl | apply Db rfl rfl (by intro h; first | trivial | exact ⟨h, trivial⟩ | exact ⟨h, h, trivial⟩)); (focus ((try intro hg); first | exact Ca rfl rfl (by constructor) (by omega) | exact Cb rfl rfl (by constructor) (by omega) | exact S_al rfl | exact S_bx rfl rfl | exact S_store rfl rfl rfl rfl rfl rfl | (apply Pu.ok; repeat' (first | rfl | exact .inK (by simp only [InK]; omega) | exact .wr | constructor | decide | omega)))); constructor) | refine Pa rfl rfl rfl rfl rfl ?_ | refine Po rfl rfl rfl rfl rfl ?_ | fail)
    refine ret1 rfl (by first | exact .inl rfl | exact .inr (flat_of rfl)) ?_
    rfl
end Go.Proofs.Ytfmaehhloffabaa
