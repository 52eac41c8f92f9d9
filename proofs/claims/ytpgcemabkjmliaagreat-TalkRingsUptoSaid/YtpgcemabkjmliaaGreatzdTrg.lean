/- Contracts: the talk laws' apart, ring, on. -/
import Derived.Test.YtpgcemabkjmliaaGreatzcRng
namespace Go.Proofs.YtpgcemabkjmliaaGreat
open Go.RowKit
def pairR (p : Int × Int) : List V := [.int .i64 p.1, .int .i64 p.2]
instance : CellsI pairR 2 := ⟨fun _ => rfl, fun t d h => by
  simp only [pairR, List.mem_cons, List.mem_nil_iff, or_false] at h
  rcases h with rfl | rfl <;> rfl⟩
instance : FlatI pairR := ⟨fun t d h => by
  simp only [pairR, List.mem_cons, List.mem_nil_iff, or_false] at h
  rcases h with rfl | rfl <;> exact .int _ _⟩
def onB (t : List (List Mind)) (tree : Int) (x : Link) : Bool := opensT t tree x.a x.pa && opensT t tree x.b x.pb
theorem apart_drop {i : Nat} {pt : Bool} {c : Int} {d : Doing} {r : List Doing} : apartL i pt c (d :: r) = if d.kind = 1 then apartL (i + 1) true (min (IntKind.i64.wrap (c + d.n)) 40) r else if c < 40 ∧ 0 < i ∧ pt = true then false else apartL (i + 1) false 0 r := rfl
def ptAt (l : List Doing) (k : Nat) : Bool := match k with | 0 => false | k + 1 => decide (((l[k]?).getD ⟨0, 0, 0, 0⟩).kind = 1)
theorem mix_keep {α : Type} {xs ys : List α} {k : Nat} {a : α} (h : xs.length = ys.length) (h1 : xs[k]? = some a) (h2 : ys[k]? = some a) : mix xs ys (k + 1) = mix xs ys k := by
  rw [← mix_set h h1]
  have := mix_get (xs := xs) (ys := ys) (k := k) h
  rw [h2] at this
  obtain ⟨hl, rfl⟩ := List.getElem?_eq_some_iff.1 this
  exact List.set_getElem_self hl
attribute [local irreducible] SStep DW DWin DOps thenQ inBlk loopQ retQ retQG FnF FnG FnI FnM Wk IntKind.wrap IntKind.andI IntKind.orI IntKind.xorI IntKind.andNotI IntKind.shlI IntKind.shrI opensT liveL mix join0 rstep
set_option maxHeartbeats 4000000 in
theorem law7_apart (l : List Doing) : FnF Tryz.prog 16 [.slice (l.map Doing.cells)] (.bool (apartL 0 false 40 l)) := by
  refine fnF_of Tryz.func16 rfl rfl rfl ?_
  simp only [envOf]
  refine DW_len 0 rfl (fun hlen => ?_)
  have hml : (l.map Doing.cells).length = l.length := by simp
  repeat' (first | (apply Wa; constructor) | refine Wb rfl ?_ | refine Wc rfl ?_ | refine Wd (by kernel_rfl) ?_ | refine We rfl ?_ | refine Wf rfl ?_ | refine Wg rfl (by omega) ?_ | refine Wh rfl (by omega) ?_ | refine Wi rfl rfl ?_ | ((first | apply dX rfl | apply Da rfl rfl | apply Db rfl rfl (by intro h; first | trivial | exact ⟨h, trivial⟩ | exact ⟨h, h, trivial⟩)); (focus ((try intro hg); first | exact Ca rfl rfl (by constructor) (by omega) | exact Cb rfl rfl (by constructor) (by omega) | exact S_al rfl | exact S_bx rfl rfl | exact S_store rfl rfl rfl rfl rfl rfl | (apply Pu.ok; repeat' (first | rfl | exact .inK (by simp only [InK]; omega) | exact .wr | constructor | decide | omega)))); constructor) | refine Pa rfl rfl rfl rfl rfl ?_ | refine Po rfl rfl rfl rfl rfl ?_ | fail)
  refine DW_loop (fun q : Nat × Int => ⟨[(0, .dat false (.slice (l.map Doing.cells))), (3, .dat true (.int .i64 q.2)), (6, .dat false (.slice (l.map Doing.cells))), (7, .dat true (.int .i64 (l.map Doing.cells).length)), (8, .dat true (.int .i64 q.1))], [], 37⟩)
    (fun q => q.1 ≤ l.length ∧ apartL 0 false 40 l = apartL q.1 (ptAt l q.1) q.2 (l.drop q.1)) (fun q => l.length - q.1) (0, 40) ⟨Nat.zero_le _, rfl⟩ (Wk_g some rfl rfl (by (repeat' (first | exact trivial | rfl | exact listLe_map _ | exact ⟨_, rfl, .inl rfl⟩ | exact ⟨_, rfl, .inr (.inl rfl)⟩ | exact ⟨_, rfl, .inr (.inr rfl)⟩ | refine ⟨_, _, rfl, rfl, ?_⟩ | exact ⟨_, rfl, rfl⟩ | exact ⟨_, _, _, _, rfl, rfl, rfl⟩ | exact ⟨_, rfl⟩ | exact ⟨_, _, rfl⟩ | apply And.intro)))) (fun q hR => ?_)
  obtain ⟨k, c⟩ := q
  obtain ⟨hk, hon⟩ := hR
  simp only at hk hon
  dsimp only
  rw [hon]
  by_cases hlt : k < l.length
  · have hx : l[(k : Int).toNat]? = some l[k] := by simp [hlt]
    have hdr : l.drop k = l[k] :: l.drop (k + 1) := List.drop_eq_getElem_cons hlt
    have hpt : ptAt l (k + 1) = decide (l[k].kind = 1) := by unfold ptAt; simp [hlt]
    rw [hdr, apart_drop]
    generalize l[k] = d at hx hpt
    by_cases h1 : d.kind = 1
    · rw [if_pos h1]
      rw [decide_eq_true h1] at hpt
      repeat' (first | (apply Wa; constructor) | refine Wb rfl ?_ | refine Wc rfl ?_ | refine Wd (by kernel_rfl) ?_ | refine We rfl ?_ | refine Wf rfl ?_ | refine Wg rfl (by omega) ?_ | refine Wh rfl (by omega) ?_ | refine Wi rfl rfl ?_ | ((first | apply dX rfl | apply Da rfl rfl | apply Db rfl rfl (by intro h; first | trivial | exact ⟨h, trivial⟩ | exact ⟨h, h, trivial⟩)); (focus ((try intro hg); first | exact as_int (S_add (a := c) (b := d.n) rfl rfl) rfl | exact S_ixM rfl rfl (by omega) hx | exact S_min rfl rfl | exact Ca rfl rfl (by constructor) (by omega) | exact Cb rfl rfl (by constructor) (by omega) | exact S_al rfl | exact S_bx rfl rfl | exact S_store rfl rfl rfl rfl rfl rfl | (apply Pu.ok; repeat' (first | rfl | exact .inK (by simp only [InK]; omega) | exact .wr | constructor | decide | omega)))); constructor) | refine Pa rfl rfl rfl rfl rfl ?_ | refine Po rfl rfl rfl rfl rfl ?_ | fail)
      exact loop_again (k + 1, min (IntKind.i64.wrap (c + d.n)) 40) ⟨hlt, by rw [hpt]⟩ (by simp only; omega) (Wk_g some rfl rfl (by (repeat' (first | exact trivial | rfl | exact listLe_map _ | exact ⟨_, rfl, .inl rfl⟩ | exact ⟨_, rfl, .inr (.inl rfl)⟩ | exact ⟨_, rfl, .inr (.inr rfl)⟩ | refine ⟨_, _, rfl, rfl, ?_⟩ | exact ⟨_, rfl, rfl⟩ | exact ⟨_, _, _, _, rfl, rfl, rfl⟩ | exact ⟨_, rfl⟩ | exact ⟨_, _, rfl⟩ | apply And.intro))))
    · rw [if_neg h1]
      rw [decide_eq_false h1] at hpt
      by_cases h2 : c < 40
      · cases k with
        | zero =>
          rw [if_neg (by omega)]
          repeat' (first | (apply Wa; constructor) | refine Wb rfl ?_ | refine Wc rfl ?_ | refine Wd (by kernel_rfl) ?_ | refine We rfl ?_ | refine Wf rfl ?_ | refine Wg rfl (by omega) ?_ | refine Wh rfl (by omega) ?_ | refine Wi rfl rfl ?_ | ((first | apply dX rfl | apply Da rfl rfl | apply Db rfl rfl (by intro h; first | trivial | exact ⟨h, trivial⟩ | exact ⟨h, h, trivial⟩)); (focus ((try intro hg); first | exact S_ixM rfl rfl (by omega) hx | exact Ca rfl rfl (by constructor) (by omega) | exact Cb rfl rfl (by constructor) (by omega) | exact S_al rfl | exact S_bx rfl rfl | exact S_store rfl rfl rfl rfl rfl rfl | (apply Pu.ok; repeat' (first | rfl | exact .inK (by simp only [InK]; omega) | exact .wr | constructor | decide | omega)))); constructor) | refine Pa rfl rfl rfl rfl rfl ?_ | refine Po rfl rfl rfl rfl rfl ?_ | fail)
          exact loop_again (0 + 1, 0) ⟨hlt, by rw [hpt]⟩ (by simp only; omega) (Wk_g some rfl rfl (by (repeat' (first | exact trivial | rfl | exact listLe_map _ | exact ⟨_, rfl, .inl rfl⟩ | exact ⟨_, rfl, .inr (.inl rfl)⟩ | exact ⟨_, rfl, .inr (.inr rfl)⟩ | refine ⟨_, _, rfl, rfl, ?_⟩ | exact ⟨_, rfl, rfl⟩ | exact ⟨_, _, _, _, rfl, rfl, rfl⟩ | exact ⟨_, rfl⟩ | exact ⟨_, _, rfl⟩ | apply And.intro))))
        | succ k =>
          have hp2 : l[((k + 1 : Nat) : Int).toNat - 1]? = some (l[k]'(by omega)) := by simp [show k < l.length by omega]
          have hp3 : l[(((k + 1 : Nat) : Int) - 1).toNat]? = some (l[k]'(by omega)) := by rw [show (((k + 1 : Nat) : Int) - 1).toNat = k by omega]; simp [show k < l.length by omega]
          have hpk : ptAt l (k + 1) = decide ((l[k]'(by omega)).kind = 1) := by unfold ptAt; simp [show k < l.length by omega]
          generalize (l[k]'(by omega)) = e at hp3 hpk
          by_cases h3 : e.kind = 1
          · rw [hpk, decide_eq_true h3, if_pos ⟨h2, by omega, rfl⟩]
            repeat' (first | (apply Wa; constructor) | refine Wb rfl ?_ | refine Wc rfl ?_ | refine Wd (by kernel_rfl) ?_ | refine We rfl ?_ | refine Wf rfl ?_ | refine Wg rfl (by omega) ?_ | refine Wh rfl (by omega) ?_ | refine Wi rfl rfl ?_ | ((first | apply dX rfl | apply Da rfl rfl | apply Db rfl rfl (by intro h; first | trivial | exact ⟨h, trivial⟩ | exact ⟨h, h, trivial⟩)); (focus ((try intro hg); first | exact S_ixM rfl rfl (by omega) hx | exact S_ixM rfl rfl (by omega) hp3 | exact Ca rfl rfl (by constructor) (by omega) | exact Cb rfl rfl (by constructor) (by omega) | exact S_al rfl | exact S_bx rfl rfl | exact S_store rfl rfl rfl rfl rfl rfl | (apply Pu.ok; repeat' (first | rfl | exact .inK (by simp only [InK]; omega) | exact .wr | constructor | decide | omega)))); constructor) | refine Pa rfl rfl rfl rfl rfl ?_ | refine Po rfl rfl rfl rfl rfl ?_ | fail)
            refine ret1 rfl (by first | exact .inl rfl | exact .inr (flat_of rfl)) ?_
            rfl
          · rw [hpk, decide_eq_false h3, if_neg (by simp)]
            repeat' (first | (apply Wa; constructor) | refine Wb rfl ?_ | refine Wc rfl ?_ | refine Wd (by kernel_rfl) ?_ | refine We rfl ?_ | refine Wf rfl ?_ | refine Wg rfl (by omega) ?_ | refine Wh rfl (by omega) ?_ | refine Wi rfl rfl ?_ | ((first | apply dX rfl | apply Da rfl rfl | apply Db rfl rfl (by intro h; first | trivial | exact ⟨h, trivial⟩ | exact ⟨h, h, trivial⟩)); (focus ((try intro hg); first | exact S_ixM rfl rfl (by omega) hx | exact S_ixM rfl rfl (by omega) hp3 | exact Ca rfl rfl (by constructor) (by omega) | exact Cb rfl rfl (by constructor) (by omega) | exact S_al rfl | exact S_bx rfl rfl | exact S_store rfl rfl rfl rfl rfl rfl | (apply Pu.ok; repeat' (first | rfl | exact .inK (by simp only [InK]; omega) | exact .wr | constructor | decide | omega)))); constructor) | refine Pa rfl rfl rfl rfl rfl ?_ | refine Po rfl rfl rfl rfl rfl ?_ | fail)
            exact loop_again (k + 1 + 1, 0) ⟨hlt, by rw [hpt]⟩ (by simp only; omega) (Wk_g some rfl rfl (by (repeat' (first | exact trivial | rfl | exact listLe_map _ | exact ⟨_, rfl, .inl rfl⟩ | exact ⟨_, rfl, .inr (.inl rfl)⟩ | exact ⟨_, rfl, .inr (.inr rfl)⟩ | refine ⟨_, _, rfl, rfl, ?_⟩ | exact ⟨_, rfl, rfl⟩ | exact ⟨_, _, _, _, rfl, rfl, rfl⟩ | exact ⟨_, rfl⟩ | exact ⟨_, _, rfl⟩ | apply And.intro))))
      · rw [if_neg (by omega)]
        repeat' (first | (apply Wa; constructor) | refine Wb rfl ?_ | refine Wc rfl ?_ | refine Wd (by kernel_rfl) ?_ | refine We rfl ?_ | refine Wf rfl ?_ | refine Wg rfl (by omega) ?_ | refine Wh rfl (by omega) ?_ | refine Wi rfl rfl ?_ | ((first | apply dX rfl | apply Da rfl rfl | apply Db rfl rfl (by intro h; first | trivial | exact ⟨h, trivial⟩ | exact ⟨h, h, trivial⟩)); (focus ((try intro hg); first | exact S_ixM rfl rfl (by omega) hx | exact Ca rfl rfl (by constructor) (by omega) | exact Cb rfl rfl (by constructor) (by omega) | exact S_al rfl | exact S_bx rfl rfl | exact S_store rfl rfl rfl rfl rfl rfl | (apply Pu.ok; repeat' (first | rfl | exact .inK (by simp only [InK]; omega) | exact .wr | constructor | decide | omega)))); constructor) | refine Pa rfl rfl rfl rfl rfl ?_ | refine Po rfl rfl rfl rfl rfl ?_ | fail)
        exact loop_again (k + 1, 0) ⟨hlt, by rw [hpt]⟩ (by simp only; omega) (Wk_g some rfl rfl (by (repeat' (first | exact trivial | rfl | exact listLe_map _ | exact ⟨_, rfl, .inl rfl⟩ | exact ⟨_, rfl, .inr (.inl rfl)⟩ | exact ⟨_, rfl, .inr (.inr rfl)⟩ | refine ⟨_, _, rfl, rfl, ?_⟩ | exact ⟨_, rfl, rfl⟩ | exact ⟨_, _, _, _, rfl, rfl, rfl⟩ | exact ⟨_, rfl⟩ | exact ⟨_, _, rfl⟩ | apply And.intro))))
  · have hdr : l.drop k = [] := List.drop_eq_nil_of_le (by omega)
    rw [hdr]
    repeat' (first | (apply Wa; constructor) | refine Wb rfl ?_ | refine Wc rfl ?_ | refine Wd (by kernel_rfl) ?_ | refine We rfl ?_ | refine Wf rfl ?_ | refine Wg rfl (by omega) ?_ | refine Wh rfl (by omega) ?_ | refine Wi rfl rfl ?_ | ((first | apply dX rfl | apply Da rfl rfl | apply Db rfl rfl (by intro h; first | trivial | exact ⟨h, trivial⟩ | exact ⟨h, h, trivial⟩)); (focus ((try intro hg); first | exact Ca rfl rfl (by constructor) (by omega) | exact Cb rfl rfl (by constructor) (by omega) | exact S_al rfl | exact S_bx rfl rfl | exact S_store rfl rfl rfl rfl rfl rfl | (apply Pu.ok; repeat' (first | rfl | exact .inK (by simp only [InK]; omega) | exact .wr | constructor | decide | omega)))); constructor) | refine Pa rfl rfl rfl rfl rfl ?_ | refine Po rfl rfl rfl rfl rfl ?_ | fail)
    refine ret1 rfl (by first | exact .inl rfl | exact .inr (flat_of rfl)) ?_
    rfl
set_option maxHeartbeats 4000000 in
theorem law7_on (m : Net) (_mt : m.typed) (mg : m.good) (t : List (List Mind)) (mgt : goodT m t) (tree : Int) : FnF Tryz.prog 19 [m.v, talkV t, .int .i64 tree] (.slice ((((liveL m).filter (onB t tree)).map prL).map pairR)) := by
  refine fnF_of Tryz.func19 rfl rfl rfl ?_
  simp only [envOf]
  have hli := ref6_Live m mg
  have hll : (liveL m).length ≤ 40 := by with_unfolding_all exact Nat.le_trans (List.length_filter_le _ _) mg.nl
  generalize liveL m = ls at hli hll
  have hml : (ls.map linkV).length = ls.length := by simp
  repeat' (first | (apply Wa; constructor) | refine Wb rfl ?_ | refine Wc rfl ?_ | refine Wd (by kernel_rfl) ?_ | refine We rfl ?_ | refine Wf rfl ?_ | refine Wg rfl (by omega) ?_ | refine Wh rfl (by omega) ?_ | refine Wi rfl rfl ?_ | ((first | apply dX rfl | apply Da rfl rfl | apply Db rfl rfl (by intro h; first | trivial | exact ⟨h, trivial⟩ | exact ⟨h, h, trivial⟩)); (focus ((try intro hg); first | exact S_call hli rfl | exact Ca rfl rfl (by constructor) (by omega) | exact Cb rfl rfl (by constructor) (by omega) | exact S_al rfl | exact S_bx rfl rfl | exact S_store rfl rfl rfl rfl rfl rfl | (apply Pu.ok; repeat' (first | rfl | exact .inK (by simp only [InK]; omega) | exact .wr | constructor | decide | omega)))); constructor) | refine Pa rfl rfl rfl rfl rfl ?_ | refine Po rfl rfl rfl rfl rfl ?_ | fail)
  refine DW_loop (fun q : Nat × List (Int × Int) => ⟨[(2, .dat false (.int .i64 tree)), (4, .ptr 4 0), (7, .own 7 0 0 q.2.length), (11, .dat true (.slice (ls.map linkV))), (12, .dat true (.int .i64 (ls.map linkV).length)), (13, .dat true (.int .i64 q.1))], [(4, .cells false true [.dat false (.slice (t.map mindsRow))]), (7, .row 0 false true 2 (q.2.map pairR))], 43⟩)
    (fun q => q.1 ≤ ls.length ∧ q.2 = (((ls.take q.1).filter (onB t tree)).map prL)) (fun q => ls.length - q.1) (0, []) ⟨Nat.zero_le _, rfl⟩ (Wk_g (fun g => if g = 7 then none else some g) rfl rfl (by (repeat' (first | exact trivial | rfl | exact listLe_map _ | exact ⟨_, rfl, .inl rfl⟩ | exact ⟨_, rfl, .inr (.inl rfl)⟩ | exact ⟨_, rfl, .inr (.inr rfl)⟩ | refine ⟨_, _, rfl, rfl, ?_⟩ | exact ⟨_, rfl, rfl⟩ | exact ⟨_, _, _, _, rfl, rfl, rfl⟩ | exact ⟨_, rfl⟩ | exact ⟨_, _, rfl⟩ | apply And.intro)))) (fun q hR => ?_)
  obtain ⟨k, us⟩ := q
  obtain ⟨hk, hus⟩ := hR
  simp only at hk hus
  dsimp only
  have hul : us.length ≤ 40 := by rw [hus, List.length_map]; exact Nat.le_trans (List.length_filter_le _ _) (by rw [List.length_take]; omega)
  by_cases hlt : k < ls.length
  · have hx : ls[(k : Int).toNat]? = some ls[k] := by simp [hlt]
    have htk : ls.take (k + 1) = ls.take k ++ [ls[k]] := by rw [List.take_add_one, List.getElem?_eq_getElem hlt]; rfl
    have hst : ((ls.take (k + 1)).filter (onB t tree)).map prL = us ++ if onB t tree ls[k] = true then [prL ls[k]] else [] := by
      rw [htk, List.filter_append, List.map_append, ← hus]
      congr 1
      rw [List.filter_cons]
      split <;> rfl
    generalize ls[k] = x at hx hst
    have ho1 := talk_Opens m mg t mgt tree x.a x.pa
    have ho2 := talk_Opens m mg t mgt tree x.b x.pb
    unfold onB at hst
    cases h1 : opensT t tree x.a x.pa with
    | false =>
      rw [h1] at ho1 hst
      simp only [Bool.false_and, Bool.false_eq_true, if_false, List.append_nil] at hst
      repeat' (first | (apply Wa; constructor) | refine Wb rfl ?_ | refine Wc rfl ?_ | refine Wd (by kernel_rfl) ?_ | refine We rfl ?_ | refine Wf rfl ?_ | refine Wg rfl (by omega) ?_ | refine Wh rfl (by omega) ?_ | refine Wi rfl rfl ?_ | ((first | apply dX rfl | apply Da rfl rfl | apply Db rfl rfl (by intro h; first | trivial | exact ⟨h, trivial⟩ | exact ⟨h, h, trivial⟩)); (focus ((try intro hg); first | exact S_ixM rfl rfl (by omega) hx | exact S_call ho1 rfl | exact Ca rfl rfl (by constructor) (by omega) | exact Cb rfl rfl (by constructor) (by omega) | exact S_al rfl | exact S_bx rfl rfl | exact S_store rfl rfl rfl rfl rfl rfl | (apply Pu.ok; repeat' (first | rfl | exact .inK (by simp only [InK]; omega) | exact .wr | constructor | decide | omega)))); constructor) | refine Pa rfl rfl rfl rfl rfl ?_ | refine Po rfl rfl rfl rfl rfl ?_ | fail)
      exact loop_again (k + 1, us) ⟨hlt, hst.symm⟩ (by simp only; omega) (Wk_g some rfl rfl (by (repeat' (first | exact trivial | rfl | exact listLe_map _ | exact ⟨_, rfl, .inl rfl⟩ | exact ⟨_, rfl, .inr (.inl rfl)⟩ | exact ⟨_, rfl, .inr (.inr rfl)⟩ | refine ⟨_, _, rfl, rfl, ?_⟩ | exact ⟨_, rfl, rfl⟩ | exact ⟨_, _, _, _, rfl, rfl, rfl⟩ | exact ⟨_, rfl⟩ | exact ⟨_, _, rfl⟩ | apply And.intro))))
    | true =>
      rw [h1] at ho1 hst
      cases h2 : opensT t tree x.b x.pb with
      | false =>
        rw [h2] at ho2 hst
        simp only [Bool.and_false, Bool.false_eq_true, if_false, List.append_nil] at hst
        repeat' (first | (apply Wa; constructor) | refine Wb rfl ?_ | refine Wc rfl ?_ | refine Wd (by kernel_rfl) ?_ | refine We rfl ?_ | refine Wf rfl ?_ | refine Wg rfl (by omega) ?_ | refine Wh rfl (by omega) ?_ | refine Wi rfl rfl ?_ | ((first | apply dX rfl | apply Da rfl rfl | apply Db rfl rfl (by intro h; first | trivial | exact ⟨h, trivial⟩ | exact ⟨h, h, trivial⟩)); (focus ((try intro hg); first | exact S_ixM rfl rfl (by omega) hx | exact S_call ho1 rfl | exact S_call ho2 rfl | exact Ca rfl rfl (by constructor) (by omega) | exact Cb rfl rfl (by constructor) (by omega) | exact S_al rfl | exact S_bx rfl rfl | exact S_store rfl rfl rfl rfl rfl rfl | (apply Pu.ok; repeat' (first | rfl | exact .inK (by simp only [InK]; omega) | exact .wr | constructor | decide | omega)))); constructor) | refine Pa rfl rfl rfl rfl rfl ?_ | refine Po rfl rfl rfl rfl rfl ?_ | fail)
        exact loop_again (k + 1, us) ⟨hlt, hst.symm⟩ (by simp only; omega) (Wk_g some rfl rfl (by (repeat' (first | exact trivial | rfl | exact listLe_map _ | exact ⟨_, rfl, .inl rfl⟩ | exact ⟨_, rfl, .inr (.inl rfl)⟩ | exact ⟨_, rfl, .inr (.inr rfl)⟩ | refine ⟨_, _, rfl, rfl, ?_⟩ | exact ⟨_, rfl, rfl⟩ | exact ⟨_, _, _, _, rfl, rfl, rfl⟩ | exact ⟨_, rfl⟩ | exact ⟨_, _, rfl⟩ | apply And.intro))))
      | true =>
        rw [h2] at ho2 hst
        simp only [Bool.and_self, if_true] at hst
        repeat' (first | (apply Wa; constructor) | refine Wb rfl ?_ | refine Wc rfl ?_ | refine Wd (by kernel_rfl) ?_ | refine We rfl ?_ | refine Wf rfl ?_ | refine Wg rfl (by omega) ?_ | refine Wh rfl (by omega) ?_ | refine Wi rfl rfl ?_ | ((first | apply dX rfl | apply Da rfl rfl | apply Db rfl rfl (by intro h; first | trivial | exact ⟨h, trivial⟩ | exact ⟨h, h, trivial⟩)); (focus ((try intro hg); first | exact S_ixM rfl rfl (by omega) hx | exact S_call ho1 rfl | exact S_call ho2 rfl | exact S_appM (f := pairR) (us := us) (bs := [prL x]) rfl rfl (.dat _ _) rfl rfl (.inr ⟨rfl, inferInstance⟩) rfl (by simp only [List.length_singleton]; omega) | exact Ca rfl rfl (by constructor) (by omega) | exact Cb rfl rfl (by constructor) (by omega) | exact S_al rfl | exact S_bx rfl rfl | exact S_store rfl rfl rfl rfl rfl rfl | (apply Pu.ok; repeat' (first | rfl | exact .inK (by simp only [InK]; omega) | exact .wr | constructor | decide | omega)))); constructor) | refine Pa rfl rfl rfl rfl rfl ?_ | refine Po rfl rfl rfl rfl rfl ?_ | fail)
        exact loop_again (k + 1, us ++ [prL x]) ⟨hlt, hst.symm⟩ (by simp only; omega) (Wk_g some rfl rfl (by (repeat' (first | exact trivial | rfl | exact listLe_map _ | exact ⟨_, rfl, .inl rfl⟩ | exact ⟨_, rfl, .inr (.inl rfl)⟩ | exact ⟨_, rfl, .inr (.inr rfl)⟩ | refine ⟨_, _, rfl, rfl, ?_⟩ | exact ⟨_, rfl, rfl⟩ | exact ⟨_, _, _, _, rfl, rfl, rfl⟩ | exact ⟨_, rfl⟩ | exact ⟨_, _, rfl⟩ | apply And.intro))))
  · have he : us = (ls.filter (onB t tree)).map prL := by rw [hus, List.take_of_length_le (by omega)]
    refine DW_seal 7 rfl rfl (by simp) ?_
    repeat' (first | (apply Wa; constructor) | refine Wb rfl ?_ | refine Wc rfl ?_ | refine Wd (by kernel_rfl) ?_ | refine We rfl ?_ | refine Wf rfl ?_ | refine Wg rfl (by omega) ?_ | refine Wh rfl (by omega) ?_ | refine Wi rfl rfl ?_ | ((first | apply dX rfl | apply Da rfl rfl | apply Db rfl rfl (by intro h; first | trivial | exact ⟨h, trivial⟩ | exact ⟨h, h, trivial⟩)); (focus ((try intro hg); first | exact Ca rfl rfl (by constructor) (by omega) | exact Cb rfl rfl (by constructor) (by omega) | exact S_al rfl | exact S_bx rfl rfl | exact S_store rfl rfl rfl rfl rfl rfl | (apply Pu.ok; repeat' (first | rfl | exact .inK (by simp only [InK]; omega) | exact .wr | constructor | decide | omega)))); constructor) | refine Pa rfl rfl rfl rfl rfl ?_ | refine Po rfl rfl rfl rfl rfl ?_ | fail)
    refine ret1 rfl (by first | exact .inl rfl | exact .inr (flat_of rfl)) ?_
    rw [← he]
set_option maxHeartbeats 4000000 in
theorem law7_ring (nb : Nat) (hnb : nb ≤ 1000) (ps : List (Int × Int)) (hpl : ps.length ≤ 1000) (hps : ∀ p ∈ ps, (0 ≤ p.1 ∧ p.1 < nb) ∧ (0 ≤ p.2 ∧ p.2 < nb))
    (hsep : ∀ l1 p l2, ps = l1 ++ p :: l2 → ∃ f : Nat → Prop, (∀ q ∈ l1, (f q.1.toNat ↔ f q.2.toNat)) ∧ ¬ (f p.1.toNat ↔ f p.2.toNat)) :
    FnF Tryz.prog 18 [.int .i64 nb, .slice (ps.map pairR)] (.bool false) := by
  refine fnF_of Tryz.func18 rfl rfl rfl ?_
  simp only [envOf]
  have hml : (ps.map pairR).length = ps.length := by simp
  have hj0 : (join0 nb).length = (List.replicate nb (0 : Int)).length := by with_unfolding_all (unfold join0; simp)
  repeat' (first | (apply Wa; constructor) | refine Wb rfl ?_ | refine Wc rfl ?_ | refine Wd (by kernel_rfl) ?_ | refine We rfl ?_ | refine Wf rfl ?_ | refine Wg rfl (by omega) ?_ | refine Wh rfl (by omega) ?_ | refine Wi rfl rfl ?_ | (apply dt rfl; case h => first | exact S_mkM (f := intV1) (l := nb) (c := nb) (0 : Int) _ rfl rfl rfl rfl (Nat.le_refl _) (by omega) rfl rfl) | ((first | apply dX rfl | apply Da rfl rfl | apply Db rfl rfl (by intro h; first | trivial | exact ⟨h, trivial⟩ | exact ⟨h, h, trivial⟩)); (focus ((try intro hg); first | exact S_mkM (f := intV1) (l := nb) (c := nb) (0 : Int) _ rfl rfl rfl rfl (Nat.le_refl _) (by omega) rfl rfl | exact Ca rfl rfl (by constructor) (by omega) | exact Cb rfl rfl (by constructor) (by omega) | exact S_al rfl | exact S_bx rfl rfl | exact S_store rfl rfl rfl rfl rfl rfl | (apply Pu.ok; repeat' (first | rfl | exact .inK (by simp only [InK]; omega) | exact .wr | constructor | decide | omega)))); constructor) | refine Pa rfl rfl rfl rfl rfl ?_ | refine Po rfl rfl rfl rfl rfl ?_ | fail)
  refine DW_loop (fun k : Nat => ⟨[(1, .dat false (.slice (ps.map pairR))), (5, .own 13 0 0 nb), (15, .dat true (.int .i64 nb)), (16, .dat true (.int .i64 k))],
      [(13, .row 0 false true 1 ((mix (join0 nb) (List.replicate nb (0 : Int)) k).map intV1))], 60⟩)
    (fun k => k ≤ nb) (fun k => nb - k) 0 (Nat.zero_le _) (by rw [mix_zero]; exact Wk_g some rfl rfl (by (repeat' (first | exact trivial | rfl | exact listLe_map _ | exact ⟨_, rfl, .inl rfl⟩ | exact ⟨_, rfl, .inr (.inl rfl)⟩ | exact ⟨_, rfl, .inr (.inr rfl)⟩ | refine ⟨_, _, rfl, rfl, ?_⟩ | exact ⟨_, rfl, rfl⟩ | exact ⟨_, _, _, _, rfl, rfl, rfl⟩ | exact ⟨_, rfl⟩ | exact ⟨_, _, rfl⟩ | apply And.intro)))) (fun k hk => ?_)
  by_cases hlt : k < nb
  · have hs0 : (join0 nb)[k]? = some (k : Int) := by with_unfolding_all (unfold join0; simp [hlt])
    have hset := mix_set hj0 hs0
    have hu : (mix (join0 nb) (List.replicate nb (0 : Int)) k)[(k : Int).toNat]? = some 0 := by rw [Int.toNat_natCast, mix_get hj0]; simp [hlt]
    repeat' (first | (apply Wa; constructor) | refine Wb rfl ?_ | refine Wc rfl ?_ | refine Wd (by kernel_rfl) ?_ | refine We rfl ?_ | refine Wf rfl ?_ | refine Wg rfl (by omega) ?_ | refine Wh rfl (by omega) ?_ | refine Wi rfl rfl ?_ | ((first | apply dX rfl | apply Da rfl rfl | apply Db rfl rfl (by intro h; first | trivial | exact ⟨h, trivial⟩ | exact ⟨h, h, trivial⟩)); (focus ((try intro hg); first | exact S_ixO rfl rfl rfl (by omega) (by omega) | exact S_storeM (f := intV1) (a := (k : Int)) rfl rfl hu rfl rfl (.inr ⟨rfl, inferInstance⟩) rfl rfl | exact Ca rfl rfl (by constructor) (by omega) | exact Cb rfl rfl (by constructor) (by omega) | exact S_al rfl | exact S_bx rfl rfl | exact S_store rfl rfl rfl rfl rfl rfl | (apply Pu.ok; repeat' (first | rfl | exact .inK (by simp only [InK]; omega) | exact .wr | constructor | decide | omega)))); constructor) | refine Pa rfl rfl rfl rfl rfl ?_ | refine Po rfl rfl rfl rfl rfl ?_ | fail)
    refine loop_again (k + 1) hlt (by omega) ?_
    rw [← hset]
    exact Wk_g some rfl rfl (by (repeat' (first | exact trivial | rfl | exact listLe_map _ | exact ⟨_, rfl, .inl rfl⟩ | exact ⟨_, rfl, .inr (.inl rfl)⟩ | exact ⟨_, rfl, .inr (.inr rfl)⟩ | refine ⟨_, _, rfl, rfl, ?_⟩ | exact ⟨_, rfl, rfl⟩ | exact ⟨_, _, _, _, rfl, rfl, rfl⟩ | exact ⟨_, rfl⟩ | exact ⟨_, _, rfl⟩ | apply And.intro)))
  · rw [mix_all hj0 (by simp; omega)]
    repeat' (first | (apply Wa; constructor) | refine Wb rfl ?_ | refine Wc rfl ?_ | refine Wd (by kernel_rfl) ?_ | refine We rfl ?_ | refine Wf rfl ?_ | refine Wg rfl (by omega) ?_ | refine Wh rfl (by omega) ?_ | refine Wi rfl rfl ?_ | ((first | apply dX rfl | apply Da rfl rfl | apply Db rfl rfl (by intro h; first | trivial | exact ⟨h, trivial⟩ | exact ⟨h, h, trivial⟩)); (focus ((try intro hg); first | exact Ca rfl rfl (by constructor) (by omega) | exact Cb rfl rfl (by constructor) (by omega) | exact S_al rfl | exact S_bx rfl rfl | exact S_store rfl rfl rfl rfl rfl rfl | (apply Pu.ok; repeat' (first | rfl | exact .inK (by simp only [InK]; omega) | exact .wr | constructor | decide | omega)))); constructor) | refine Pa rfl rfl rfl rfl rfl ?_ | refine Po rfl rfl rfl rfl rfl ?_ | fail)
    refine DW_loop (fun q : Nat × List Int => ⟨[(5, .own 13 0 0 nb), (24, .dat false (.slice (ps.map pairR))), (25, .dat true (.int .i64 (ps.map pairR).length)), (26, .dat true (.int .i64 q.1))], [(13, .row 0 false true 1 (q.2.map intV1))], 60⟩)
      (fun q => q.1 ≤ ps.length ∧ LInv nb (ps.take q.1) q.2) (fun q => ps.length - q.1) (0, join0 nb) ⟨Nat.zero_le _, linv_zero nb⟩ (Wk_g some rfl rfl (by (repeat' (first | exact trivial | rfl | exact listLe_map _ | exact ⟨_, rfl, .inl rfl⟩ | exact ⟨_, rfl, .inr (.inl rfl)⟩ | exact ⟨_, rfl, .inr (.inr rfl)⟩ | refine ⟨_, _, rfl, rfl, ?_⟩ | exact ⟨_, rfl, rfl⟩ | exact ⟨_, _, _, _, rfl, rfl, rfl⟩ | exact ⟨_, rfl⟩ | exact ⟨_, _, rfl⟩ | apply And.intro)))) (fun q hR => ?_)
    obtain ⟨k2, g⟩ := q
    obtain ⟨hk2, hJ⟩ := hR
    simp only at hk2 hJ
    dsimp only
    have hgl := hJ.len
    by_cases hlt2 : k2 < ps.length
    · have hx : ps[(k2 : Int).toNat]? = some ps[k2] := by simp [hlt2]
      have htk : ps.take (k2 + 1) = ps.take k2 ++ [ps[k2]] := by rw [List.take_add_one, List.getElem?_eq_getElem hlt2]; rfl
      have hpb := hps ps[k2] (List.getElem_mem hlt2)
      have hse := hsep (ps.take k2) ps[k2] (ps.drop (k2 + 1)) (by rw [← List.drop_eq_getElem_cons hlt2, List.take_append_drop])
      generalize ps[k2] = p at hx htk hpb hse
      have hne := linv_ne hJ (p := p) (by omega) (by omega) hse
      have hnx := linv_step hJ (p := p) (by omega) (by omega)
      rw [← htk] at hnx
      have ea : g[p.1.toNat]? = some (g[p.1.toNat]'(by omega)) := List.getElem?_eq_getElem _
      have eb : g[p.2.toNat]? = some (g[p.2.toNat]'(by omega)) := List.getElem?_eq_getElem _
      generalize g[p.1.toNat]'(by omega) = a at ea
      generalize g[p.2.toNat]'(by omega) = b at eb
      rw [ea, eb] at hne
      simp only [Option.getD_some] at hne
      have hrs : rstep g p = g.map fun v => if v = a then b else v := by with_unfolding_all (unfold rstep; rw [ea, eb]; rfl)
      have ea' : (g.map intV1)[p.1.toNat]? = some (intV1 a) := by rw [List.getElem?_map, ea]; rfl
      have eb' : (g.map intV1)[p.2.toNat]? = some (intV1 b) := by rw [List.getElem?_map, eb]; rfl
      have q1 := hpb.1.1
      have q2 := hpb.2.1
      repeat' (first | (apply Wa; constructor) | refine Wb rfl ?_ | refine Wc rfl ?_ | refine Wd (by kernel_rfl) ?_ | refine We rfl ?_ | refine Wf rfl ?_ | refine Wg rfl (by omega) ?_ | refine Wh rfl (by omega) ?_ | refine Wi rfl rfl ?_ | ((first | apply dX rfl | apply Da rfl rfl | apply Db rfl rfl (by intro h; first | trivial | exact ⟨h, trivial⟩ | exact ⟨h, h, trivial⟩)); (focus ((try intro hg); first | exact S_ixM rfl rfl (by omega) hx | exact S_ixO rfl rfl rfl q1 (by omega) | exact S_ixO rfl rfl rfl q2 (by omega) | exact S_load_rptr rfl rfl ea' rfl | exact S_load_rptr rfl rfl eb' rfl | exact Ca rfl rfl (by constructor) (by omega) | exact Cb rfl rfl (by constructor) (by omega) | exact S_al rfl | exact S_bx rfl rfl | exact S_store rfl rfl rfl rfl rfl rfl | (apply Pu.ok; repeat' (first | rfl | exact .inK (by simp only [InK]; omega) | exact .wr | constructor | decide | omega)))); constructor) | refine Pa rfl rfl rfl rfl rfl ?_ | refine Po rfl rfl rfl rfl rfl ?_ | fail)
      have hll : (rstep g p).length = g.length := by rw [hrs, List.length_map]
      refine DW_loop (fun i : Nat => ⟨[(5, .own 13 0 0 nb), (9, .dat true (.int .i64 a)), (10, .dat true (.int .i64 b)), (24, .dat false (.slice (ps.map pairR))), (25, .dat true (.int .i64 (ps.map pairR).length)), (26, .dat true (.int .i64 k2)), (44, .dat true (.int .i64 nb)), (45, .dat true (.int .i64 i))], [(13, .row 0 false true 1 ((mix (rstep g p) g i).map intV1))], 60⟩)
        (fun i => i ≤ nb) (fun i => nb - i) 0 (Nat.zero_le _) (by rw [mix_zero]; exact Wk_g some rfl rfl (by (repeat' (first | exact trivial | rfl | exact listLe_map _ | exact ⟨_, rfl, .inl rfl⟩ | exact ⟨_, rfl, .inr (.inl rfl)⟩ | exact ⟨_, rfl, .inr (.inr rfl)⟩ | refine ⟨_, _, rfl, rfl, ?_⟩ | exact ⟨_, rfl, rfl⟩ | exact ⟨_, _, _, _, rfl, rfl, rfl⟩ | exact ⟨_, rfl⟩ | exact ⟨_, _, rfl⟩ | apply And.intro)))) (fun i hi => ?_)
      by_cases hli : i < nb
      · have hgi : g[i]? = some (g[i]'(by omega)) := List.getElem?_eq_getElem (by omega)
        generalize g[i]'(by omega) = v at hgi
        have hmg : (mix (rstep g p) g i)[(i : Int).toNat]? = some v := by rw [Int.toNat_natCast, mix_get hll]; exact hgi
        have hmg' : ((mix (rstep g p) g i).map intV1)[(i : Int).toNat]? = some (intV1 v) := by rw [List.getElem?_map, hmg]; rfl
        have hlab : (rstep g p)[i]? = some (if v = a then b else v) := by rw [hrs, List.getElem?_map, hgi]; rfl
        by_cases hv : v = a
        · rw [if_pos hv] at hlab
          have hset := mix_set hll hlab
          repeat' (first | (apply Wa; constructor) | refine Wb rfl ?_ | refine Wc rfl ?_ | refine Wd (by kernel_rfl) ?_ | refine We rfl ?_ | refine Wf rfl ?_ | refine Wg rfl (by omega) ?_ | refine Wh rfl (by omega) ?_ | refine Wi rfl rfl ?_ | ((first | apply dX rfl | apply Da rfl rfl | apply Db rfl rfl (by intro h; first | trivial | exact ⟨h, trivial⟩ | exact ⟨h, h, trivial⟩)); (focus ((try intro hg); first | exact S_ixO rfl rfl rfl (by omega) (by omega) | exact S_load_rptr rfl rfl hmg' rfl | exact S_storeM (f := intV1) (a := b) rfl rfl hmg rfl rfl (.inr ⟨rfl, inferInstance⟩) rfl rfl | exact Ca rfl rfl (by constructor) (by omega) | exact Cb rfl rfl (by constructor) (by omega) | exact S_al rfl | exact S_bx rfl rfl | exact S_store rfl rfl rfl rfl rfl rfl | (apply Pu.ok; repeat' (first | rfl | exact .inK (by simp only [InK]; omega) | exact .wr | constructor | decide | omega)))); constructor) | refine Pa rfl rfl rfl rfl rfl ?_ | refine Po rfl rfl rfl rfl rfl ?_ | fail)
          refine loop_again (i + 1) hli (by omega) ?_
          rw [← hset]
          exact Wk_g some rfl rfl (by (repeat' (first | exact trivial | rfl | exact listLe_map _ | exact ⟨_, rfl, .inl rfl⟩ | exact ⟨_, rfl, .inr (.inl rfl)⟩ | exact ⟨_, rfl, .inr (.inr rfl)⟩ | refine ⟨_, _, rfl, rfl, ?_⟩ | exact ⟨_, rfl, rfl⟩ | exact ⟨_, _, _, _, rfl, rfl, rfl⟩ | exact ⟨_, rfl⟩ | exact ⟨_, _, rfl⟩ | apply And.intro)))
        · rw [if_neg hv] at hlab
          have hset := mix_keep hll hlab hgi
          repeat' (first | (apply Wa; constructor) | refine Wb rfl ?_ | refine Wc rfl ?_ | refine Wd (by kernel_rfl) ?_ | refine We rfl ?_ | refine Wf rfl ?_ | refine Wg rfl (by omega) ?_ | refine Wh rfl (by omega) ?_ | refine Wi rfl rfl ?_ | ((first | apply dX rfl | apply Da rfl rfl | apply Db rfl rfl (by intro h; first | trivial | exact ⟨h, trivial⟩ | exact ⟨h, h, trivial⟩)); (focus ((try intro hg); first | exact S_ixO rfl rfl rfl (by omega) (by omega) | exact S_load_rptr rfl rfl hmg' rfl | exact Ca rfl rfl (by constructor) (by omega) | exact Cb rfl rfl (by constructor) (by omega) | exact S_al rfl | exact S_bx rfl rfl | exact S_store rfl rfl rfl rfl rfl rfl | (apply Pu.ok; repeat' (first | rfl | exact .inK (by simp only [InK]; omega) | exact .wr | constructor | decide | omega)))); constructor) | refine Pa rfl rfl rfl rfl rfl ?_ | refine Po rfl rfl rfl rfl rfl ?_ | fail)
          refine loop_again (i + 1) hli (by omega) ?_
          rw [hset]
          exact Wk_g some rfl rfl (by (repeat' (first | exact trivial | rfl | exact listLe_map _ | exact ⟨_, rfl, .inl rfl⟩ | exact ⟨_, rfl, .inr (.inl rfl)⟩ | exact ⟨_, rfl, .inr (.inr rfl)⟩ | refine ⟨_, _, rfl, rfl, ?_⟩ | exact ⟨_, rfl, rfl⟩ | exact ⟨_, _, _, _, rfl, rfl, rfl⟩ | exact ⟨_, rfl⟩ | exact ⟨_, _, rfl⟩ | apply And.intro)))
      · rw [mix_all hll (by omega)]
        repeat' (first | (apply Wa; constructor) | refine Wb rfl ?_ | refine Wc rfl ?_ | refine Wd (by kernel_rfl) ?_ | refine We rfl ?_ | refine Wf rfl ?_ | refine Wg rfl (by omega) ?_ | refine Wh rfl (by omega) ?_ | refine Wi rfl rfl ?_ | ((first | apply dX rfl | apply Da rfl rfl | apply Db rfl rfl (by intro h; first | trivial | exact ⟨h, trivial⟩ | exact ⟨h, h, trivial⟩)); (focus ((try intro hg); first | exact Ca rfl rfl (by constructor) (by omega) | exact Cb rfl rfl (by constructor) (by omega) | exact S_al rfl | exact S_bx rfl rfl | exact S_store rfl rfl rfl rfl rfl rfl | (apply Pu.ok; repeat' (first | rfl | exact .inK (by simp only [InK]; omega) | exact .wr | constructor | decide | omega)))); constructor) | refine Pa rfl rfl rfl rfl rfl ?_ | refine Po rfl rfl rfl rfl rfl ?_ | fail)
        exact loop_again (k2 + 1, rstep g p) ⟨hlt2, hnx⟩ (by simp only; omega) (Wk_g some rfl rfl (by (repeat' (first | exact trivial | rfl | exact listLe_map _ | exact ⟨_, rfl, .inl rfl⟩ | exact ⟨_, rfl, .inr (.inl rfl)⟩ | exact ⟨_, rfl, .inr (.inr rfl)⟩ | refine ⟨_, _, rfl, rfl, ?_⟩ | exact ⟨_, rfl, rfl⟩ | exact ⟨_, _, _, _, rfl, rfl, rfl⟩ | exact ⟨_, rfl⟩ | exact ⟨_, _, rfl⟩ | apply And.intro))))
    · repeat' (first | (apply Wa; constructor) | refine Wb rfl ?_ | refine Wc rfl ?_ | refine Wd (by kernel_rfl) ?_ | refine We rfl ?_ | refine Wf rfl ?_ | refine Wg rfl (by omega) ?_ | refine Wh rfl (by omega) ?_ | refine Wi rfl rfl ?_ | ((first | apply dX rfl | apply Da rfl rfl | apply Db rfl rfl (by intro h; first | trivial | exact ⟨h, trivial⟩ | exact ⟨h, h, trivial⟩)); (focus ((try intro hg); first | exact Ca rfl rfl (by constructor) (by omega) | exact Cb rfl rfl (by constructor) (by omega) | exact S_al rfl | exact S_bx rfl rfl | exact S_store rfl rfl rfl rfl rfl rfl | (apply Pu.ok; repeat' (first | rfl | exact .inK (by simp only [InK]; omega) | exact .wr | constructor | decide | omega)))); constructor) | refine Pa rfl rfl rfl rfl rfl ?_ | refine Po rfl rfl rfl rfl rfl ?_ | fail)
      refine ret1 rfl (by first | exact .inl rfl | exact .inr (flat_of rfl)) ?_
      rfl
end Go.Proofs.YtpgcemabkjmliaaGreat
