/- Contract: talk.mine. -/
import Derived.Test.YtfmaehhloffabaaycTlk
import Derived.Test.YtfmaehhloffabaaycTln
import Derived.Test.YtfmaehhloffabaaydTlc
namespace Go.Proofs.Ytfmaehhloffabaa
open Go.RowKit
def cellM (nw : Bool) (m : Mind) : List D := [.dat false (.int .u64 m.vec.root), .dat false (.int .i64 m.vec.cost), .dat false (.int .u64 m.vec.bridge), .dat false (.int .i64 m.vec.port), .dat false (.int .i64 m.age), .dat false (.int .i64 m.rootPort), .dat nw (.slice (m.ports.map intV1)), .dat nw (.slice (m.roles.map intV1)), .dat nw (.slice (m.calm.map intV1))]
theorem cellM_len (nw : Bool) (m : Mind) : (cellM nw m).length = 9 := rfl
def miCS (k : Nat) (l : List Mind) : List D := (l.mapIdx fun i m => cellM (decide (i < k)) m).flatten
theorem miCS_h9 {k : Nat} {l : List Mind} (i : Nat) (e : List D) (h : (l.mapIdx fun i m => cellM (decide (i < k)) m)[i]? = some e) : e.length = 9 := by
  rw [List.getElem?_mapIdx] at h
  obtain ⟨b, _, rfl⟩ := Option.map_eq_some_iff.1 h
  exact cellM_len _ b
theorem miCS_len (k : Nat) (l : List Mind) : (miCS k l).length = l.length * 9 := by
  unfold miCS
  rw [flatten_len (sz := 9) _ miCS_h9, List.length_mapIdx]
theorem miCS_get (k : Nat) (l : List Mind) (i o : Nat) (ho : o < 9) : (miCS k l)[i * 9 + o]? = (l[i]?).bind fun m => (cellM (decide (i < k)) m)[o]? := by
  unfold miCS
  rw [flatten_get (sz := 9) _ miCS_h9 i o ho, List.getElem?_mapIdx]
  cases l[i]? <;> rfl
theorem miCS_zero (l : List Mind) : (l.map Mind.cells).flatten.map (D.dat false) = miCS 0 l := by
  have e : ∀ l : List Mind, ((l.map Mind.cells).flatten).map (D.dat false) = (l.map (cellM false)).flatten := fun l => by
    induction l with
    | nil => rfl
    | cons m r ih => rw [List.map_cons, List.flatten_cons, List.map_append, ih, List.map_cons, List.flatten_cons]; rfl
  rw [e]
  unfold miCS
  congr 1
  refine List.ext_getElem? fun i => ?_
  rw [List.getElem?_map, List.getElem?_mapIdx]
  rfl
theorem miCS_take {k i : Nat} {l : List Mind} {m : Mind} (hm : l[i]? = some m) : ((miCS k l).drop (i * 9)).take 9 = cellM (decide (i < k)) m := by
  have hi := (List.getElem?_eq_some_iff.1 hm).1
  refine drop_take_get rfl (fun j hj => ?_) (by rw [miCS_len]; omega)
  rw [miCS_get k l i j hj, hm]; rfl
theorem miCS_step {k : Nat} {l : List Mind} {m : Mind} (hm : l[k]? = some m) :
    (((miCS k l).set (k * 9 + 6) (.dat true (.slice (m.ports.map intV1)))).set (k * 9 + 7) (.dat true (.slice (m.roles.map intV1)))).set (k * 9 + 8) (.dat true (.slice (m.calm.map intV1))) = miCS (k + 1) l := by
  have hk := (List.getElem?_eq_some_iff.1 hm).1
  refine List.ext_getElem? fun j => ?_
  rw [List.getElem?_set, List.getElem?_set, List.getElem?_set, List.length_set, List.length_set, miCS_len]
  have hg : ∀ o, o < 9 → (miCS (k + 1) l)[k * 9 + o]? = (cellM true m)[o]? := fun o ho => by rw [miCS_get (k + 1) l k o ho, hm, decide_eq_true (Nat.lt_succ_self k)]; rfl
  by_cases h8 : k * 9 + 8 = j
  · rw [if_pos h8, if_pos (by omega), ← h8, hg 8 (by decide)]; rfl
  by_cases h7 : k * 9 + 7 = j
  · rw [if_neg h8, if_pos h7, if_pos (by omega), ← h7, hg 7 (by decide)]; rfl
  by_cases h6 : k * 9 + 6 = j
  · rw [if_neg h8, if_neg h7, if_pos h6, if_pos (by omega), ← h6, hg 6 (by decide)]; rfl
  rw [if_neg h8, if_neg h7, if_neg h6]
  have e : j = j / 9 * 9 + j % 9 := by omega
  have h9 : j % 9 < 9 := Nat.mod_lt _ (by decide)
  rw [e, miCS_get k l _ _ h9, miCS_get (k + 1) l _ _ h9]
  cases hbj : l[j / 9]? with
  | none => rfl
  | some b1 =>
    show (cellM (decide (j / 9 < k)) b1)[j % 9]? = (cellM (decide (j / 9 < k + 1)) b1)[j % 9]?
    by_cases h1 : j / 9 = k
    · have ho : j % 9 < 6 := by omega
      generalize j % 9 = o at ho
      match o, ho with
      | 0, _ => rfl
      | 1, _ => rfl
      | 2, _ => rfl
      | 3, _ => rfl
      | 4, _ => rfl
      | 5, _ => rfl
    · have hlt : j / 9 < k ↔ j / 9 < k + 1 := by omega
      rw [decide_eq_decide.2 hlt]
theorem miCS_out {C : Cf} {m : Mem} {g : Nat} {v : Value} {l : List Mind} (hm : HoldsM C m) (hg : m.at g = .cells true true (miCS l.length l)) (h : RdS C m (.sl g l.length) v) : RdD C m (.dat true (.slice (l.map Mind.cells))) v := by
  refine rd_sl (sz := 9) (fl := true) hm hg (fun _ => rfl) _ (fun i e h => ?_) (fun i j e x h1 h2 => ?_) (by simp) h
  · rw [List.getElem?_map] at h
    obtain ⟨r, _, rfl⟩ := Option.map_eq_some_iff.1 h
    rfl
  · rw [List.getElem?_map] at h1
    obtain ⟨r, hr, rfl⟩ := Option.map_eq_some_iff.1 h1
    have hi := (List.getElem?_eq_some_iff.1 hr).1
    have hj : j < 9 := by have := (List.getElem?_eq_some_iff.1 h2).1; exact this
    rw [miCS_get _ _ _ _ hj, hr, decide_eq_true hi]
    match j, hj with
    | 0, _ => injection h2 with h2; subst h2; exact ⟨rfl, _, _, rfl, rfl, fun _ => .inr rfl⟩
    | 1, _ => injection h2 with h2; subst h2; exact ⟨rfl, _, _, rfl, rfl, fun _ => .inr rfl⟩
    | 2, _ => injection h2 with h2; subst h2; exact ⟨rfl, _, _, rfl, rfl, fun _ => .inr rfl⟩
    | 3, _ => injection h2 with h2; subst h2; exact ⟨rfl, _, _, rfl, rfl, fun _ => .inr rfl⟩
    | 4, _ => injection h2 with h2; subst h2; exact ⟨rfl, _, _, rfl, rfl, fun _ => .inr rfl⟩
    | 5, _ => injection h2 with h2; subst h2; exact ⟨rfl, _, _, rfl, rfl, fun _ => .inr rfl⟩
    | 6, _ => injection h2 with h2; subst h2; exact ⟨rfl, _, _, rfl, rfl, fun _ => .inl rfl⟩
    | 7, _ => injection h2 with h2; subst h2; exact ⟨rfl, _, _, rfl, rfl, fun _ => .inl rfl⟩
    | 8, _ => injection h2 with h2; subst h2; exact ⟨rfl, _, _, rfl, rfl, fun _ => .inl rfl⟩
theorem miCS_dat (k : Nat) (l : List Mind) : ∀ (j : Nat) d, (miCS k l)[j]? = some d → ∃ n x, d = .dat n x := fun j d h => by
  have e : j = j / 9 * 9 + j % 9 := by omega
  have h9 : j % 9 < 9 := Nat.mod_lt _ (by decide)
  rw [e, miCS_get k l _ _ h9] at h
  obtain ⟨m, hm, hd⟩ := Option.bind_eq_some_iff.1 h
  generalize j % 9 = o at h9 hd
  match o, h9 with
  | 0, _ => injection hd with hd; exact ⟨_, _, hd.symm⟩
  | 1, _ => injection hd with hd; exact ⟨_, _, hd.symm⟩
  | 2, _ => injection hd with hd; exact ⟨_, _, hd.symm⟩
  | 3, _ => injection hd with hd; exact ⟨_, _, hd.symm⟩
  | 4, _ => injection hd with hd; exact ⟨_, _, hd.symm⟩
  | 5, _ => injection hd with hd; exact ⟨_, _, hd.symm⟩
  | 6, _ => injection hd with hd; exact ⟨_, _, hd.symm⟩
  | 7, _ => injection hd with hd; exact ⟨_, _, hd.symm⟩
  | 8, _ => injection hd with hd; exact ⟨_, _, hd.symm⟩
theorem listLe_dat {s e : Mem} {ρ : Nat → Option Nat} {CS : List D} (h : ∀ (j : Nat) d, CS[j]? = some d → ∃ n x, d = .dat n x) : listLe s e ρ CS CS :=
  listLe_of rfl fun j d d' h1 h2 => by
    rw [h1] at h2
    injection h2 with h2
    subst h2
    obtain ⟨n, x, rfl⟩ := h j d h1
    exact ⟨n, rfl, .inl rfl⟩
attribute [local irreducible] SStep DW DWin DOps thenQ inBlk loopQ retQ retQG FnF FnG FnI FnM Wk IntKind.wrap IntKind.andI IntKind.orI IntKind.xorI IntKind.andNotI IntKind.shlI IntKind.shrI miCS
set_option maxHeartbeats 4000000 in
theorem talk_mine (n : Net) (h : n.good) (t : List (List Mind)) (ht : goodT n t) : FnF Try.prog 27 [talkV t] (talkV t) := by
  refine fnF_of Try.func27 rfl rfl rfl ?_
  simp only [envOf, talkV]
  have hmt : (t.map mindsRow).length = t.length := by simp
  have hnb := h.nb
  have htl := ht.l
  repeat' (first | (apply Wa; constructor) | refine Wb rfl ?_ | refine Wc rfl ?_ | refine Wd (by kernel_rfl) ?_ | refine We rfl ?_ | refine Wf rfl ?_ | refine Wg rfl (by omega) ?_ | refine Wh rfl (by omega) ?_ | refine Wi rfl rfl ?_ | ((first | apply dX rfl | apply Da rfl rfl | apply Db rfl rfl (by intro h; first | trivial | exact ⟨h, trivial⟩ | exact ⟨h, h, trivial⟩)); (focus ((try intro hg); first | exact Ca rfl rfl (by constructor) (by omega) | exact Cb rfl rfl (by constructor) (by omega) | exact S_al rfl | exact S_bx rfl rfl | exact S_store rfl rfl rfl rfl rfl rfl | (apply Pu.ok; repeat' (first | rfl | exact .inK (by simp only [InK]; omega) | exact .wr | constructor | decide | omega)))); constructor) | refine Pa rfl rfl rfl rfl rfl ?_ | refine Po rfl rfl rfl rfl rfl ?_ | fail)
  refine DW_loop (fun k : Nat => ⟨[(1, .ptr 1 0), (2, .ptr 2 0), (3, .ptr 3 0), (10, .dat false (.slice (t.map mindsRow))), (11, .dat true (.int .i64 (t.map mindsRow).length)), (12, .dat true (.int .i64 k))],
      [(1, .cells false true [.dat false (.slice (t.map mindsRow))]), (2, .cells false true [.nil]), (3, .cells false true [.own 51 k 0 (t.take k).length]), (51, .row k false true 1 ((t.take k).map mindsRow))], 55⟩)
    (fun k => k ≤ t.length) (fun k => t.length - k) 0 (Nat.zero_le _)
    (Wk_g (fun g => if g = 51 then none else some g) rfl rfl (by (repeat' (first | exact trivial | rfl | exact listLe_map _ | exact ⟨_, rfl, .inl rfl⟩ | exact ⟨_, rfl, .inr (.inl rfl)⟩ | exact ⟨_, rfl, .inr (.inr rfl)⟩ | refine ⟨_, _, rfl, rfl, ?_⟩ | exact ⟨_, rfl, rfl⟩ | exact ⟨_, _, _, _, rfl, rfl, rfl⟩ | exact ⟨_, rfl⟩ | exact ⟨_, _, rfl⟩ | apply And.intro)))) (fun k hk => ?_)
  by_cases hlt : k < t.length
  · have hx : t[(k : Int).toNat]? = some t[k] := by simp [hlt]
    have hst : t.take (k + 1) = t.take k ++ [t[k]] := by rw [List.take_add_one, List.getElem?_eq_getElem hlt]; rfl
    have htk : (t.take k).length = k := by rw [List.length_take]; omega
    obtain ⟨hl, hm⟩ := ht.m t[k] (List.getElem_mem hlt)
    generalize t[k] = l at hx hst hl hm
    generalize t.take k = us at hst htk
    have hcl := clone_mindsO l (by omega)
    by_cases hl0 : l = []
    · subst hl0
      repeat' (first | refine DW_mark 49 (bx := .row 1 false false 9 (([] : List Mind).map Mind.cells)) rfl ?_ | (apply Wa; constructor) | refine Wb rfl ?_ | refine Wc rfl ?_ | refine Wd (by kernel_rfl) ?_ | refine We rfl ?_ | refine Wf rfl ?_ | refine Wg rfl (by omega) ?_ | refine Wh rfl (by omega) ?_ | refine Wi rfl rfl ?_ | (apply dt rfl; case h => first | exact S_callG0 49 hcl rfl rfl (.own _ _)) | ((first | apply dX rfl | apply Da rfl rfl | apply Db rfl rfl (by intro h; first | trivial | exact ⟨h, trivial⟩ | exact ⟨h, h, trivial⟩)); (focus ((try intro hg); first | exact S_ixM rfl rfl (by omega) hx | exact S_callG0 49 hcl rfl rfl (.own _ _) | exact Ca rfl rfl (by constructor) (by omega) | exact Cb rfl rfl (by constructor) (by omega) | exact S_al rfl | exact S_bx rfl rfl | exact S_store rfl rfl rfl rfl rfl rfl | (apply Pu.ok; repeat' (first | rfl | exact .inK (by simp only [InK]; omega) | exact .wr | constructor | decide | omega)))); constructor) | refine Pa rfl rfl rfl rfl rfl ?_ | refine Po rfl rfl rfl rfl rfl ?_ | fail)
      intro _
      repeat' (first | (apply Wa; constructor) | refine Wb rfl ?_ | refine Wc rfl ?_ | refine Wd (by kernel_rfl) ?_ | refine We rfl ?_ | refine Wf rfl ?_ | refine Wg rfl (by omega) ?_ | refine Wh rfl (by omega) ?_ | refine Wi rfl rfl ?_ | ((first | apply dX rfl | apply Da rfl rfl | apply Db rfl rfl (by intro h; first | trivial | exact ⟨h, trivial⟩ | exact ⟨h, h, trivial⟩)); (focus ((try intro hg); first | exact Ca rfl rfl (by constructor) (by omega) | exact Cb rfl rfl (by constructor) (by omega) | exact S_al rfl | exact S_bx rfl rfl | exact S_store rfl rfl rfl rfl rfl rfl | (apply Pu.ok; repeat' (first | rfl | exact .inK (by simp only [InK]; omega) | exact .wr | constructor | decide | omega)))); constructor) | refine Pa rfl rfl rfl rfl rfl ?_ | refine Po rfl rfl rfl rfl rfl ?_ | fail)
      refine DW_loop (fun _ : Unit => ⟨[(1, .ptr 1 0), (2, .ptr 2 0), (3, .ptr 3 0), (10, .dat false (.slice (t.map mindsRow))), (11, .dat true (.int .i64 (t.map mindsRow).length)), (12, .dat true (.int .i64 k)), (6, .own 49 0 0 0), (19, .dat true (.int .i64 0)), (20, .dat true (.int .i64 0))], [(1, .cells false true [.dat false (.slice (t.map mindsRow))]), (2, .cells false true [.nil]), (3, .cells false true [.own 51 k 0 us.length]), (51, .row k false true 1 (us.map mindsRow)), (49, .row 0 false false 9 (([] : List Mind).map Mind.cells))], 55⟩)
        (fun _ => True) (fun _ => 0) () trivial (Wk_g some rfl rfl (by (repeat' (first | exact ownLe2 rfl rfl rfl | exact trivial | rfl | exact listLe_map _ | exact ⟨_, rfl, .inl rfl⟩ | exact ⟨_, rfl, .inr (.inl rfl)⟩ | exact ⟨_, rfl, .inr (.inr rfl)⟩ | refine ⟨_, _, rfl, rfl, ?_⟩ | exact ⟨_, rfl, rfl⟩ | exact ⟨_, _, _, _, rfl, rfl, rfl⟩ | exact ⟨_, rfl⟩ | exact ⟨_, _, rfl⟩ | apply And.intro)))) (fun _ _ => ?_)
      refine DW_freeze 49 (fun _ _ _ h => by cases h) ?_
      refine DW_slot 6 (.dat true (.slice (([] : List Mind).map Mind.cells))) (fun C v hm hd => RdF.flat (asV_ok hm (fun _ _ => rfl) (show asV _ (.own 49 0 0 0) = some (false, .slice []) from rfl) hd) .nil) ?_
      repeat' (first | (apply Wa; constructor) | refine Wb rfl ?_ | refine Wc rfl ?_ | refine Wd (by kernel_rfl) ?_ | refine We rfl ?_ | refine Wf rfl ?_ | refine Wg rfl (by omega) ?_ | refine Wh rfl (by omega) ?_ | refine Wi rfl rfl ?_ | ((first | apply dX rfl | apply Da rfl rfl | apply Db rfl rfl (by intro h; first | trivial | exact ⟨h, trivial⟩ | exact ⟨h, h, trivial⟩)); (focus ((try intro hg); first | exact S_appM (f := mindsRow) (us := us) (bs := [[]]) rfl rfl (.dat _ _) rfl rfl (.inl rfl) rfl (by simp only [List.length_singleton]; omega) | exact Ca rfl rfl (by constructor) (by omega) | exact Cb rfl rfl (by constructor) (by omega) | exact S_al rfl | exact S_bx rfl rfl | exact S_store rfl rfl rfl rfl rfl rfl | (apply Pu.ok; repeat' (first | rfl | exact .inK (by simp only [InK]; omega) | exact .wr | constructor | decide | omega)))); constructor) | refine Pa rfl rfl rfl rfl rfl ?_ | refine Po rfl rfl rfl rfl rfl ?_ | fail)
      refine loop_again (k + 1) hlt (by omega) ?_
      rw [hst]
      exact Wk_g some rfl rfl (by (repeat' (first | exact ownLe2 rfl rfl rfl | exact trivial | rfl | exact listLe_map _ | exact ⟨_, rfl, .inl rfl⟩ | exact ⟨_, rfl, .inr (.inl rfl)⟩ | exact ⟨_, rfl, .inr (.inr rfl)⟩ | refine ⟨_, _, rfl, rfl, ?_⟩ | exact ⟨_, rfl, rfl⟩ | exact ⟨_, _, _, _, rfl, rfl, rfl⟩ | exact ⟨_, rfl⟩ | exact ⟨_, _, rfl⟩ | apply And.intro)))
    · repeat' (first | refine DW_mark 49 (bx := .row 1 false false 9 (l.map Mind.cells)) rfl ?_ | (apply Wa; constructor) | refine Wb rfl ?_ | refine Wc rfl ?_ | refine Wd (by kernel_rfl) ?_ | refine We rfl ?_ | refine Wf rfl ?_ | refine Wg rfl (by omega) ?_ | refine Wh rfl (by omega) ?_ | refine Wi rfl rfl ?_ | (apply dt rfl; case h => first | exact S_callG0 49 hcl rfl rfl (.own _ _)) | ((first | apply dX rfl | apply Da rfl rfl | apply Db rfl rfl (by intro h; first | trivial | exact ⟨h, trivial⟩ | exact ⟨h, h, trivial⟩)); (focus ((try intro hg); first | exact S_ixM rfl rfl (by omega) hx | exact S_callG0 49 hcl rfl rfl (.own _ _) | exact Ca rfl rfl (by constructor) (by omega) | exact Cb rfl rfl (by constructor) (by omega) | exact S_al rfl | exact S_bx rfl rfl | exact S_store rfl rfl rfl rfl rfl rfl | (apply Pu.ok; repeat' (first | rfl | exact .inK (by simp only [InK]; omega) | exact .wr | constructor | decide | omega)))); constructor) | refine Pa rfl rfl rfl rfl rfl ?_ | refine Po rfl rfl rfl rfl rfl ?_ | fail)
      intro _
      refine DW_cellsOfN 49 rfl (by decide) (by simpa using hl0) ?_
      rw [miCS_zero]
      refine DW_weak (s' := ⟨[(1, .ptr 1 0), (2, .ptr 2 0), (3, .ptr 3 0), (10, .dat false (.slice (t.map mindsRow))), (11, .dat true (.int .i64 (t.map mindsRow).length)), (12, .dat true (.int .i64 k)), (6, .sl 49 l.length)], [(1, .cells false true [.dat false (.slice (t.map mindsRow))]), (2, .cells false true [.nil]), (3, .cells false true [.own 51 k 0 us.length]), (51, .row k false true 1 (us.map mindsRow)), (49, .cells false true (miCS 0 l))], 55⟩) (Wk_g some rfl rfl ⟨⟨⟨_, _, rfl, rfl, by (repeat' (first | exact ownLe2 rfl rfl rfl | exact trivial | rfl | exact listLe_map _ | exact ⟨_, rfl, .inl rfl⟩ | exact ⟨_, rfl, .inr (.inl rfl)⟩ | exact ⟨_, rfl, .inr (.inr rfl)⟩ | refine ⟨_, _, rfl, rfl, ?_⟩ | exact ⟨_, rfl, rfl⟩ | exact ⟨_, _, _, _, rfl, rfl, rfl⟩ | exact ⟨_, rfl⟩ | exact ⟨_, _, rfl⟩ | apply And.intro))⟩, ⟨_, _, rfl, rfl, by (repeat' (first | exact ownLe2 rfl rfl rfl | exact trivial | rfl | exact listLe_map _ | exact ⟨_, rfl, .inl rfl⟩ | exact ⟨_, rfl, .inr (.inl rfl)⟩ | exact ⟨_, rfl, .inr (.inr rfl)⟩ | refine ⟨_, _, rfl, rfl, ?_⟩ | exact ⟨_, rfl, rfl⟩ | exact ⟨_, _, _, _, rfl, rfl, rfl⟩ | exact ⟨_, rfl⟩ | exact ⟨_, _, rfl⟩ | apply And.intro))⟩, ⟨_, _, rfl, rfl, by (repeat' (first | exact ownLe2 rfl rfl rfl | exact trivial | rfl | exact listLe_map _ | exact ⟨_, rfl, .inl rfl⟩ | exact ⟨_, rfl, .inr (.inl rfl)⟩ | exact ⟨_, rfl, .inr (.inr rfl)⟩ | refine ⟨_, _, rfl, rfl, ?_⟩ | exact ⟨_, rfl, rfl⟩ | exact ⟨_, _, _, _, rfl, rfl, rfl⟩ | exact ⟨_, rfl⟩ | exact ⟨_, _, rfl⟩ | apply And.intro))⟩, ⟨_, rfl⟩, ⟨_, _, rfl, rfl, listLe_dat (miCS_dat 0 l)⟩, trivial⟩, by (repeat' (first | exact ownLe2 rfl rfl rfl | exact trivial | rfl | exact listLe_map _ | exact ⟨_, rfl, .inl rfl⟩ | exact ⟨_, rfl, .inr (.inl rfl)⟩ | exact ⟨_, rfl, .inr (.inr rfl)⟩ | refine ⟨_, _, rfl, rfl, ?_⟩ | exact ⟨_, rfl, rfl⟩ | exact ⟨_, _, _, _, rfl, rfl, rfl⟩ | exact ⟨_, rfl⟩ | exact ⟨_, _, rfl⟩ | apply And.intro))⟩) ?_
      repeat' (first | (apply Wa; constructor) | refine Wb rfl ?_ | refine Wc rfl ?_ | refine Wd (by kernel_rfl) ?_ | refine We rfl ?_ | refine Wf rfl ?_ | refine Wi rfl rfl ?_ | ((first | apply dX rfl | apply Da rfl rfl | apply Db rfl rfl (by intro h; first | trivial | exact ⟨h, trivial⟩ | exact ⟨h, h, trivial⟩)); (focus ((try intro hg); first | exact S_len_sl rfl | exact S_al rfl | exact S_bx rfl rfl | exact S_store rfl rfl rfl rfl rfl rfl | (apply Pu.ok; repeat' (first | rfl | exact .inK (by simp only [InK]; omega) | exact .wr | constructor | decide | omega)))); constructor) | refine Pa rfl rfl rfl rfl rfl ?_ | refine Po rfl rfl rfl rfl rfl ?_ | fail)
      refine DW_loop (fun i : Nat => ⟨[(1, .ptr 1 0), (2, .ptr 2 0), (3, .ptr 3 0), (10, .dat false (.slice (t.map mindsRow))), (11, .dat true (.int .i64 (t.map mindsRow).length)), (12, .dat true (.int .i64 k)), (6, .sl 49 l.length), (18, .sl 49 l.length), (19, .dat true (.int .i64 l.length)), (20, .dat true (.int .i64 i))], [(1, .cells false true [.dat false (.slice (t.map mindsRow))]), (2, .cells false true [.nil]), (3, .cells false true [.own 51 k 0 us.length]), (51, .row k false true 1 (us.map mindsRow)), (49, .cells false true (miCS i l))], 55⟩)
        (fun i => i ≤ l.length) (fun i => l.length - i) 0 (Nat.zero_le _)
        (Wk_g some rfl rfl ⟨⟨⟨_, _, rfl, rfl, by (repeat' (first | exact ownLe2 rfl rfl rfl | exact trivial | rfl | exact listLe_map _ | exact ⟨_, rfl, .inl rfl⟩ | exact ⟨_, rfl, .inr (.inl rfl)⟩ | exact ⟨_, rfl, .inr (.inr rfl)⟩ | refine ⟨_, _, rfl, rfl, ?_⟩ | exact ⟨_, rfl, rfl⟩ | exact ⟨_, _, _, _, rfl, rfl, rfl⟩ | exact ⟨_, rfl⟩ | exact ⟨_, _, rfl⟩ | apply And.intro))⟩, ⟨_, _, rfl, rfl, by (repeat' (first | exact ownLe2 rfl rfl rfl | exact trivial | rfl | exact listLe_map _ | exact ⟨_, rfl, .inl rfl⟩ | exact ⟨_, rfl, .inr (.inl rfl)⟩ | exact ⟨_, rfl, .inr (.inr rfl)⟩ | refine ⟨_, _, rfl, rfl, ?_⟩ | exact ⟨_, rfl, rfl⟩ | exact ⟨_, _, _, _, rfl, rfl, rfl⟩ | exact ⟨_, rfl⟩ | exact ⟨_, _, rfl⟩ | apply And.intro))⟩, ⟨_, _, rfl, rfl, by (repeat' (first | exact ownLe2 rfl rfl rfl | exact trivial | rfl | exact listLe_map _ | exact ⟨_, rfl, .inl rfl⟩ | exact ⟨_, rfl, .inr (.inl rfl)⟩ | exact ⟨_, rfl, .inr (.inr rfl)⟩ | refine ⟨_, _, rfl, rfl, ?_⟩ | exact ⟨_, rfl, rfl⟩ | exact ⟨_, _, _, _, rfl, rfl, rfl⟩ | exact ⟨_, rfl⟩ | exact ⟨_, _, rfl⟩ | apply And.intro))⟩, ⟨_, rfl⟩, ⟨_, _, rfl, rfl, listLe_dat (miCS_dat 0 l)⟩, trivial⟩, by (repeat' (first | exact ownLe2 rfl rfl rfl | exact trivial | rfl | exact listLe_map _ | exact ⟨_, rfl, .inl rfl⟩ | exact ⟨_, rfl, .inr (.inl rfl)⟩ | exact ⟨_, rfl, .inr (.inr rfl)⟩ | refine ⟨_, _, rfl, rfl, ?_⟩ | exact ⟨_, rfl, rfl⟩ | exact ⟨_, _, _, _, rfl, rfl, rfl⟩ | exact ⟨_, rfl⟩ | exact ⟨_, _, rfl⟩ | apply And.intro))⟩) (fun i hi => ?_)
      by_cases hli : i < l.length
      · have hy : l[i]? = some l[i] := by simp [hli]
        have hgm := hm i l[i] hy
        have htk' := miCS_take (k := i) hy
        rw [decide_eq_false (Nat.lt_irrefl i)] at htk'
        have hs3 := miCS_step hy
        have hbl := miCS_len i l
        generalize l[i] = m at hy hgm htk' hs3
        have hc1 := clone_intsF m.ports (by rw [hgm.p]; have := rawP_len n.links i; rw [portsOf_eq]; unfold sortI; rw [List.length_mergeSort]; have := h.nl; omega)
        have hc2 := clone_intsF m.roles (by rw [hgm.r]; have := rawP_len n.links i; rw [portsOf_eq]; unfold sortI; rw [List.length_mergeSort]; have := h.nl; omega)
        have hc3 := clone_intsF m.calm (by rw [hgm.c]; have := rawP_len n.links i; rw [portsOf_eq]; unfold sortI; rw [List.length_mergeSort]; have := h.nl; omega)
        have b1 : Nat.ble (((i : Nat) : Int).toNat * 9 + 6 + 1) (miCS i l).length = true := Nat.ble_eq_true_of_le (by rw [hbl, Int.toNat_natCast]; omega)
        have s1 : splice (miCS i l) (((i : Nat) : Int).toNat * 9 + 6) [.dat true (.slice (m.ports.map intV1))] = (miCS i l).set (i * 9 + 6) (.dat true (.slice (m.ports.map intV1))) := by
          rw [Int.toNat_natCast]; exact splice_set (by rw [hbl]; omega)
        have b2 : Nat.ble (((i : Nat) : Int).toNat * 9 + 7 + 1) (splice (miCS i l) (((i : Nat) : Int).toNat * 9 + 6) [.dat true (.slice (m.ports.map intV1))]).length = true := Nat.ble_eq_true_of_le (by rw [s1, List.length_set, hbl, Int.toNat_natCast]; omega)
        have s2 : splice (splice (miCS i l) (((i : Nat) : Int).toNat * 9 + 6) [.dat true (.slice (m.ports.map intV1))]) (((i : Nat) : Int).toNat * 9 + 7) [.dat true (.slice (m.roles.map intV1))] = ((miCS i l).set (i * 9 + 6) (.dat true (.slice (m.ports.map intV1)))).set (i * 9 + 7) (.dat true (.slice (m.roles.map intV1))) := by
          rw [s1, Int.toNat_natCast]; exact splice_set (by rw [List.length_set, hbl]; omega)
        have b3 : Nat.ble (((i : Nat) : Int).toNat * 9 + 8 + 1) (splice (splice (miCS i l) (((i : Nat) : Int).toNat * 9 + 6) [.dat true (.slice (m.ports.map intV1))]) (((i : Nat) : Int).toNat * 9 + 7) [.dat true (.slice (m.roles.map intV1))]).length = true := Nat.ble_eq_true_of_le (by rw [s2, List.length_set, List.length_set, hbl, Int.toNat_natCast]; omega)
        have s3 : splice (splice (splice (miCS i l) (((i : Nat) : Int).toNat * 9 + 6) [.dat true (.slice (m.ports.map intV1))]) (((i : Nat) : Int).toNat * 9 + 7) [.dat true (.slice (m.roles.map intV1))]) (((i : Nat) : Int).toNat * 9 + 8) [.dat true (.slice (m.calm.map intV1))] = miCS (i + 1) l := by
          rw [s2, Int.toNat_natCast, ← hs3]; exact splice_set (by rw [List.length_set, List.length_set, hbl]; omega)
        repeat' (first | (apply Wa; constructor) | refine Wb rfl ?_ | refine Wc rfl ?_ | refine Wd (by kernel_rfl) ?_ | refine We rfl ?_ | refine Wf rfl ?_ | refine Wg rfl (by omega) ?_ | refine Wh rfl (by omega) ?_ | refine Wi rfl rfl ?_ | ((first | apply dX rfl | apply Da rfl rfl | apply Db rfl rfl (by intro h; first | trivial | exact ⟨h, trivial⟩ | exact ⟨h, h, trivial⟩)); (focus ((try intro hg); first | exact S_ix_sl rfl rfl (by omega) (by omega) | exact S_loadC rfl rfl htk' (by rw [hbl]; simp only [Int.toNat_natCast]; omega) | exact S_call hc1 rfl | exact S_call hc2 rfl | exact S_call hc3 rfl | exact S_store rfl rfl rfl rfl rfl b1 | exact S_store rfl rfl rfl rfl rfl b2 | exact S_store rfl rfl rfl rfl rfl b3 | exact Ca rfl rfl (by constructor) (by omega) | exact Cb rfl rfl (by constructor) (by omega) | exact S_al rfl | exact S_bx rfl rfl | exact S_store rfl rfl rfl rfl rfl rfl | (apply Pu.ok; repeat' (first | rfl | exact .inK (by simp only [InK]; omega) | exact .wr | constructor | decide | omega)))); constructor) | refine Pa rfl rfl rfl rfl rfl ?_ | refine Po rfl rfl rfl rfl rfl ?_ | fail)
        refine loop_again (i + 1) hli (by omega) ?_
        rw [s3]
        exact (Wk_g some rfl rfl ⟨⟨⟨_, _, rfl, rfl, by (repeat' (first | exact ownLe2 rfl rfl rfl | exact trivial | rfl | exact listLe_map _ | exact ⟨_, rfl, .inl rfl⟩ | exact ⟨_, rfl, .inr (.inl rfl)⟩ | exact ⟨_, rfl, .inr (.inr rfl)⟩ | refine ⟨_, _, rfl, rfl, ?_⟩ | exact ⟨_, rfl, rfl⟩ | exact ⟨_, _, _, _, rfl, rfl, rfl⟩ | exact ⟨_, rfl⟩ | exact ⟨_, _, rfl⟩ | apply And.intro))⟩, ⟨_, _, rfl, rfl, by (repeat' (first | exact ownLe2 rfl rfl rfl | exact trivial | rfl | exact listLe_map _ | exact ⟨_, rfl, .inl rfl⟩ | exact ⟨_, rfl, .inr (.inl rfl)⟩ | exact ⟨_, rfl, .inr (.inr rfl)⟩ | refine ⟨_, _, rfl, rfl, ?_⟩ | exact ⟨_, rfl, rfl⟩ | exact ⟨_, _, _, _, rfl, rfl, rfl⟩ | exact ⟨_, rfl⟩ | exact ⟨_, _, rfl⟩ | apply And.intro))⟩, ⟨_, _, rfl, rfl, by (repeat' (first | exact ownLe2 rfl rfl rfl | exact trivial | rfl | exact listLe_map _ | exact ⟨_, rfl, .inl rfl⟩ | exact ⟨_, rfl, .inr (.inl rfl)⟩ | exact ⟨_, rfl, .inr (.inr rfl)⟩ | refine ⟨_, _, rfl, rfl, ?_⟩ | exact ⟨_, rfl, rfl⟩ | exact ⟨_, _, _, _, rfl, rfl, rfl⟩ | exact ⟨_, rfl⟩ | exact ⟨_, _, rfl⟩ | apply And.intro))⟩, ⟨_, rfl⟩, ⟨_, _, rfl, rfl, listLe_dat (miCS_dat _ l)⟩, trivial⟩, by (repeat' (first | exact ownLe2 rfl rfl rfl | exact trivial | rfl | exact listLe_map _ | exact ⟨_, rfl, .inl rfl⟩ | exact ⟨_, rfl, .inr (.inl rfl)⟩ | exact ⟨_, rfl, .inr (.inr rfl)⟩ | refine ⟨_, _, rfl, rfl, ?_⟩ | exact ⟨_, rfl, rfl⟩ | exact ⟨_, _, _, _, rfl, rfl, rfl⟩ | exact ⟨_, rfl⟩ | exact ⟨_, _, rfl⟩ | apply And.intro))⟩)
      · have he : i = l.length := by omega
        subst he
        refine DW_freeze 49 (fun _ _ _ h => by cases h) ?_
        refine DW_slot 6 (.dat true (.slice (l.map Mind.cells))) (fun C v hm hd => miCS_out hm rfl hd) ?_
        repeat' (first | (apply Wa; constructor) | refine Wb rfl ?_ | refine Wc rfl ?_ | refine Wd (by kernel_rfl) ?_ | refine We rfl ?_ | refine Wf rfl ?_ | refine Wg rfl (by omega) ?_ | refine Wh rfl (by omega) ?_ | refine Wi rfl rfl ?_ | ((first | apply dX rfl | apply Da rfl rfl | apply Db rfl rfl (by intro h; first | trivial | exact ⟨h, trivial⟩ | exact ⟨h, h, trivial⟩)); (focus ((try intro hg); first | exact S_appM (f := mindsRow) (us := us) (bs := [l]) rfl rfl (.dat _ _) rfl rfl (.inl rfl) rfl (by simp only [List.length_singleton]; omega) | exact Ca rfl rfl (by constructor) (by omega) | exact Cb rfl rfl (by constructor) (by omega) | exact S_al rfl | exact S_bx rfl rfl | exact S_store rfl rfl rfl rfl rfl rfl | (apply Pu.ok; repeat' (first | rfl | exact .inK (by simp only [InK]; omega) | exact .wr | constructor | decide | omega)))); constructor) | refine Pa rfl rfl rfl rfl rfl ?_ | refine Po rfl rfl rfl rfl rfl ?_ | fail)
        refine loop_again (k + 1) hlt (by omega) ?_
        rw [hst]
        exact Wk_g some rfl rfl (by (repeat' (first | exact ownLe2 rfl rfl rfl | exact trivial | rfl | exact listLe_map _ | exact ⟨_, rfl, .inl rfl⟩ | exact ⟨_, rfl, .inr (.inl rfl)⟩ | exact ⟨_, rfl, .inr (.inr rfl)⟩ | refine ⟨_, _, rfl, rfl, ?_⟩ | exact ⟨_, rfl, rfl⟩ | exact ⟨_, _, _, _, rfl, rfl, rfl⟩ | exact ⟨_, rfl⟩ | exact ⟨_, _, rfl⟩ | apply And.intro)))
  · have he : t.take k = t := List.take_of_length_le (by omega)
    rw [he]
    refine DW_weak (s' := ⟨[(2, .ptr 2 0), (3, .ptr 3 0), (11, .dat true (.int .i64 (t.map mindsRow).length)), (12, .dat true (.int .i64 k))],
      [(2, .cells false true [.nil]), (3, .cells false true [.own 51 0 0 t.length]), (51, .row 0 false true 1 (t.map mindsRow))], 55⟩) (Wk_g some rfl rfl (by (repeat' (first | exact ownLe2 rfl rfl rfl | exact trivial | rfl | exact listLe_map _ | exact ⟨_, rfl, .inl rfl⟩ | exact ⟨_, rfl, .inr (.inl rfl)⟩ | exact ⟨_, rfl, .inr (.inr rfl)⟩ | refine ⟨_, _, rfl, rfl, ?_⟩ | exact ⟨_, rfl, rfl⟩ | exact ⟨_, _, _, _, rfl, rfl, rfl⟩ | exact ⟨_, rfl⟩ | exact ⟨_, _, rfl⟩ | apply And.intro)))) ?_
    refine DW_freeze 51 (fun _ _ _ h => by cases h) ?_
    repeat' (first | (apply Wa; constructor) | refine Wb rfl ?_ | refine Wc rfl ?_ | refine Wd (by kernel_rfl) ?_ | refine We rfl ?_ | refine Wf rfl ?_ | refine Wg rfl (by omega) ?_ | refine Wh rfl (by omega) ?_ | refine Wi rfl rfl ?_ | ((first | apply dX rfl | apply Da rfl rfl | apply Db rfl rfl (by intro h; first | trivial | exact ⟨h, trivial⟩ | exact ⟨h, h, trivial⟩)); (focus ((try intro hg); first | exact Ca rfl rfl (by constructor) (by omega) | exact Cb rfl rfl (by constructor) (by omega) | exact S_al rfl | exact S_bx rfl rfl | exact S_store rfl rfl rfl rfl rfl rfl | (apply Pu.ok; repeat' (first | rfl | exact .inK (by simp only [InK]; omega) | exact .wr | constructor | decide | omega)))); constructor) | refine Pa rfl rfl rfl rfl rfl ?_ | refine Po rfl rfl rfl rfl rfl ?_ | fail)
    refine retN (.cellA inferInstance rfl rfl rfl rfl (by first | exact .inl rfl | exact .inr (flat_of rfl)) .nil) ?_
    show V.agg [V.slice (List.take _ (List.drop 0 _))] = _
    rw [List.drop_zero, List.take_of_length_le (by simp)]
end Go.Proofs.Ytfmaehhloffabaa
