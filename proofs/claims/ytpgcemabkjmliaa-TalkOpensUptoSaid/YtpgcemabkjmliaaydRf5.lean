/- Contracts: the document's Better, Compare, Over, Sorted, Same, Role, Choose; vec.Best. -/
import Derived.Test.YtpgcemabkjmliaaydTlw
import Derived.Test.YtpgcemabkjmliaaycTlk
import Derived.Test.YtpgcemabkjmliaaydPlN
import Derived.Test.YtpgcemabkjmliaaybLnd
import Derived.Test.YtpgcemabkjmliaaybNst
import Derived.Test.YtpgcemabkjmliaayeChoose
namespace Go.Proofs.Ytpgcemabkjmliaa
open Go.RowKit
theorem startA_cases (n : Net) (trees : Int) : ((startA n trees).2.1 ≠ 0 ∧ (startA n trees).1 = []) ∨ (n.wrong.1 = 0 ∧ 1 ≤ trees ∧ trees ≤ 4 ∧ startA n trees = (start0 n trees.toNat, (0, 0))) := by
  unfold startA
  by_cases h0 : n.wrong.1 ≠ 0
  · rw [if_pos h0]; exact .inl ⟨h0, rfl⟩
  · rw [if_neg h0]
    by_cases h1 : trees < 1 ∨ 4 < trees
    · rw [if_pos h1]; exact .inl ⟨by decide, rfl⟩
    · rw [if_neg h1]; exact .inr ⟨Decidable.not_not.1 h0, by omega, by omega, rfl⟩
theorem playA_cases {n : Net} (ht : n.typed) (trees : Int) (l : List Doing) : (∃ f, playA n trees l = (none, f) ∧ f.1 ≠ 0) ∨ (n.good ∧ n.wrong.1 = 0 ∧ 1 ≤ trees ∧ trees ≤ 4 ∧ l.length ≤ 30 ∧ ∃ r, onLoop 0 l n (start0 n trees.toNat) = (some r, (0, 0)) ∧ playA n trees l = (some r, (0, 0))) := by
  unfold playA
  rcases startA_cases n trees with ⟨h1, _⟩ | ⟨h0, h1, h2, he⟩
  · rw [if_pos h1]; exact .inl ⟨_, rfl, h1⟩
  · rw [he]
    simp only [ne_eq, not_true_eq_false, if_false]
    unfold onA
    rw [if_neg (by omega)]
    by_cases hl : 30 < l.length
    · rw [if_pos hl]; exact .inl ⟨_, rfl, by decide⟩
    · rw [if_neg hl]
      have hg := ((Net.wrong_iff ht).1 h0).1
      have key := onLoop_good l 0 n (start0 n trees.toNat) hg (start0_good (by omega))
      have bad := onLoop_bad l 0 n (start0 n trees.toNat)
      generalize onLoop 0 l n (start0 n trees.toNat) = r at key bad
      obtain ⟨r, f⟩ := r
      cases r with
      | none => exact .inl ⟨f, rfl, bad rfl⟩
      | some r =>
        have := (key r rfl).2.2.2.2
        simp only at this
        subst this
        exact .inr ⟨hg, h0, h1, h2, by omega, r, rfl, rfl⟩
theorem net_typed {n m : Net} (ht : n.typed) (k : Kin n m) : m.typed where
  ad b hb := by
    obtain ⟨i, hi, hx⟩ := List.mem_iff_getElem.1 hb
    have e : (m.bridges.map keyB)[i]? = some (keyB b) := by rw [List.getElem?_map, List.getElem?_eq_getElem hi, hx]; rfl
    rw [k.br, List.getElem?_map] at e
    obtain ⟨c, hc, he⟩ := Option.map_eq_some_iff.1 e
    have := ht.ad c (List.mem_of_getElem? hc)
    unfold keyB at he
    injection he with he1 he2
    omega
  wy b hb := by
    obtain ⟨i, hi, hx⟩ := List.mem_iff_getElem.1 hb
    have e : (m.bridges.map keyB)[i]? = some (keyB b) := by rw [List.getElem?_map, List.getElem?_eq_getElem hi, hx]; rfl
    rw [k.br, List.getElem?_map] at e
    obtain ⟨c, hc, he⟩ := Option.map_eq_some_iff.1 e
    have := ht.wy c (List.mem_of_getElem? hc)
    unfold keyB at he
    injection he with he1 he2
    rw [← he2]; exact this
theorem wrong_kin {n m : Net} (ht : n.typed) (h0 : n.wrong.1 = 0) (k : Kin n m) (hg : m.good) : m.wrong.1 = 0 := by
  refine (Net.wrong_iff (net_typed ht k)).2 ⟨hg, fun b hb => ?_⟩
  obtain ⟨i, hi, hx⟩ := List.mem_iff_getElem.1 hb
  have e : (m.bridges.map keyB)[i]? = some (keyB b) := by rw [List.getElem?_map, List.getElem?_eq_getElem hi, hx]; rfl
  rw [k.br, List.getElem?_map] at e
  obtain ⟨c, hc, he⟩ := Option.map_eq_some_iff.1 e
  have := ((Net.wrong_iff ht).1 h0).2 c (List.mem_of_getElem? hc)
  unfold keyB at he
  injection he with he1 he2
  rw [← he2]; exact this
attribute [local irreducible] SStep DW DWin DOps thenQ inBlk loopQ retQ retQG FnF FnG FnI FnM Wk IntKind.wrap IntKind.andI IntKind.orI IntKind.xorI IntKind.andNotI IntKind.shlI IntKind.shrI Net.wrong onA startA
set_option maxHeartbeats 4000000 in
theorem talk_Play (n : Net) (ht : n.typed) (trees : Int) (l : List Doing) : FnF Try.prog 11 [n.v, .int .i64 trees, .slice (l.map Doing.cells)] (onV (playA n trees l)) := by
  refine fnF_of Try.func11 rfl rfl rfl ?_
  simp only [envOf]
  have hs := talk_Start n ht trees
  unfold playA
  rcases startA_cases n trees with ⟨h1, h2⟩ | ⟨h0, h1, h2, he⟩
  · rw [if_pos h1]
    rw [h2] at hs
    generalize (startA n trees).2 = f at hs h1 ⊢
    obtain ⟨e, i⟩ := f
    simp only at h1
    repeat' (first | (apply Wa; constructor) | refine Wb rfl ?_ | refine Wc rfl ?_ | refine Wd (by kernel_rfl) ?_ | refine We rfl ?_ | refine Wf rfl ?_ | refine Wg rfl (by omega) ?_ | refine Wh rfl (by omega) ?_ | refine Wi rfl rfl ?_ | ((first | apply dX rfl | apply Da rfl rfl | apply Db rfl rfl (by intro h; first | trivial | exact ⟨h, trivial⟩ | exact ⟨h, h, trivial⟩)); (focus ((try intro hg); first | exact S_call hs rfl | exact Ca rfl rfl (by constructor) (by omega) | exact Cb rfl rfl (by constructor) (by omega) | exact S_al rfl | exact S_bx rfl rfl | exact S_store rfl rfl rfl rfl rfl rfl | (apply Pu.ok; repeat' (first | rfl | exact .inK (by simp only [InK]; omega) | exact .wr | constructor | decide | omega)))); constructor) | refine Pa rfl rfl rfl rfl rfl ?_ | refine Po rfl rfl rfl rfl rfl ?_ | fail)
    refine retN (.cellA inferInstance rfl rfl rfl rfl (by first | exact .inl rfl | exact .inr (flat_of rfl)) (.cellA inferInstance rfl rfl rfl rfl (by first | exact .inl rfl | exact .inr (flat_of rfl)) (.cellA inferInstance rfl rfl rfl rfl (by first | exact .inl rfl | exact .inr (flat_of rfl)) .nil))) ?_
    rfl
  · rw [he] at hs ⊢
    have hon := talk_On n ht (start0 n trees.toNat) (fun _ => ⟨start0_good (by omega), by simp [start0]; omega⟩) l
    simp only at hs
    simp only [ne_eq, not_true_eq_false, if_false]
    generalize onA n (start0 n trees.toNat) l = r at hon ⊢
    obtain ⟨o, f⟩ := r
    cases o with
    | none =>
      repeat' (first | (apply Wa; constructor) | refine Wb rfl ?_ | refine Wc rfl ?_ | refine Wd (by kernel_rfl) ?_ | refine We rfl ?_ | refine Wf rfl ?_ | refine Wg rfl (by omega) ?_ | refine Wh rfl (by omega) ?_ | refine Wi rfl rfl ?_ | ((first | apply dX rfl | apply Da rfl rfl | apply Db rfl rfl (by intro h; first | trivial | exact ⟨h, trivial⟩ | exact ⟨h, h, trivial⟩)); (focus ((try intro hg); first | exact S_call hs rfl | exact S_call hon rfl | exact Ca rfl rfl (by constructor) (by omega) | exact Cb rfl rfl (by constructor) (by omega) | exact S_al rfl | exact S_bx rfl rfl | exact S_store rfl rfl rfl rfl rfl rfl | (apply Pu.ok; repeat' (first | rfl | exact .inK (by simp only [InK]; omega) | exact .wr | constructor | decide | omega)))); constructor) | refine Pa rfl rfl rfl rfl rfl ?_ | refine Po rfl rfl rfl rfl rfl ?_ | fail)
      refine retN (.cellA inferInstance rfl rfl rfl rfl (by first | exact .inl rfl | exact .inr (flat_of rfl)) (.cellA inferInstance rfl rfl rfl rfl (by first | exact .inl rfl | exact .inr (flat_of rfl)) (.cellA inferInstance rfl rfl rfl rfl (by first | exact .inl rfl | exact .inr (flat_of rfl)) .nil))) ?_
      rfl
    | some p =>
      repeat' (first | (apply Wa; constructor) | refine Wb rfl ?_ | refine Wc rfl ?_ | refine Wd (by kernel_rfl) ?_ | refine We rfl ?_ | refine Wf rfl ?_ | refine Wg rfl (by omega) ?_ | refine Wh rfl (by omega) ?_ | refine Wi rfl rfl ?_ | ((first | apply dX rfl | apply Da rfl rfl | apply Db rfl rfl (by intro h; first | trivial | exact ⟨h, trivial⟩ | exact ⟨h, h, trivial⟩)); (focus ((try intro hg); first | exact S_call hs rfl | exact S_call hon rfl | exact Ca rfl rfl (by constructor) (by omega) | exact Cb rfl rfl (by constructor) (by omega) | exact S_al rfl | exact S_bx rfl rfl | exact S_store rfl rfl rfl rfl rfl rfl | (apply Pu.ok; repeat' (first | rfl | exact .inK (by simp only [InK]; omega) | exact .wr | constructor | decide | omega)))); constructor) | refine Pa rfl rfl rfl rfl rfl ?_ | refine Po rfl rfl rfl rfl rfl ?_ | fail)
      refine retN (.cellA inferInstance rfl rfl rfl rfl (by first | exact .inl rfl | exact .inr (flat_of rfl)) (.cellA inferInstance rfl rfl rfl rfl (by first | exact .inl rfl | exact .inr (flat_of rfl)) (.cellA inferInstance rfl rfl rfl rfl (by first | exact .inl rfl | exact .inr (flat_of rfl)) .nil))) ?_
      rfl
end Go.Proofs.Ytpgcemabkjmliaa
namespace Go.Proofs.Ytpgcemabkjmliaa
open Go.RowKit
def net2 : Net := ⟨[⟨1, [], ⟨[114], 0, []⟩⟩, ⟨2, [], ⟨[114], 0, []⟩⟩], [⟨0, 1, 1, 2, 5, true⟩]⟩
theorem net2_typed : net2.typed := ⟨fun b hb => by simp [net2] at hb; rcases hb with rfl | rfl <;> decide, fun b hb => by simp [net2] at hb; rcases hb with rfl | rfl <;> decide⟩
theorem net2_wrong : net2.wrong = (0, 0) := by with_unfolding_all decide
theorem net2_good : net2.good := ((Net.wrong_iff net2_typed).1 (by rw [net2_wrong])).1
theorem net2_live : liveL net2 = net2.links := by
  rw [liveL_one ⟨[114], 0, []⟩ (fun b hb => by simp [net2] at hb; rcases hb with rfl | rfl <;> rfl) (fun l hl => by simp [net2] at hl; subst hl; decide)]
  with_unfolding_all rfl
attribute [local irreducible] SStep DW DWin DOps thenQ inBlk loopQ retQ retQG FnF FnG FnI Wk IntKind.wrap IntKind.andI IntKind.orI IntKind.xorI IntKind.andNotI IntKind.shlI IntKind.shrI Net.wrong Bridge.id Bridge.prio identR idsR liveB planA mix
end Go.Proofs.Ytpgcemabkjmliaa
namespace Go.Proofs.Ytpgcemabkjmliaa
open Go.RowKit
def mindC (id : Int) (ends : List End) (ps : List Int) (calm : List Int) (l : List Mind) : Mind :=
  ⟨(chooseS id (hears ends l)).says id, (chooseS id (hears ends l)).age, (chooseS id (hears ends l)).port, ps, rolesP ends ((chooseS id (hears ends l)).says id) (chooseS id (hears ends l)).port (hears ends l) ps, calmsOf (rolesP ends ((chooseS id (hears ends l)).says id) (chooseS id (hears ends l)).port (hears ends l) ps) calm⟩
theorem mindOf_C {n : Net} {tree : Int} {i : Nat} {ends : List End} {l : List Mind} {id : Int} {ps : List Int} (h1 : idN n tree i = id) (h2 : portsOf n.links i = ps) : mindOf n tree i ends l = mindC id ends ps (mAt l i).calm l := by
  subst h1; subst h2; rfl
theorem net2_ends (i : Nat) : endsOf net2 i = isoE (rawE net2.links i) := by rw [ends_iso net2_good, net2_live]
theorem net2_mind (i : Nat) (l : List Mind) : mindOf net2 0 i (endsOf net2 i) l = mindC (idN net2 0 i) (isoE (rawE net2.links i)) (isoP (rawP net2.links i)) (mAt l i).calm l := by
  rw [mindOf_C rfl rfl, net2_ends, ports_iso]
def talk2 : List Mind := [⟨⟨9223372036854775809, 0, 9223372036854775809, 0⟩, 0, -1, [1], [2], [2]⟩, ⟨⟨9223372036854775809, 5, 9223372036854775810, 0⟩, 1, 2, [2], [1], [2]⟩]
theorem net2_start : start0 net2 1 = [[⟨⟨9223372036854775809, 0, 9223372036854775809, 0⟩, 0, -1, [1], [0], [0]⟩, ⟨⟨9223372036854775810, 0, 9223372036854775810, 0⟩, 0, -1, [2], [0], [0]⟩]] := by
  unfold start0 mind0
  simp only [ports_iso]
  with_unfolding_all rfl
theorem net2_tick (l : List Mind) (hl : l.length = 2) : tickN net2 [l] = [[mindC (idN net2 0 0) (isoE (rawE net2.links 0)) (isoP (rawP net2.links 0)) (mAt l 0).calm l, mindC (idN net2 0 1) (isoE (rawE net2.links 1)) (isoP (rawP net2.links 1)) (mAt l 1).calm l]] := by
  have e : tickN net2 [l] = [(List.range l.length).map fun i => mindOf net2 0 i (endsOf net2 i) l] := rfl
  rw [e, hl]
  have : (List.range 2).map (fun i => mindOf net2 0 i (endsOf net2 i) l) = [mindOf net2 0 0 (endsOf net2 0) l, mindOf net2 0 1 (endsOf net2 1) l] := rfl
  rw [this, net2_mind, net2_mind]
  rfl
theorem net2_talk : ticksN net2 (start0 net2 1) 2 = [talk2] := by
  show tickN net2 (tickN net2 (start0 net2 1)) = _
  rw [net2_start, net2_tick _ rfl, net2_tick _ rfl]
  with_unfolding_all rfl
theorem net2_play : playA net2 1 [⟨1, 2, 0, 0⟩] = (some (net2, [talk2]), (0, 0)) := by
  unfold playA startA
  rw [net2_wrong]
  show onA net2 (start0 net2 1) [⟨1, 2, 0, 0⟩] = _
  unfold onA
  rw [net2_wrong]
  show (some (net2, ticksN net2 (start0 net2 1) 2), _) = _
  rw [net2_talk]
attribute [local irreducible] SStep DW DWin DOps thenQ inBlk loopQ retQ retQG FnF FnG FnI FnM Wk IntKind.wrap IntKind.andI IntKind.orI IntKind.xorI IntKind.andNotI IntKind.shlI IntKind.shrI
theorem law7_two : FnF Try.prog 19 [] net2.v := by
  refine fnF_of Try.func19 rfl rfl rfl ?_
  simp only [envOf]
  repeat' (first | (apply Wa; constructor) | refine Wb rfl ?_ | refine Wc rfl ?_ | refine Wd (by kernel_rfl) ?_ | refine We rfl ?_ | refine Wf rfl ?_ | refine Wi rfl rfl ?_ | ((first | apply dX rfl | apply Da rfl rfl | apply Db rfl rfl (by intro h; first | trivial | exact ⟨h, trivial⟩ | exact ⟨h, h, trivial⟩)); (focus ((try intro hg); first | exact S_al rfl | exact S_bx rfl rfl | exact S_store rfl rfl rfl rfl rfl rfl | (apply Pu.ok; repeat' (first | rfl | exact .inK (by simp only [InK]; omega) | exact .wr | constructor | decide | omega)))); constructor) | refine Pa rfl rfl rfl rfl rfl ?_ | refine Po rfl rfl rfl rfl rfl ?_ | fail)
  refine retN (.cellA inferInstance rfl rfl rfl rfl (.inl rfl) .nil) ?_
  rfl
def tickD (k : Int) : Doing := ⟨1, k, 0, 0⟩
theorem law7_ticks (k : Int) : FnF Try.prog 15 [.int .i64 k] (.agg (tickD k).cells) := by
  refine fnF_of Try.func15 rfl rfl rfl ?_
  simp only [envOf]
  repeat' (first | (apply Wa; constructor) | refine Wb rfl ?_ | refine Wc rfl ?_ | refine Wd (by kernel_rfl) ?_ | refine We rfl ?_ | refine Wf rfl ?_ | refine Wi rfl rfl ?_ | ((first | apply dX rfl | apply Da rfl rfl | apply Db rfl rfl (by intro h; first | trivial | exact ⟨h, trivial⟩ | exact ⟨h, h, trivial⟩)); (focus ((try intro hg); first | exact S_al rfl | exact S_bx rfl rfl | exact S_store rfl rfl rfl rfl rfl rfl | (apply Pu.ok; repeat' (first | rfl | exact .inK (by simp only [InK]; omega) | exact .wr | constructor | decide | omega)))); constructor) | refine Pa rfl rfl rfl rfl rfl ?_ | refine Po rfl rfl rfl rfl rfl ?_ | fail)
  refine retN (.cellA inferInstance rfl rfl rfl rfl (by first | exact .inl rfl | exact .inr (flat_of rfl)) .nil) ?_
  rfl
set_option maxHeartbeats 1000000 in
theorem law7_alive : FnF Try.prog 10 [] (.bool true) := by
  refine fnF_of Try.func10 rfl rfl rfl ?_
  simp only [envOf]
  have hp := talk_Play net2 net2_typed 1 [tickD 2]
  rw [show playA net2 1 [tickD 2] = _ from net2_play] at hp
  repeat' (first | (apply Wa; constructor) | refine Wb rfl ?_ | refine Wc rfl ?_ | refine Wd (by kernel_rfl) ?_ | refine We rfl ?_ | refine Wf rfl ?_ | refine Wi rfl rfl ?_ | ((first | apply dX rfl | apply Da rfl rfl | apply Db rfl rfl (by intro h; first | trivial | exact ⟨h, trivial⟩ | exact ⟨h, h, trivial⟩)); (focus ((try intro hg); first | exact S_call law7_two rfl | exact S_call (law7_ticks 2) rfl | exact S_call hp rfl | exact S_al rfl | exact S_bx rfl rfl | exact S_store rfl rfl rfl rfl rfl rfl | (apply Pu.ok; repeat' (first | rfl | exact .inK (by simp only [InK]; omega) | exact .wr | constructor | decide | omega)))); constructor) | refine Pa rfl rfl rfl rfl rfl ?_ | refine Po rfl rfl rfl rfl rfl ?_ | fail)
  refine ret1 rfl (by first | exact .inl rfl | exact .inr (flat_of rfl)) ?_
  rfl
end Go.Proofs.Ytpgcemabkjmliaa
namespace Go.Proofs.Ytpgcemabkjmliaa
open Go.RowKit
theorem eqL_vec (a : Vec) : eqL a.cells a.cells = some true := by simp [Vec.cells, eqL, V.eq1]
attribute [local irreducible] SStep DW DWS DWin DOps thenQ inBlk loopQ loopQS retQ retQG FnF FnG FnI Wk IntKind.wrap IntKind.andI IntKind.orI IntKind.xorI IntKind.andNotI IntKind.shlI IntKind.shrI Vec.cmp
end Go.Proofs.Ytpgcemabkjmliaa
