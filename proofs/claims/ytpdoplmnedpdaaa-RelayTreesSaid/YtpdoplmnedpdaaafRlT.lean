/- The law RelayTrees. -/
import Derived.Test.YtpdoplmnedpdaaafRlG
import Derived.Test.YtpdoplmnedpdaaabNst
import Derived.Test.YtpdoplmnedpdaaacTog
namespace Go.Proofs.Ytpdoplmnedpdaaa
open Go.RowKit

theorem tog_cells {CS : List D} {mem : Mem} {gs : List Gate} {u : Gate} {w : Nat} {os : List Bool} (hcs : ∀ (i j : Nat) (u : Gate) (x : V), gs[i]? = some u → (gateV u)[j]? = some x → CS[i * 4 + j]? = some (.dat false x))
    (hu : gs[w]? = some u) (hm : asV0 mem (.own 73 1 0 u.opens.length) = some (true, .slice (os.map boolV1))) :
    ∀ (i j : Nat) (e : List V) (x : V), ((gs.set w { u with opens := os }).map gateV)[i]? = some e → e[j]? = some x →
      x.one = true ∧ ∃ d n', (splice CS (w * 4 + 3) [D.own 73 1 0 u.opens.length])[i * 4 + j]? = some d ∧ asV0 mem d = some (n', x) ∧ (false = true → n' = true ∨ x.isI = true) := by
  intro i j e x he hx
  have hlt : w * 4 + 3 < CS.length := (List.getElem?_eq_some_iff.1 (hcs w 3 u _ hu rfl)).1
  rw [List.getElem?_map] at he
  obtain ⟨a, ha, rfl⟩ := Option.map_eq_some_iff.1 he
  have hone := CellsI.one (f := gateV) a x (List.mem_of_getElem? hx)
  have hj : j < 4 := by have := (List.getElem?_eq_some_iff.1 hx).1; rwa [CellsI.len (f := gateV) a] at this
  refine ⟨hone, ?_⟩
  rw [splice_get (by simp only [List.length_singleton]; omega)]
  by_cases hiw : i = w
  · subst hiw
    have hil : i < gs.length := (List.getElem?_eq_some_iff.1 hu).1
    rw [List.getElem?_set_self hil] at ha
    injection ha with ha
    subst ha
    by_cases hj3 : j = 3
    · subst hj3
      simp [gateV] at hx
      subst hx
      exact ⟨_, true, by rw [if_pos (by simp)]; simp, hm, fun h => by cases h⟩
    · rw [if_neg (by simp; omega)]
      have hx' : (gateV u)[j]? = some x := by
        match j, hj, hj3, hx with
        | 0, _, _, hx => exact hx
        | 1, _, _, hx => exact hx
        | 2, _, _, hx => exact hx
        | 3, _, h, _ => exact absurd rfl h
      exact ⟨_, false, hcs i j u x hu hx', rfl, fun h => by cases h⟩
  · rw [List.getElem?_set_ne (Ne.symm hiw)] at ha
    rw [if_neg (by simp; omega)]
    exact ⟨_, false, hcs i j a x ha hx, rfl, fun h => by cases h⟩

attribute [local irreducible] SStep DW DWin DOps thenQ inBlk loopQ retQ retQG FnF FnG Wk IntKind.wrap IntKind.andI IntKind.orI IntKind.xorI IntKind.andNotI IntKind.shlI IntKind.shrI Ent.cmp bsG lookS lookE learnL learnR outsG Gate.passes wayOf leaveF gateAt relayS relayG
set_option maxHeartbeats 8000000 in
theorem law_RelayTrees (r : Region) (gs : List Gate) (l : List Ent) (port : Int) (f : Frame) (tree which : Int) (hrl : r.ways.length ≤ 9223372036854775807) (hf : f.ok) :
    FnF Try.prog 12 [r.v, .slice (gs.map gateV), .slice (l.map entV), .int .i64 port, f.v, .int .i64 tree, .int .i64 which] (.bool true) := by
  refine fnF_of Try.func12 rfl rfl rfl ?_
  simp only [envOf]
  have h3 := relay_Relay r gs l port f hrl hf
  rcases relay_cases r gs l port f with ⟨e1, e2, e3⟩ | ⟨ha, g, hg, e⟩
  · generalize relayS r gs l port f = R at h3 e1 e2 e3
    obtain ⟨outs, m, e⟩ := R
    simp only at h3 e1 e2 e3
    repeat' (first
    | refine DW_seq ?_
    | refine DW_region ?_
    | refine DW_draw ?_
    | refine dnilP ?_
    | refine dnilD (by kernel_rfl) ?_
    | refine then_normal ?_
    | refine then_exit ?_
    | refine then_ret ?_
    | refine DW_block ?_
    | refine blk_normal ?_
    | refine blk_ret ?_
    | refine blk_hit rfl ?_
    | refine blk_miss rfl ?_
    | refine loop_exit ?_
    | refine loop_ret ?_
    | refine DW_ret ?_
    | refine DW_exit ?_
    | refine DW_skip ?_
    | refine DW_cond_t rfl ?_
    | refine DW_cond_f rfl ?_
    | (apply dpC rfl; case h => first | exact S_call alive9 rfl | exact S_call h3 rfl | (apply Pu.ok; repeat' (first | rfl | exact .inK (by simp only [InK]; omega) | exact .inK (by simp only [InK]; simp at hg; omega) | exact .wr | constructor | decide | omega)))
    | refine dpOff rfl rfl ?_
    | ((first | apply dp rfl | apply dpOn rfl rfl | apply dpMay rfl rfl (by first | exact fun _ => trivial | exact fun h => ⟨h, trivial⟩ | exact fun h => ⟨h, h, trivial⟩ | exact fun h => ⟨h, h, h, trivial⟩)); case h => ((try intro hg); first | exact as_bool (S_neq rfl rfl) (decide_eq_true e1) | exact S_call alive9 rfl | exact S_call h3 rfl | (apply Pu.ok; repeat' (first | rfl | exact .inK (by simp only [InK]; omega) | exact .inK (by simp only [InK]; simp at hg; omega) | exact .wr | constructor | decide | omega))))
    | refine dpickAnd rfl rfl rfl rfl rfl ?_ | refine dpickOr rfl rfl rfl rfl rfl ?_
    | (apply dt rfl; case h => first | exact S_alloc _ rfl | exact S_box _ rfl rfl)
    | (apply ds; case h => first | exact S_store rfl rfl rfl rfl rfl rfl)
    | (apply dm rfl; case h => first | exact M_d rfl | exact S_alloc 2001 rfl | exact S_alloc 2002 rfl | exact S_alloc 2003 rfl | exact S_alloc 2004 rfl | exact S_alloc 2005 rfl)
    | fail)
    exact ret1 rfl (.inl rfl) rfl
  rw [e] at h3
  have he : (relayG r gs l port f g).2.2 = 0 := by with_unfolding_all (unfold relayG; split <;> rfl)
  rw [he] at h3
  have hml : (gs.map gateV).length = gs.length := by simp
  by_cases hw0 : which < 0
  · generalize relayG r gs l port f g = R at h3
    obtain ⟨outs, m, e⟩ := R
    simp only at h3
    repeat' (first
    | refine DW_seq ?_
    | refine DW_region ?_
    | refine DW_draw ?_
    | refine dnilP ?_
    | refine dnilD (by kernel_rfl) ?_
    | refine then_normal ?_
    | refine then_exit ?_
    | refine then_ret ?_
    | refine DW_block ?_
    | refine blk_normal ?_
    | refine blk_ret ?_
    | refine blk_hit rfl ?_
    | refine blk_miss rfl ?_
    | refine loop_exit ?_
    | refine loop_ret ?_
    | refine DW_ret ?_
    | refine DW_exit ?_
    | refine DW_skip ?_
    | refine DW_cond_t rfl ?_
    | refine DW_cond_f rfl ?_
    | (apply dpC rfl; case h => first | exact S_call alive9 rfl | exact S_call h3 rfl | (apply Pu.ok; repeat' (first | rfl | exact .inK (by simp only [InK]; omega) | exact .inK (by simp only [InK]; simp at hg; omega) | exact .wr | constructor | decide | omega)))
    | refine dpOff rfl rfl ?_
    | ((first | apply dp rfl | apply dpOn rfl rfl | apply dpMay rfl rfl (by first | exact fun _ => trivial | exact fun h => ⟨h, trivial⟩ | exact fun h => ⟨h, h, trivial⟩ | exact fun h => ⟨h, h, h, trivial⟩)); case h => ((try intro hg); first | exact as_bool (b := false) (S_neq rfl rfl) rfl | exact as_bool (S_lss rfl rfl) (decide_eq_true hw0) | exact S_call alive9 rfl | exact S_call h3 rfl | (apply Pu.ok; repeat' (first | rfl | exact .inK (by simp only [InK]; omega) | exact .inK (by simp only [InK]; simp at hg; omega) | exact .wr | constructor | decide | omega))))
    | refine dpickAnd rfl rfl rfl rfl rfl ?_ | refine dpickOr rfl rfl rfl rfl rfl ?_
    | (apply dt rfl; case h => first | exact S_alloc _ rfl | exact S_box _ rfl rfl)
    | (apply ds; case h => first | exact S_store rfl rfl rfl rfl rfl rfl)
    | (apply dm rfl; case h => first | exact M_d rfl | exact S_alloc 2001 rfl | exact S_alloc 2002 rfl | exact S_alloc 2003 rfl | exact S_alloc 2004 rfl | exact S_alloc 2005 rfl)
    | fail)
    exact ret1 rfl (.inl rfl) rfl
  by_cases hw1 : (gs.length : Int) ≤ which
  · generalize relayG r gs l port f g = R at h3
    obtain ⟨outs, m, e⟩ := R
    simp only at h3
    repeat' (first
    | refine DW_seq ?_
    | refine DW_region ?_
    | refine DW_draw ?_
    | refine dnilP ?_
    | refine dnilD (by kernel_rfl) ?_
    | refine then_normal ?_
    | refine then_exit ?_
    | refine then_ret ?_
    | refine DW_block ?_
    | refine blk_normal ?_
    | refine blk_ret ?_
    | refine blk_hit rfl ?_
    | refine blk_miss rfl ?_
    | refine loop_exit ?_
    | refine loop_ret ?_
    | refine DW_ret ?_
    | refine DW_exit ?_
    | refine DW_skip ?_
    | refine DW_cond_t rfl ?_
    | refine DW_cond_f rfl ?_
    | (apply dpC rfl; case h => first | exact S_call alive9 rfl | exact S_call h3 rfl | (apply Pu.ok; repeat' (first | rfl | exact .inK (by simp only [InK]; omega) | exact .inK (by simp only [InK]; simp at hg; omega) | exact .wr | constructor | decide | omega)))
    | refine dpOff rfl rfl ?_
    | ((first | apply dp rfl | apply dpOn rfl rfl | apply dpMay rfl rfl (by first | exact fun _ => trivial | exact fun h => ⟨h, trivial⟩ | exact fun h => ⟨h, h, trivial⟩ | exact fun h => ⟨h, h, h, trivial⟩)); case h => ((try intro hg); first | exact as_bool (b := false) (S_neq rfl rfl) rfl | exact as_bool (S_lss rfl rfl) (decide_eq_false hw0) | exact as_bool (S_geq rfl rfl) (decide_eq_true (by omega : ((gs.map gateV).length : Int) ≤ which)) | exact S_call alive9 rfl | exact S_call h3 rfl | (apply Pu.ok; repeat' (first | rfl | exact .inK (by simp only [InK]; omega) | exact .inK (by simp only [InK]; simp at hg; omega) | exact .wr | constructor | decide | omega))))
    | refine dpickAnd rfl rfl rfl rfl rfl ?_ | refine dpickOr rfl rfl rfl rfl rfl ?_
    | (apply dt rfl; case h => first | exact S_alloc _ rfl | exact S_box _ rfl rfl)
    | (apply ds; case h => first | exact S_store rfl rfl rfl rfl rfl rfl)
    | (apply dm rfl; case h => first | exact M_d rfl | exact S_alloc 2001 rfl | exact S_alloc 2002 rfl | exact S_alloc 2003 rfl | exact S_alloc 2004 rfl | exact S_alloc 2005 rfl)
    | fail)
    exact ret1 rfl (.inl rfl) rfl
  by_cases ht0 : tree < 0
  · generalize relayG r gs l port f g = R at h3
    obtain ⟨outs, m, e⟩ := R
    simp only at h3
    repeat' (first
    | refine DW_seq ?_
    | refine DW_region ?_
    | refine DW_draw ?_
    | refine dnilP ?_
    | refine dnilD (by kernel_rfl) ?_
    | refine then_normal ?_
    | refine then_exit ?_
    | refine then_ret ?_
    | refine DW_block ?_
    | refine blk_normal ?_
    | refine blk_ret ?_
    | refine blk_hit rfl ?_
    | refine blk_miss rfl ?_
    | refine loop_exit ?_
    | refine loop_ret ?_
    | refine DW_ret ?_
    | refine DW_exit ?_
    | refine DW_skip ?_
    | refine DW_cond_t rfl ?_
    | refine DW_cond_f rfl ?_
    | (apply dpC rfl; case h => first | exact S_call alive9 rfl | exact S_call h3 rfl | (apply Pu.ok; repeat' (first | rfl | exact .inK (by simp only [InK]; omega) | exact .inK (by simp only [InK]; simp at hg; omega) | exact .wr | constructor | decide | omega)))
    | refine dpOff rfl rfl ?_
    | ((first | apply dp rfl | apply dpOn rfl rfl | apply dpMay rfl rfl (by first | exact fun _ => trivial | exact fun h => ⟨h, trivial⟩ | exact fun h => ⟨h, h, trivial⟩ | exact fun h => ⟨h, h, h, trivial⟩)); case h => ((try intro hg); first | exact as_bool (b := false) (S_neq rfl rfl) rfl | exact as_bool (S_lss rfl rfl) (decide_eq_false hw0) | exact as_bool (S_geq rfl rfl) (decide_eq_false (by omega : ¬ ((gs.map gateV).length : Int) ≤ which)) | exact as_bool (S_lss rfl rfl) (decide_eq_true ht0) | exact S_call alive9 rfl | exact S_call h3 rfl | (apply Pu.ok; repeat' (first | rfl | exact .inK (by simp only [InK]; omega) | exact .inK (by simp only [InK]; simp at hg; omega) | exact .wr | constructor | decide | omega))))
    | refine dpickAnd rfl rfl rfl rfl rfl ?_ | refine dpickOr rfl rfl rfl rfl rfl ?_
    | (apply dt rfl; case h => first | exact S_alloc _ rfl | exact S_box _ rfl rfl)
    | (apply ds; case h => first | exact S_store rfl rfl rfl rfl rfl rfl)
    | (apply dm rfl; case h => first | exact M_d rfl | exact S_alloc 2001 rfl | exact S_alloc 2002 rfl | exact S_alloc 2003 rfl | exact S_alloc 2004 rfl | exact S_alloc 2005 rfl)
    | fail)
    exact ret1 rfl (.inl rfl) rfl
  obtain ⟨w, rfl⟩ : ∃ w : Nat, which = (w : Int) := ⟨which.toNat, by omega⟩
  obtain ⟨t, rfl⟩ : ∃ t : Nat, tree = (t : Int) := ⟨tree.toNat, by omega⟩
  have hwl : w < gs.length := by omega
  have hu : gs[w]? = some gs[w] := by simp [hwl]
  have hui : gs[((w : Nat) : Int).toNat]? = some gs[w] := by simp [hwl]
  have hgr := rightG_of ha.g
  have hur := hgr.g _ (List.getElem_mem hwl)
  have hun := hur.o
  have hgn := hgr.n
  generalize gs[w] = u at hu hui hur hun
  have hul : (u.opens.map boolV1).length = u.opens.length := by simp
  by_cases ht1 : (u.opens.length : Int) ≤ t
  · generalize relayG r gs l port f g = R at h3
    obtain ⟨outs, m, e⟩ := R
    simp only at h3
    repeat' (first
    | refine DW_seq ?_
    | refine DW_region ?_
    | refine DW_draw ?_
    | refine dnilP ?_
    | refine dnilD (by kernel_rfl) ?_
    | refine then_normal ?_
    | refine then_exit ?_
    | refine then_ret ?_
    | refine DW_block ?_
    | refine blk_normal ?_
    | refine blk_ret ?_
    | refine blk_hit rfl ?_
    | refine blk_miss rfl ?_
    | refine loop_exit ?_
    | refine loop_ret ?_
    | refine DW_ret ?_
    | refine DW_exit ?_
    | refine DW_skip ?_
    | refine DW_cond_t rfl ?_
    | refine DW_cond_f rfl ?_
    | (apply dpC rfl; case h => first | exact S_call alive9 rfl | exact S_call h3 rfl | (apply Pu.ok; repeat' (first | rfl | exact .inK (by simp only [InK]; omega) | exact .inK (by simp only [InK]; simp at hg; omega) | exact .wr | constructor | decide | omega)))
    | refine dpOff rfl rfl ?_
    | ((first | apply dp rfl | apply dpOn rfl rfl | apply dpMay rfl rfl (by first | exact fun _ => trivial | exact fun h => ⟨h, trivial⟩ | exact fun h => ⟨h, h, trivial⟩ | exact fun h => ⟨h, h, h, trivial⟩)); case h => ((try intro hg); first | exact as_bool (b := false) (S_neq rfl rfl) rfl | exact as_bool (S_lss rfl rfl) (decide_eq_false hw0) | exact as_bool (S_geq rfl rfl) (decide_eq_false (by omega : ¬ ((gs.map gateV).length : Int) ≤ w)) | exact as_bool (S_lss rfl rfl) (decide_eq_false ht0) | exact S_ixM rfl rfl (by omega) hui | exact as_bool (S_geq rfl rfl) (decide_eq_true (by omega : ((u.opens.map boolV1).length : Int) ≤ t)) | exact S_call alive9 rfl | exact S_call h3 rfl | (apply Pu.ok; repeat' (first | rfl | exact .inK (by simp only [InK]; omega) | exact .inK (by simp only [InK]; simp at hg; omega) | exact .wr | constructor | decide | omega))))
    | refine dpickAnd rfl rfl rfl rfl rfl ?_ | refine dpickOr rfl rfl rfl rfl rfl ?_
    | (apply dt rfl; case h => first | exact S_alloc _ rfl | exact S_box _ rfl rfl)
    | (apply ds; case h => first | exact S_store rfl rfl rfl rfl rfl rfl)
    | (apply dm rfl; case h => first | exact M_d rfl | exact S_alloc 2001 rfl | exact S_alloc 2002 rfl | exact S_alloc 2003 rfl | exact S_alloc 2004 rfl | exact S_alloc 2005 rfl)
    | fail)
    exact ret1 rfl (.inl rfl) rfl
  have hrr := region_right ha.r
  have hwv := way_in (hgr.g g (gateAt_mem hg).1) ha.f
  have htr := treeOf_in hrr.w (wayOf g f)
  have ca := at_some hg
  have cw := law9_way g f
  have ct := region_Tree r (wayOf g f) hrr (by omega)
  by_cases htt : (t : Int) = treeOf r.ways (wayOf g f)
  · generalize relayG r gs l port f g = R at h3
    obtain ⟨outs, m, e⟩ := R
    simp only at h3
    rw [← htt] at ct
    generalize wayOf g f = v at cw ct
    repeat' (first
    | refine DW_seq ?_
    | refine DW_region ?_
    | refine DW_draw ?_
    | refine dnilP ?_
    | refine dnilD (by kernel_rfl) ?_
    | refine then_normal ?_
    | refine then_exit ?_
    | refine then_ret ?_
    | refine DW_block ?_
    | refine blk_normal ?_
    | refine blk_ret ?_
    | refine blk_hit rfl ?_
    | refine blk_miss rfl ?_
    | refine loop_exit ?_
    | refine loop_ret ?_
    | refine DW_ret ?_
    | refine DW_exit ?_
    | refine DW_skip ?_
    | refine DW_cond_t rfl ?_
    | refine DW_cond_f rfl ?_
    | (apply dpC rfl; case h => first | exact S_call alive9 rfl | exact S_call h3 rfl | exact S_callGD ca rfl | exact S_call cw rfl | exact S_call ct rfl | (apply Pu.ok; repeat' (first | rfl | exact .inK (by simp only [InK]; omega) | exact .inK (by simp only [InK]; simp at hg; omega) | exact .wr | constructor | decide | omega)))
    | refine dpOff rfl rfl ?_
    | ((first | apply dp rfl | apply dpOn rfl rfl | apply dpMay rfl rfl (by first | exact fun _ => trivial | exact fun h => ⟨h, trivial⟩ | exact fun h => ⟨h, h, trivial⟩ | exact fun h => ⟨h, h, h, trivial⟩)); case h => ((try intro hg); first | exact as_bool (b := false) (S_neq rfl rfl) rfl | exact as_bool (S_lss rfl rfl) (decide_eq_false hw0) | exact as_bool (S_geq rfl rfl) (decide_eq_false (by omega : ¬ ((gs.map gateV).length : Int) ≤ w)) | exact as_bool (S_lss rfl rfl) (decide_eq_false ht0) | exact S_ixM rfl rfl (by omega) hui | exact as_bool (S_geq rfl rfl) (decide_eq_false (by omega : ¬ ((u.opens.map boolV1).length : Int) ≤ t)) | exact as_bool (b := true) (S_eql rfl rfl) (by simp) | exact S_call alive9 rfl | exact S_call h3 rfl | exact S_callGD ca rfl | exact S_call cw rfl | exact S_call ct rfl | (apply Pu.ok; repeat' (first | rfl | exact .inK (by simp only [InK]; omega) | exact .inK (by simp only [InK]; simp at hg; omega) | exact .wr | constructor | decide | omega))))
    | refine dpickAnd rfl rfl rfl rfl rfl ?_ | refine dpickOr rfl rfl rfl rfl rfl ?_
    | (apply dt rfl; case h => first | exact S_alloc _ rfl | exact S_box _ rfl rfl)
    | (apply ds; case h => first | exact S_store rfl rfl rfl rfl rfl rfl)
    | (apply dm rfl; case h => first | exact M_d rfl | exact S_alloc 2001 rfl | exact S_alloc 2002 rfl | exact S_alloc 2003 rfl | exact S_alloc 2004 rfl | exact S_alloc 2005 rfl)
    | fail)
    exact ret1 rfl (.inl rfl) rfl
  have htl : t < u.opens.length := by omega
  have hx : u.opens[t]? = some u.opens[t] := by simp [htl]
  have htog := relay_tog (!u.opens[t]) ha hg hu htt htr.1
  generalize u.opens[t] = b at hx htog
  have h4 := relay_Relay r (gs.set w { u with opens := u.opens.set t (!b) }) l port f hrl hf
  rw [htog, he] at h4
  have s1 := ref8_SameOut (relayS r gs l port f).1 (outs_ok hf)
  have s2 := ref8_Same (relayS r gs l port f).2.1
  rw [e] at s1 s2
  generalize relayG r gs l port f g = R at h3 h4 s1 s2
  obtain ⟨outs, m, e⟩ := R
  simp only at h3 h4 s1 s2
  generalize hT : treeOf r.ways (wayOf g f) = T at ct htt
  generalize wayOf g f = v at cw ct
  have hne : gs.map gateV ≠ [] := by intro h; rw [h] at hml; simp at hml; omega
  repeat' (first
    | refine DW_cellsOf 68 (xs := gs.map gateV) rfl (by decide) hne ?_
    | (apply dt rfl; case h => exact S_litO (els := []) _ rfl rfl rfl rfl rfl)
    | refine DW_seq ?_
    | refine DW_region ?_
    | refine DW_draw ?_
    | refine dnilP ?_
    | refine dnilD (by kernel_rfl) ?_
    | refine then_normal ?_
    | refine then_exit ?_
    | refine then_ret ?_
    | refine DW_block ?_
    | refine blk_normal ?_
    | refine blk_ret ?_
    | refine blk_hit rfl ?_
    | refine blk_miss rfl ?_
    | refine loop_exit ?_
    | refine loop_ret ?_
    | refine DW_ret ?_
    | refine DW_exit ?_
    | refine DW_skip ?_
    | refine DW_cond_t rfl ?_
    | refine DW_cond_f rfl ?_
    | (apply dpC rfl; case h => first | exact S_call alive9 rfl | exact S_call h3 rfl | exact S_callGD ca rfl | exact S_call cw rfl | exact S_call ct rfl | (apply Pu.ok; repeat' (first | rfl | exact .inK (by simp only [InK]; omega) | exact .inK (by simp only [InK]; simp at hg; omega) | exact .wr | constructor | decide | omega)))
    | (apply dmC rfl; case h => first | exact S_appM (f := gateV) (us := []) (bs := gs) rfl rfl (.dat _ _) rfl rfl (.inl rfl) rfl (by simp only [List.length_nil]; omega))
    | refine dpOff rfl rfl ?_
    | (apply dmOn rfl rfl; case h => first | exact S_appM (f := gateV) (us := []) (bs := gs) rfl rfl (.dat _ _) rfl rfl (.inl rfl) rfl (by simp only [List.length_nil]; omega))
    | ((first | apply dp rfl | apply dpOn rfl rfl | apply dpMay rfl rfl (by first | exact fun _ => trivial | exact fun h => ⟨h, trivial⟩ | exact fun h => ⟨h, h, trivial⟩ | exact fun h => ⟨h, h, h, trivial⟩)); case h => ((try intro hg); first | exact as_bool (b := false) (S_neq rfl rfl) rfl | exact as_bool (S_lss rfl rfl) (decide_eq_false hw0) | exact as_bool (S_geq rfl rfl) (decide_eq_false (by omega : ¬ ((gs.map gateV).length : Int) ≤ w)) | exact as_bool (S_lss rfl rfl) (decide_eq_false ht0) | exact S_ixM rfl rfl (by omega) hui | exact as_bool (S_geq rfl rfl) (decide_eq_false (by omega : ¬ ((u.opens.map boolV1).length : Int) ≤ t)) | exact as_bool (S_eql rfl rfl) (decide_eq_false htt) | exact S_call alive9 rfl | exact S_call h3 rfl | exact S_callGD ca rfl | exact S_call cw rfl | exact S_call ct rfl | exact S_appM (f := gateV) (us := []) (bs := gs) rfl rfl (.dat _ _) rfl rfl (.inl rfl) rfl (by simp only [List.length_nil]; omega) | (apply Pu.ok; repeat' (first | rfl | exact .inK (by simp only [InK]; omega) | exact .inK (by simp only [InK]; simp at hg; omega) | exact .wr | constructor | decide | omega))))
    | refine dpickAnd rfl rfl rfl rfl rfl ?_ | refine dpickOr rfl rfl rfl rfl rfl ?_
    | (apply dt rfl; case h => first | exact S_alloc _ rfl | exact S_box _ rfl rfl)
    | (apply ds; case h => first | exact S_store rfl rfl rfl rfl rfl rfl)
    | (apply dm rfl; case h => first | exact M_d rfl | exact S_alloc 2001 rfl | exact S_alloc 2002 rfl | exact S_alloc 2003 rfl | exact S_alloc 2004 rfl | exact S_alloc 2005 rfl)
    | fail)
  intro K
  refine DW_sw (s' := ⟨[(1, .dat false (.slice (gs.map gateV))), (2, .dat false (.slice (l.map entV))), (3, .dat false (.int .i64 port)), (5, .dat false (.int .i64 ((t : Nat) : Int))), (6, .dat false (.int .i64 ((w : Nat) : Int))), (7, .ptr 7 0), (11, .ptr 11 0), (15, .dat true (.slice (outs.map outV))), (16, .dat true (.slice (m.map entV))), (18, .sl 68 gs.length)],
    [(68, .cells false false ((gs.map gateV).flatten.map (D.dat false) ++ List.replicate K D.any)), (11, .cells false true (f.cells.map (.dat false))), (7, .cells false true (r.cells.map (.dat false)))], 120⟩) ⟨rfl, by first | exact fun _ => rfl | exact fun _ => by with_unfolding_all rfl | exact mem_one | exact mem_two | exact mem_three, by repeat' (first | exact slots_nil | exact .inl rfl | exact .inr (.inl ⟨_, rfl, rfl⟩) | apply slots_cons)⟩ ?_
  have hcs : ∀ (i j : Nat) (u : Gate) (x : V), gs[i]? = some u → (gateV u)[j]? = some x → ((gs.map gateV).flatten.map (D.dat false) ++ List.replicate K D.any)[i * 4 + j]? = some (.dat false x) := fun i j u x h1 h2 => rowcells_get h1 h2
  generalize (gs.map gateV).flatten.map (D.dat false) ++ List.replicate K D.any = CS at hcs
  have hlt : w * 4 + 3 < CS.length := (List.getElem?_eq_some_iff.1 (hcs w 3 u _ hu rfl)).1
  have hble : Nat.ble (w * 4 + 3 + 1) CS.length = true := by rw [Nat.ble_eq]; exact hlt
  have hld : (splice CS (w * 4 + 3) [D.own 73 1 0 u.opens.length])[w * 4 + 3]? = some (D.own 73 1 0 u.opens.length) := by
    rw [splice_get (by simp only [List.length_singleton]; omega), if_pos (by simp)]; simp
  have hxb : (u.opens.map boolV1)[t]? = some [.bool b] := by rw [List.getElem?_map, hx]; rfl
  repeat' (first
    | refine DW_mark 73 (bx := .row 1 false true 1 ((u.opens.set t (!b)).map boolV1)) rfl ?_
    | (apply dt rfl; case h => exact S_litO (els := []) _ rfl rfl rfl rfl rfl)
    | refine DW_seq ?_
    | refine DW_region ?_
    | refine DW_draw ?_
    | refine dnilP ?_
    | refine dnilD (by kernel_rfl) ?_
    | refine then_normal ?_
    | refine then_exit ?_
    | refine then_ret ?_
    | refine DW_block ?_
    | refine blk_normal ?_
    | refine blk_ret ?_
    | refine blk_hit rfl ?_
    | refine blk_miss rfl ?_
    | refine loop_exit ?_
    | refine loop_ret ?_
    | refine DW_ret ?_
    | refine DW_exit ?_
    | refine DW_skip ?_
    | refine DW_cond_t rfl ?_
    | refine DW_cond_f rfl ?_
    | (apply dpC rfl; case h => first | (apply Pu.ok; repeat' (first | rfl | exact .inK (by simp only [InK]; omega) | exact .inK (by simp only [InK]; simp at hg; omega) | exact .wr | constructor | decide | omega)))
    | (apply dmC rfl; case h => first | exact S_appM (f := boolV1) (us := []) (bs := u.opens) rfl rfl (.dat _ _) rfl rfl (.inr ⟨rfl, inferInstance⟩) rfl (by simp only [List.length_nil]; omega))
    | refine dpOff rfl rfl ?_
    | (apply dmOn rfl rfl; case h => first | exact S_appM (f := boolV1) (us := []) (bs := u.opens) rfl rfl (.dat _ _) rfl rfl (.inr ⟨rfl, inferInstance⟩) rfl (by simp only [List.length_nil]; omega))
    | ((first | apply dp rfl | apply dpOn rfl rfl | apply dpMay rfl rfl (by first | exact fun _ => trivial | exact fun h => ⟨h, trivial⟩ | exact fun h => ⟨h, h, trivial⟩ | exact fun h => ⟨h, h, h, trivial⟩)); case h => ((try intro hg); first | exact S_ixM rfl rfl (by omega) hui | exact S_ix_sl rfl rfl (by omega) (by omega) | exact S_store rfl rfl rfl rfl rfl hble | exact S_load_ptr (d := .own 73 1 0 u.opens.length) rfl rfl hld | exact S_ixO rfl rfl rfl (by omega) (by omega) | exact S_load_rptr rfl rfl hxb rfl | exact S_storeM (f := boolV1) rfl rfl hx rfl rfl (.inl rfl) rfl rfl | exact S_appM (f := boolV1) (us := []) (bs := u.opens) rfl rfl (.dat _ _) rfl rfl (.inr ⟨rfl, inferInstance⟩) rfl (by simp only [List.length_nil]; omega) | (apply Pu.ok; repeat' (first | rfl | exact .inK (by simp only [InK]; omega) | exact .inK (by simp only [InK]; simp at hg; omega) | exact .wr | constructor | decide | omega))))
    | refine dpickAnd rfl rfl rfl rfl rfl ?_ | refine dpickOr rfl rfl rfl rfl rfl ?_
    | (apply dt rfl; case h => first | exact S_store rfl rfl rfl rfl rfl hble | exact S_load_ptr (d := .own 73 1 0 u.opens.length) rfl rfl hld | exact S_load_rptr rfl rfl hxb rfl | exact S_storeM (f := boolV1) rfl rfl hx rfl rfl (.inl rfl) rfl rfl | exact S_alloc _ rfl | exact S_box _ rfl rfl)
    | (apply ds; case h => first | exact S_store rfl rfl rfl rfl rfl hble | exact S_load_ptr (d := .own 73 1 0 u.opens.length) rfl rfl hld | exact S_load_rptr rfl rfl hxb rfl | exact S_storeM (f := boolV1) rfl rfl hx rfl rfl (.inl rfl) rfl rfl | exact S_store rfl rfl rfl rfl rfl rfl)
    | (apply dm rfl; case h => first | exact S_store rfl rfl rfl rfl rfl hble | exact S_load_ptr (d := .own 73 1 0 u.opens.length) rfl rfl hld | exact S_load_rptr rfl rfl hxb rfl | exact S_storeM (f := boolV1) rfl rfl hx rfl rfl (.inl rfl) rfl rfl | exact M_d rfl | exact S_alloc 2001 rfl | exact S_alloc 2002 rfl | exact S_alloc 2003 rfl | exact S_alloc 2004 rfl | exact S_alloc 2005 rfl)
    | fail)
  intro _
  refine DW_freeze 73 (fun _ _ _ h => by cases h) ?_
  refine DW_freeze 68 (fun _ _ _ h => by cases h) ?_
  refine DW_slot 18 (.dat false (.slice ((gs.set w { u with opens := u.opens.set t (!b) }).map gateV))) (fun C v hm hd => rd_sl (sz := 4) hm rfl (fun h => by cases h) _ (fun i e he => ?_) (tog_cells hcs hu ?_) (by simp) hd) ?_
  · rw [List.getElem?_map] at he
    obtain ⟨a, _, rfl⟩ := Option.map_eq_some_iff.1 he
    exact CellsI.len (f := gateV) a
  · have : (List.drop 0 ((([] ++ u.opens).set ((t : Nat) : Int).toNat (!b)).map boolV1)).take u.opens.length = (u.opens.set t (!b)).map boolV1 := by
      rw [List.drop_zero, List.nil_append, Int.toNat_natCast]; exact List.take_of_length_le (by simp)
    rw [← this]
    with_unfolding_all rfl
  · repeat' (first
    | refine DW_seq ?_
    | refine DW_region ?_
    | refine DW_draw ?_
    | refine dnilP ?_
    | refine dnilD (by kernel_rfl) ?_
    | refine then_normal ?_
    | refine then_exit ?_
    | refine then_ret ?_
    | refine DW_block ?_
    | refine blk_normal ?_
    | refine blk_ret ?_
    | refine blk_hit rfl ?_
    | refine blk_miss rfl ?_
    | refine loop_exit ?_
    | refine loop_ret ?_
    | refine DW_ret ?_
    | refine DW_exit ?_
    | refine DW_skip ?_
    | refine DW_cond_t rfl ?_
    | refine DW_cond_f rfl ?_
    | (apply dpC rfl; case h => first | exact S_call h4 rfl | exact S_call s1 rfl | exact S_call s2 rfl | (apply Pu.ok; repeat' (first | rfl | exact .inK (by simp only [InK]; omega) | exact .inK (by simp only [InK]; simp at hg; omega) | exact .wr | constructor | decide | omega)))
    | refine dpOff rfl rfl ?_
    | ((first | apply dp rfl | apply dpOn rfl rfl | apply dpMay rfl rfl (by first | exact fun _ => trivial | exact fun h => ⟨h, trivial⟩ | exact fun h => ⟨h, h, trivial⟩ | exact fun h => ⟨h, h, h, trivial⟩)); case h => ((try intro hg); first | exact as_bool (b := true) (S_eql rfl rfl) rfl | exact S_call h4 rfl | exact S_call s1 rfl | exact S_call s2 rfl | (apply Pu.ok; repeat' (first | rfl | exact .inK (by simp only [InK]; omega) | exact .inK (by simp only [InK]; simp at hg; omega) | exact .wr | constructor | decide | omega))))
    | refine dpickAnd rfl rfl rfl rfl rfl ?_ | refine dpickOr rfl rfl rfl rfl rfl ?_
    | (apply dt rfl; case h => first | exact S_alloc _ rfl | exact S_box _ rfl rfl)
    | (apply ds; case h => first | exact S_store rfl rfl rfl rfl rfl rfl)
    | (apply dm rfl; case h => first | exact M_d rfl | exact S_alloc 2001 rfl | exact S_alloc 2002 rfl | exact S_alloc 2003 rfl | exact S_alloc 2004 rfl | exact S_alloc 2005 rfl)
    | fail)
    exact ret1 rfl (.inl rfl) rfl
end Go.Proofs.Ytpdoplmnedpdaaa
