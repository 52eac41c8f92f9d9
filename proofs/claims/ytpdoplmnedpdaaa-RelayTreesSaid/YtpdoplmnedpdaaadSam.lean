/- Contracts: the document's SameOut of what is the same; the closed call that is asked first. -/
import Derived.Test.YtpdoplmnedpdaaadRlr
namespace Go.Proofs.Ytpdoplmnedpdaaa
open Go.RowKit
theorem Frame.same_self (f : Frame) : f.same f = true := by unfold Frame.same; simp
theorem leave_ok {g : Gate} {f : Frame} {v : Int} (hf : f.ok) (hv : 0 ≤ v ∧ v ≤ 4094) : (leaveF g f v).ok := by
  have h := hf
  unfold leaveF
  split
  · exact ⟨h.d0, h.d1, h.s0, h.s1, by simp, by simp, by simp, by simp, h.t0, h.t1, h.l⟩
  · refine ⟨h.d0, h.d1, h.s0, h.s1, ?_, ?_, by simp only; omega, by simp only; omega, h.t0, h.t1, h.l⟩
    · simp only; split
      · exact h.p0
      · omega
    · simp only; split
      · exact h.p1
      · omega
theorem relay_cases (r : Region) (gs : List Gate) (l : List Ent) (port : Int) (f : Frame) :
    ((relayS r gs l port f).2.2 ≠ 0 ∧ (relayS r gs l port f).1 = [] ∧ (relayS r gs l port f).2.1 = []) ∨ (AllRight r gs l f ∧ ∃ g, gateAt gs port = some g ∧ relayS r gs l port f = relayG r gs l port f g) := by
  by_cases h1 : r.wrong = 0
  case neg => unfold relayS; rw [if_pos h1]; exact .inl ⟨h1, rfl, rfl⟩
  by_cases h2 : (wrongG gs).1 = 0
  case neg => unfold relayS; rw [if_neg (fun h => h h1), if_pos h2]; exact .inl ⟨h2, rfl, rfl⟩
  by_cases h3 : (wrongB l).1 = 0
  case neg => unfold relayS; rw [if_neg (fun h => h h1), if_neg (fun h => h h2), if_pos h3]; exact .inl ⟨h3, rfl, rfl⟩
  by_cases h4 : f.wrong = 0
  case neg => unfold relayS; rw [if_neg (fun h => h h1), if_neg (fun h => h h2), if_neg (fun h => h h3), if_pos h4]; exact .inl ⟨h4, rfl, rfl⟩
  rw [relayS_right ⟨h1, h2, h3, h4⟩]
  cases hg : gateAt gs port with
  | none => rw [relayT_none hg]; exact .inl ⟨by decide, rfl, rfl⟩
  | some g => rw [relayT_some hg]; exact .inr ⟨⟨h1, h2, h3, h4⟩, g, rfl, rfl⟩
theorem gateAt_mem {gs : List Gate} {port : Int} {g : Gate} (h : gateAt gs port = some g) : g ∈ gs ∧ g.port = port := by
  unfold gateAt at h
  exact ⟨List.mem_of_find?_eq_some h, by have := List.find?_some h; simpa using this⟩
theorem outs_ok {r : Region} {gs : List Gate} {l : List Ent} {port : Int} {f : Frame} (hf : f.ok) : ∀ o ∈ (relayS r gs l port f).1, o.2.ok := by
  rcases relay_cases r gs l port f with ⟨_, h, _⟩ | ⟨ha, g, hg, h⟩
  · rw [h]; intro o ho; cases ho
  · rw [h]
    unfold relayG
    split
    · intro o ho; cases ho
    · intro o ho
      obtain ⟨hm, _⟩ := gateAt_mem hg
      have hw := way_in ((rightG_of ha.g).g g hm) ha.f
      obtain ⟨u, _, rfl⟩ := List.mem_map.1 ho
      exact leave_ok hf hw
def aliveF : Frame := ⟨9, 8, true, 0, false, 5, 2048, []⟩
def aliveR : Region := ⟨[114], 0, []⟩
def aliveG (p : Int) : Gate := ⟨p, [5], 0, [true]⟩
theorem alive_relay : relayS aliveR [aliveG 1, aliveG 2, aliveG 3] [] 1 aliveF = ([(2, aliveF), (3, aliveF)], [⟨5, 8, 1, 0⟩], 0) := by rfl
attribute [local irreducible] SStep DW DWin DOps thenQ inBlk loopQ retQ retQG FnF FnG Wk IntKind.wrap IntKind.andI IntKind.orI IntKind.xorI IntKind.andNotI IntKind.shlI IntKind.shrI Ent.cmp bsG lookS lookE learnL learnR outsG Gate.passes wayOf leaveF gateAt
set_option maxHeartbeats 1000000 in
theorem ref8_SameOut (a : List OutF) (ha : ∀ o ∈ a, o.2.ok) : FnF Try.prog 31 [.slice (a.map outV), .slice (a.map outV)] (.bool true) := by
  refine fnF_of Try.func31 rfl rfl rfl ?_
  simp only [envOf]
  have hml : (a.map outV).length = a.length := by simp
  repeat' (first
    | refine DW_seq ?_
    | refine DW_region ?_
    | refine DW_draw ?_
    | refine dnilP ?_
    | refine dnilD (by kernel_rfl) ?_
    | refine then_normal ?_
    | refine then_exit ?_
    | refine then_ret ?_
    | refine DW_block ?_
    | refine blk_normal ?_
    | refine blk_ret ?_
    | refine blk_hit rfl ?_
    | refine blk_miss rfl ?_
    | refine loop_exit ?_
    | refine loop_ret ?_
    | refine DW_ret ?_
    | refine DW_exit ?_
    | refine DW_skip ?_
    | refine DW_cond_t rfl ?_
    | refine DW_cond_f rfl ?_
    | (apply dpC rfl; case h => first | (apply Pu.ok; repeat' (first | rfl | exact .inK (by simp only [InK]; omega) | exact .inK (by simp only [InK]; simp at hg; omega) | exact .wr | constructor | decide | omega)))
    | refine dpOff rfl rfl ?_
    | ((first | apply dp rfl | apply dpOn rfl rfl | apply dpMay rfl rfl (by first | exact fun _ => trivial | exact fun h => ⟨h, trivial⟩ | exact fun h => ⟨h, h, trivial⟩ | exact fun h => ⟨h, h, h, trivial⟩)); case h => ((try intro hg); first | exact as_bool (S_neq rfl rfl) (ne_self _) | (apply Pu.ok; repeat' (first | rfl | exact .inK (by simp only [InK]; omega) | exact .inK (by simp only [InK]; simp at hg; omega) | exact .wr | constructor | decide | omega))))
    | refine dpickAnd rfl rfl rfl rfl rfl ?_ | refine dpickOr rfl rfl rfl rfl rfl ?_
    | (apply dt rfl; case h => first | exact S_alloc _ rfl | exact S_box _ rfl rfl)
    | (apply ds; case h => first | exact S_store rfl rfl rfl rfl rfl rfl)
    | (apply dm rfl; case h => first | exact M_d rfl | exact S_alloc 2001 rfl | exact S_alloc 2002 rfl | exact S_alloc 2003 rfl | exact S_alloc 2004 rfl | exact S_alloc 2005 rfl)
    | fail)
  refine DW_len 0 rfl (fun hlen => ?_)
  refine DW_loop (fun k : Nat => ⟨[(0, .dat false (.slice (a.map outV))), (1, .dat false (.slice (a.map outV))), (12, .dat true (.int .i64 (a.map outV).length)), (13, .dat true (.int .i64 k))], [], 42⟩)
    (fun k => k ≤ a.length) (fun k => a.length - k) 0 (Nat.zero_le _)
    (Wk_gen some rfl rfl (by (repeat' (first | exact trivial | rfl | exact listLe_map _ | exact ⟨_, rfl, .inl rfl⟩ | exact ⟨_, rfl, .inr (.inl rfl)⟩ | exact ⟨_, rfl, .inr (.inr rfl)⟩ | refine ⟨_, _, rfl, rfl, ?_⟩ | exact ⟨_, rfl, rfl⟩ | exact ⟨_, _, _, _, rfl, rfl, rfl⟩ | exact ⟨_, rfl⟩ | exact ⟨_, _, rfl⟩ | apply And.intro))) (by (repeat' (first | exact trivial | rfl | exact listLe_map _ | exact ⟨_, rfl, .inl rfl⟩ | exact ⟨_, rfl, .inr (.inl rfl)⟩ | exact ⟨_, rfl, .inr (.inr rfl)⟩ | refine ⟨_, _, rfl, rfl, ?_⟩ | exact ⟨_, rfl, rfl⟩ | exact ⟨_, _, _, _, rfl, rfl, rfl⟩ | exact ⟨_, rfl⟩ | exact ⟨_, _, rfl⟩ | apply And.intro)))) (fun k hk => ?_)
  by_cases hlt : k < a.length
  · have hx : a[(k : Int).toNat]? = some a[k] := by simp [hlt]
    have ho := ha a[k] (List.getElem_mem hlt)
    generalize a[k] = o at hx ho
    have hs := ref2_Same o.2 o.2 ho ho
    rw [Frame.same_self] at hs
    repeat' (first
    | refine DW_seq ?_
    | refine DW_region ?_
    | refine DW_draw ?_
    | refine dnilP ?_
    | refine dnilD (by kernel_rfl) ?_
    | refine then_normal ?_
    | refine then_exit ?_
    | refine then_ret ?_
    | refine DW_block ?_
    | refine blk_normal ?_
    | refine blk_ret ?_
    | refine blk_hit rfl ?_
    | refine blk_miss rfl ?_
    | refine loop_exit ?_
    | refine loop_ret ?_
    | refine DW_ret ?_
    | refine DW_exit ?_
    | refine DW_skip ?_
    | refine DW_cond_t rfl ?_
    | refine DW_cond_f rfl ?_
    | (apply dpC rfl; case h => first | exact S_call hs rfl | (apply Pu.ok; repeat' (first | rfl | exact .inK (by simp only [InK]; omega) | exact .inK (by simp only [InK]; simp at hg; omega) | exact .wr | constructor | decide | omega)))
    | refine dpOff rfl rfl ?_
    | ((first | apply dp rfl | apply dpOn rfl rfl | apply dpMay rfl rfl (by first | exact fun _ => trivial | exact fun h => ⟨h, trivial⟩ | exact fun h => ⟨h, h, trivial⟩ | exact fun h => ⟨h, h, h, trivial⟩)); case h => ((try intro hg); first | exact as_bool (S_lss rfl rfl) (decide_eq_true (by omega : (k : Int) < ((a.map outV).length : Int))) | exact S_ixM rfl rfl (by omega) hx | exact as_bool (S_neq rfl rfl) (ne_self _) | exact S_call hs rfl | (apply Pu.ok; repeat' (first | rfl | exact .inK (by simp only [InK]; omega) | exact .inK (by simp only [InK]; simp at hg; omega) | exact .wr | constructor | decide | omega))))
    | refine dpickAnd rfl rfl rfl rfl rfl ?_ | refine dpickOr rfl rfl rfl rfl rfl ?_
    | (apply dt rfl; case h => first | exact S_alloc _ rfl | exact S_box _ rfl rfl)
    | (apply ds; case h => first | exact S_store rfl rfl rfl rfl rfl rfl)
    | (apply dm rfl; case h => first | exact M_d rfl | exact S_alloc 2001 rfl | exact S_alloc 2002 rfl | exact S_alloc 2003 rfl | exact S_alloc 2004 rfl | exact S_alloc 2005 rfl)
    | fail)
    exact loop_again (k + 1) hlt (by omega) (Wk_gen some rfl rfl (by (repeat' (first | exact trivial | rfl | exact listLe_map _ | exact ⟨_, rfl, .inl rfl⟩ | exact ⟨_, rfl, .inr (.inl rfl)⟩ | exact ⟨_, rfl, .inr (.inr rfl)⟩ | refine ⟨_, _, rfl, rfl, ?_⟩ | exact ⟨_, rfl, rfl⟩ | exact ⟨_, _, _, _, rfl, rfl, rfl⟩ | exact ⟨_, rfl⟩ | exact ⟨_, _, rfl⟩ | apply And.intro))) (by (repeat' (first | exact trivial | rfl | exact listLe_map _ | exact ⟨_, rfl, .inl rfl⟩ | exact ⟨_, rfl, .inr (.inl rfl)⟩ | exact ⟨_, rfl, .inr (.inr rfl)⟩ | refine ⟨_, _, rfl, rfl, ?_⟩ | exact ⟨_, rfl, rfl⟩ | exact ⟨_, _, _, _, rfl, rfl, rfl⟩ | exact ⟨_, rfl⟩ | exact ⟨_, _, rfl⟩ | apply And.intro))))
  · repeat' (first
    | refine DW_seq ?_
    | refine DW_region ?_
    | refine DW_draw ?_
    | refine dnilP ?_
    | refine dnilD (by kernel_rfl) ?_
    | refine then_normal ?_
    | refine then_exit ?_
    | refine then_ret ?_
    | refine DW_block ?_
    | refine blk_normal ?_
    | refine blk_ret ?_
    | refine blk_hit rfl ?_
    | refine blk_miss rfl ?_
    | refine loop_exit ?_
    | refine loop_ret ?_
    | refine DW_ret ?_
    | refine DW_exit ?_
    | refine DW_skip ?_
    | refine DW_cond_t rfl ?_
    | refine DW_cond_f rfl ?_
    | (apply dpC rfl; case h => first | (apply Pu.ok; repeat' (first | rfl | exact .inK (by simp only [InK]; omega) | exact .inK (by simp only [InK]; simp at hg; omega) | exact .wr | constructor | decide | omega)))
    | refine dpOff rfl rfl ?_
    | ((first | apply dp rfl | apply dpOn rfl rfl | apply dpMay rfl rfl (by first | exact fun _ => trivial | exact fun h => ⟨h, trivial⟩ | exact fun h => ⟨h, h, trivial⟩ | exact fun h => ⟨h, h, h, trivial⟩)); case h => ((try intro hg); first | exact as_bool (S_lss rfl rfl) (decide_eq_false (by omega : ¬ (k : Int) < ((a.map outV).length : Int))) | (apply Pu.ok; repeat' (first | rfl | exact .inK (by simp only [InK]; omega) | exact .inK (by simp only [InK]; simp at hg; omega) | exact .wr | constructor | decide | omega))))
    | refine dpickAnd rfl rfl rfl rfl rfl ?_ | refine dpickOr rfl rfl rfl rfl rfl ?_
    | (apply dt rfl; case h => first | exact S_alloc _ rfl | exact S_box _ rfl rfl)
    | (apply ds; case h => first | exact S_store rfl rfl rfl rfl rfl rfl)
    | (apply dm rfl; case h => first | exact M_d rfl | exact S_alloc 2001 rfl | exact S_alloc 2002 rfl | exact S_alloc 2003 rfl | exact S_alloc 2004 rfl | exact S_alloc 2005 rfl)
    | fail)
    exact ret1 rfl (.inl rfl) rfl
theorem law9_gate (p : Int) : FnF Try.prog 60 [.int .i64 p] (.agg (gateV (aliveG p))) := by
  refine fnF_of Try.func60 rfl rfl rfl ?_
  simp only [envOf]
  repeat' (first
    | refine DW_seq ?_
    | refine DW_region ?_
    | refine DW_draw ?_
    | refine dnilP ?_
    | refine dnilD (by kernel_rfl) ?_
    | refine then_normal ?_
    | refine then_exit ?_
    | refine then_ret ?_
    | refine DW_block ?_
    | refine blk_normal ?_
    | refine blk_ret ?_
    | refine blk_hit rfl ?_
    | refine blk_miss rfl ?_
    | refine loop_exit ?_
    | refine loop_ret ?_
    | refine DW_ret ?_
    | refine DW_exit ?_
    | refine DW_skip ?_
    | refine DW_cond_t rfl ?_
    | refine DW_cond_f rfl ?_
    | (apply dpC rfl; case h => first | (apply Pu.ok; repeat' (first | rfl | exact .inK (by simp only [InK]; omega) | exact .inK (by simp only [InK]; simp at hg; omega) | exact .wr | constructor | decide | omega)))
    | refine dpOff rfl rfl ?_
    | ((first | apply dp rfl | apply dpOn rfl rfl | apply dpMay rfl rfl (by first | exact fun _ => trivial | exact fun h => ⟨h, trivial⟩ | exact fun h => ⟨h, h, trivial⟩ | exact fun h => ⟨h, h, h, trivial⟩)); case h => ((try intro hg); first | (apply Pu.ok; repeat' (first | rfl | exact .inK (by simp only [InK]; omega) | exact .inK (by simp only [InK]; simp at hg; omega) | exact .wr | constructor | decide | omega))))
    | refine dpickAnd rfl rfl rfl rfl rfl ?_ | refine dpickOr rfl rfl rfl rfl rfl ?_
    | (apply dt rfl; case h => first | exact S_alloc _ rfl | exact S_box _ rfl rfl)
    | (apply ds; case h => first | exact S_store rfl rfl rfl rfl rfl rfl)
    | (apply dm rfl; case h => first | exact M_d rfl | exact S_alloc 2001 rfl | exact S_alloc 2002 rfl | exact S_alloc 2003 rfl | exact S_alloc 2004 rfl | exact S_alloc 2005 rfl)
    | fail)
  exact retN (.cellA inferInstance rfl rfl rfl rfl (.inl rfl) .nil) rfl
set_option maxHeartbeats 1000000 in
theorem alive9 : FnF Try.prog 32 [] (.bool true) := by
  refine fnF_of Try.func32 rfl rfl rfl ?_
  simp only [envOf]
  have h1 : FnF Try.prog 29 [.agg [.str [114], .int .i64 0, .slice []], .slice [gateV (aliveG 1), gateV (aliveG 2), gateV (aliveG 3)], .slice [], .int .i64 1, .agg [.int .u64 9, .int .u64 8, .bool true, .int .i64 0, .bool false, .int .i64 5, .int .i64 2048, .slice []]]
      (.tuple [.slice [outV (2, aliveF), outV (3, aliveF)], .slice [entV ⟨5, 8, 1, 0⟩], .int .i64 0]) := by
    have h := relay_Relay aliveR [aliveG 1, aliveG 2, aliveG 3] [] 1 aliveF (by decide) (by unfold aliveF; constructor <;> decide)
    rw [alive_relay] at h
    exact h
  repeat' (first
    | refine DW_seq ?_
    | refine DW_region ?_
    | refine DW_draw ?_
    | refine dnilP ?_
    | refine dnilD (by kernel_rfl) ?_
    | refine then_normal ?_
    | refine then_exit ?_
    | refine then_ret ?_
    | refine DW_block ?_
    | refine blk_normal ?_
    | refine blk_ret ?_
    | refine blk_hit rfl ?_
    | refine blk_miss rfl ?_
    | refine loop_exit ?_
    | refine loop_ret ?_
    | refine DW_ret ?_
    | refine DW_exit ?_
    | refine DW_skip ?_
    | refine DW_cond_t rfl ?_
    | refine DW_cond_f rfl ?_
    | (apply dpC rfl; case h => first | exact S_call (law9_gate _) rfl | exact S_call h1 rfl | (apply Pu.ok; repeat' (first | rfl | exact .inK (by simp only [InK]; omega) | exact .inK (by simp only [InK]; simp at hg; omega) | exact .wr | constructor | decide | omega)))
    | refine dpOff rfl rfl ?_
    | ((first | apply dp rfl | apply dpOn rfl rfl | apply dpMay rfl rfl (by first | exact fun _ => trivial | exact fun h => ⟨h, trivial⟩ | exact fun h => ⟨h, h, trivial⟩ | exact fun h => ⟨h, h, h, trivial⟩)); case h => ((try intro hg); first | exact as_bool (b := true) (S_eql rfl rfl) rfl | exact S_call (law9_gate _) rfl | exact S_call h1 rfl | (apply Pu.ok; repeat' (first | rfl | exact .inK (by simp only [InK]; omega) | exact .inK (by simp only [InK]; simp at hg; omega) | exact .wr | constructor | decide | omega))))
    | refine dpickAnd rfl rfl rfl rfl rfl ?_ | refine dpickOr rfl rfl rfl rfl rfl ?_
    | (apply dt rfl; case h => first | exact S_alloc _ rfl | exact S_box _ rfl rfl)
    | (apply ds; case h => first | exact S_store rfl rfl rfl rfl rfl rfl)
    | (apply dm rfl; case h => first | exact M_d rfl | exact S_alloc 2001 rfl | exact S_alloc 2002 rfl | exact S_alloc 2003 rfl | exact S_alloc 2004 rfl | exact S_alloc 2005 rfl)
    | fail)
  exact ret1 rfl (.inl rfl) rfl
set_option maxHeartbeats 2000000 in
theorem law_RelayTells (r : Region) (gs : List Gate) (l : List Ent) (port : Int) (f : Frame) (hrl : r.ways.length ≤ 9223372036854775807) (hf : f.ok) :
    FnF Try.prog 8 [r.v, .slice (gs.map gateV), .slice (l.map entV), .int .i64 port, f.v] (.bool true) := by
  refine fnF_of Try.func8 rfl rfl rfl ?_
  simp only [envOf]
  have h1 : FnF Try.prog 27 [.slice (gs.map gateV)] (.agg [.int .i64 (wrongG gs).1, .int .i64 (wrongG gs).2]) := relay_Wrong gs
  have h2 : FnF Try.prog 28 [.slice (gs.map gateV)] (.agg [.int .i64 (wrongG gs).1, .int .i64 (wrongG gs).2]) := ref8_WrongGates gs
  have hfalse : (!true) = false := rfl
  have h3 := relay_Relay r gs l port f hrl hf
  have h4 := ref8_Relay r gs l port f hrl hf
  have s1 := ref8_SameOut (relayS r gs l port f).1 (outs_ok hf)
  have s2 := ref8_Same (relayS r gs l port f).2.1
  have eqf : ∀ (x : Int) (y : Nat), eqL [V.int .i64 x, V.int .i64 y] [V.int .i64 x, V.int .i64 y] = some true := fun x y => by simp [eqL, V.eq1]
  generalize relayS r gs l port f = R at h3 h4 s1 s2
  repeat' (first
    | refine DW_seq ?_
    | refine DW_region ?_
    | refine DW_draw ?_
    | refine dnilP ?_
    | refine dnilD (by kernel_rfl) ?_
    | refine then_normal ?_
    | refine then_exit ?_
    | refine then_ret ?_
    | refine DW_block ?_
    | refine blk_normal ?_
    | refine blk_ret ?_
    | refine blk_hit rfl ?_
    | refine blk_miss rfl ?_
    | refine loop_exit ?_
    | refine loop_ret ?_
    | refine DW_ret ?_
    | refine DW_exit ?_
    | refine DW_skip ?_
    | refine DW_cond_t rfl ?_
    | refine DW_cond_f rfl ?_
    | (apply dpC rfl; case h => first | exact S_call h1 rfl | exact S_call h2 rfl | exact S_call h3 rfl | exact S_callGD h4 rfl | exact S_call s1 rfl | exact S_call s2 rfl | (apply Pu.ok; repeat' (first | rfl | exact .inK (by simp only [InK]; omega) | exact .inK (by simp only [InK]; simp at hg; omega) | exact .wr | constructor | decide | omega)))
    | refine dpOff rfl rfl ?_
    | ((first | apply dp rfl | apply dpOn rfl rfl | apply dpMay rfl rfl (by first | exact fun _ => trivial | exact fun h => ⟨h, trivial⟩ | exact fun h => ⟨h, h, trivial⟩ | exact fun h => ⟨h, h, h, trivial⟩)); case h => ((try intro hg); first | exact as_bool (S_neqA rfl rfl rfl rfl (eqf _ _)) hfalse | exact as_bool (S_eql rfl rfl) (eq_self _) | exact S_call h1 rfl | exact S_call h2 rfl | exact S_call h3 rfl | exact S_callGD h4 rfl | exact S_call s1 rfl | exact S_call s2 rfl | (apply Pu.ok; repeat' (first | rfl | exact .inK (by simp only [InK]; omega) | exact .inK (by simp only [InK]; simp at hg; omega) | exact .wr | constructor | decide | omega))))
    | refine dpickAnd rfl rfl rfl rfl rfl ?_ | refine dpickOr rfl rfl rfl rfl rfl ?_
    | (apply dt rfl; case h => first | exact S_alloc _ rfl | exact S_box _ rfl rfl)
    | (apply ds; case h => first | exact S_store rfl rfl rfl rfl rfl rfl)
    | (apply dm rfl; case h => first | exact M_d rfl | exact S_alloc 2001 rfl | exact S_alloc 2002 rfl | exact S_alloc 2003 rfl | exact S_alloc 2004 rfl | exact S_alloc 2005 rfl)
    | fail)
  exact ret1 rfl (.inl rfl) rfl
end Go.Proofs.Ytpdoplmnedpdaaa
