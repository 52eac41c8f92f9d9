/- The law RelayAnswer. -/
import Derived.Test.YtpdoplmnedpdaaafRlF
namespace Go.Proofs.Ytpdoplmnedpdaaa
open Go.RowKit
theorem outs_answer {r : Region} {gs : List Gate} {v port back : Int} {f : Frame} {g : Gate} (hs : gs.Pairwise (fun a b => a.port < b.port)) (hg : gateAt gs port = some g) (hpb : port ≠ back) :
    (g.passes r v = false → outsG r gs v back port true f = []) ∧ (g.passes r v = true → ∃ o, outsG r gs v back port true f = [o] ∧ o.1 = port) := by
  obtain ⟨hm, hp⟩ := gateAt_mem hg
  obtain ⟨n, hn⟩ := List.getElem?_of_mem hm
  refine ⟨fun hf => ?_, fun ht => ?_⟩
  · rw [List.eq_nil_iff_forall_not_mem]
    intro o ho
    obtain ⟨u, hu, rfl, _, h2, h3⟩ := outs_mem ho
    obtain ⟨k, hk⟩ := List.getElem?_of_mem hu
    have := (port_one hs hn hk).1 (by rw [h2 rfl, hp])
    subst this
    rw [hn] at hk
    injection hk with hk
    subst hk
    rw [hf] at h3
    cases h3
  · have hin : (g.port, leaveF g f v) ∈ outsG r gs v back port true f := by
      unfold outsG
      refine List.mem_map.2 ⟨g, List.mem_filter.2 ⟨hm, ?_⟩, rfl⟩
      unfold skipG
      rw [hp, ht, decide_eq_false hpb]
      simp
    have hl := outs_known (r := r) (v := v) (port := back) (at' := port) (f := f) hs
    generalize outsG r gs v back port true f = L at hin hl
    match L, hin, hl with
    | [o], hin, _ => exact ⟨o, rfl, by rw [← List.mem_singleton.1 hin]; exact hp⟩
    | _ :: _ :: _, _, hl => simp at hl
theorem relay_book {r : Region} {gs : List Gate} {l : List Ent} {port : Int} {f : Frame} {g : Gate} (h : rightB l) : rightB (relayG r gs l port f g).2.1 := by
  unfold relayG
  split
  · exact h
  · exact (learn_right h).1
/-- The answer. -/
def backF (f : Frame) (v : Int) : Frame := ⟨f.src, f.dst, true, 0, false, v, f.typ, []⟩
theorem back_ok {f : Frame} {v : Int} (hf : f.ok) (hv : 0 ≤ v ∧ v ≤ 4094) : (backF f v).ok :=
  ⟨hf.s0, hf.s1, hf.d0, hf.d1, by show (-9223372036854775808 : Int) ≤ 0; decide, by show (0 : Int) ≤ 9223372036854775807; decide, by show -9223372036854775808 ≤ v; omega, by show v ≤ 9223372036854775807; omega, hf.t0, hf.t1, by show 0 ≤ 9223372036854775807; decide⟩
theorem back_out {r : Region} {gs : List Gate} {m : List Ent} {port back : Int} {f : Frame} {v : Int} {g gb : Gate} (hgr : rightG gs) (hm : rightB m) (hg : gateAt gs port = some g) (hpb : port ≠ back)
    (hv : v ≠ 0) (hl : lookS m v f.src = (port, true)) (hne : f.src ≠ f.dst) (hres : reservedB f.src = false) :
    (gb.passes r v = false ∨ g.passes r v = false → (relayG r gs m back (backF f v) gb).1 = []) ∧ (gb.passes r v = true → g.passes r v = true → ∃ o, (relayG r gs m back (backF f v) gb).1 = [o] ∧ o.1 = port) := by
  have hw : wayOf gb (backF f v) = v := by unfold wayOf; rw [if_pos ⟨rfl, hv⟩]; rfl
  have hb : blockB gb r (backF f v) = !gb.passes r v := by
    unfold blockB
    rw [hw, decide_eq_false hv, show (backF f v).dst = f.src from rfl, hres]
    simp
  have hlk : lookS (learnL m v (backF f v).src back) v (backF f v).dst = (port, true) := by
    rw [show (backF f v).dst = f.src from rfl, learn_other hm.s (show f.src ≠ (backF f v).src from hne), hl]
  obtain ⟨o1, o2⟩ := outs_answer (r := r) (v := v) (f := backF f v) hgr.s hg hpb
  unfold relayG
  rw [hb, hw, hlk]
  cases hp : gb.passes r v with
  | false => exact ⟨fun _ => by simp, fun h => by cases h⟩
  | true =>
    refine ⟨fun h => ?_, fun _ h2 => ?_⟩
    · rcases h with h | h
      · cases h
      · simpa using o1 h
    · simpa using o2 h2
attribute [local irreducible] SStep DW DWin DOps thenQ inBlk loopQ retQ retQG FnF FnG Wk IntKind.wrap IntKind.andI IntKind.orI IntKind.xorI IntKind.andNotI IntKind.shlI IntKind.shrI Ent.cmp bsG lookS lookE learnL learnR outsG Gate.passes wayOf gateAt leaveF
set_option maxHeartbeats 8000000 in
theorem law_RelayAnswer (r : Region) (gs : List Gate) (l : List Ent) (port back : Int) (f : Frame) (hrl : r.ways.length ≤ 9223372036854775807) (hf : f.ok) :
    FnF Try.prog 13 [r.v, .slice (gs.map gateV), .slice (l.map entV), .int .i64 port, .int .i64 back, f.v] (.bool true) := by
  refine fnF_of Try.func13 rfl rfl rfl ?_
  simp only [envOf]
  have h3 := relay_Relay r gs l port f hrl hf
  rcases relay_cases r gs l port f with ⟨e1, e2, e3⟩ | ⟨ha, g, hg, e⟩
  · generalize relayS r gs l port f = R at h3 e1 e2 e3
    obtain ⟨outs, m, e⟩ := R
    simp only at h3 e1 e2 e3
    repeat' (first
    | refine DW_seq ?_
    | refine DW_region ?_
    | refine DW_draw ?_
    | refine dnilP ?_
    | refine dnilD (by kernel_rfl) ?_
    | refine then_normal ?_
    | refine then_exit ?_
    | refine then_ret ?_
    | refine DW_block ?_
    | refine blk_normal ?_
    | refine blk_ret ?_
    | refine blk_hit rfl ?_
    | refine blk_miss rfl ?_
    | refine loop_exit ?_
    | refine loop_ret ?_
    | refine DW_ret ?_
    | refine DW_exit ?_
    | refine DW_skip ?_
    | refine DW_cond_t rfl ?_
    | refine DW_cond_f rfl ?_
    | (apply dpC rfl; case h => first | exact S_call alive9 rfl | exact S_call h3 rfl | (apply Pu.ok; repeat' (first | rfl | exact .inK (by simp only [InK]; omega) | exact .inK (by simp only [InK]; simp at hg; omega) | exact .wr | constructor | decide | omega)))
    | refine dpOff rfl rfl ?_
    | ((first | apply dp rfl | apply dpOn rfl rfl | apply dpMay rfl rfl (by first | exact fun _ => trivial | exact fun h => ⟨h, trivial⟩ | exact fun h => ⟨h, h, trivial⟩ | exact fun h => ⟨h, h, h, trivial⟩)); case h => ((try intro hg); first | exact as_bool (S_neq rfl rfl) (decide_eq_true e1) | exact S_call alive9 rfl | exact S_call h3 rfl | (apply Pu.ok; repeat' (first | rfl | exact .inK (by simp only [InK]; omega) | exact .inK (by simp only [InK]; simp at hg; omega) | exact .wr | constructor | decide | omega))))
    | refine dpickAnd rfl rfl rfl rfl rfl ?_ | refine dpickOr rfl rfl rfl rfl rfl ?_
    | (apply dt rfl; case h => first | exact S_alloc _ rfl | exact S_box _ rfl rfl)
    | (apply ds; case h => first | exact S_store rfl rfl rfl rfl rfl rfl)
    | (apply dm rfl; case h => first | exact M_d rfl | exact S_alloc 2001 rfl | exact S_alloc 2002 rfl | exact S_alloc 2003 rfl | exact S_alloc 2004 rfl | exact S_alloc 2005 rfl)
    | fail)
    exact ret1 rfl (.inl rfl) rfl
  rw [e] at h3
  have he : (relayG r gs l port f g).2.2 = 0 := by unfold relayG; split <;> rfl
  rw [he] at h3
  have hm := relay_book (r := r) (gs := gs) (port := port) (f := f) (g := g) (right_of ha.b)
  have hgr := rightG_of ha.g
  have hrr := region_right ha.r
  have hwi := way_in (hgr.g g (gateAt_mem hg).1) ha.f
  have ca := at_some hg
  have cw := law9_way g f
  have cl := book_Look2 hm (wayOf g f) f.src
  generalize relayG r gs l port f g = R at h3 hm cl
  obtain ⟨outs, m, q⟩ := R
  simp only at h3 hm cl
  generalize wayOf g f = v at cw hwi cl
  by_cases hpb : port = back
  · repeat' (first
    | refine DW_seq ?_
    | refine DW_region ?_
    | refine DW_draw ?_
    | refine dnilP ?_
    | refine dnilD (by kernel_rfl) ?_
    | refine then_normal ?_
    | refine then_exit ?_
    | refine then_ret ?_
    | refine DW_block ?_
    | refine blk_normal ?_
    | refine blk_ret ?_
    | refine blk_hit rfl ?_
    | refine blk_miss rfl ?_
    | refine loop_exit ?_
    | refine loop_ret ?_
    | refine DW_ret ?_
    | refine DW_exit ?_
    | refine DW_skip ?_
    | refine DW_cond_t rfl ?_
    | refine DW_cond_f rfl ?_
    | (apply dpC rfl; case h => first | exact S_call alive9 rfl | exact S_call h3 rfl | (apply Pu.ok; repeat' (first | rfl | exact .inK (by simp only [InK]; omega) | exact .inK (by simp only [InK]; simp at hg; omega) | exact .wr | constructor | decide | omega)))
    | refine dpOff rfl rfl ?_
    | ((first | apply dp rfl | apply dpOn rfl rfl | apply dpMay rfl rfl (by first | exact fun _ => trivial | exact fun h => ⟨h, trivial⟩ | exact fun h => ⟨h, h, trivial⟩ | exact fun h => ⟨h, h, h, trivial⟩)); case h => ((try intro hg); first | exact as_bool (b := false) (S_neq rfl rfl) rfl | exact as_bool (S_eql rfl rfl) (decide_eq_true hpb) | exact S_call alive9 rfl | exact S_call h3 rfl | (apply Pu.ok; repeat' (first | rfl | exact .inK (by simp only [InK]; omega) | exact .inK (by simp only [InK]; simp at hg; omega) | exact .wr | constructor | decide | omega))))
    | refine dpickAnd rfl rfl rfl rfl rfl ?_ | refine dpickOr rfl rfl rfl rfl rfl ?_
    | (apply dt rfl; case h => first | exact S_alloc _ rfl | exact S_box _ rfl rfl)
    | (apply ds; case h => first | exact S_store rfl rfl rfl rfl rfl rfl)
    | (apply dm rfl; case h => first | exact M_d rfl | exact S_alloc 2001 rfl | exact S_alloc 2002 rfl | exact S_alloc 2003 rfl | exact S_alloc 2004 rfl | exact S_alloc 2005 rfl)
    | fail)
    exact ret1 rfl (.inl rfl) rfl
  have hbo := back_ok hf hwi
  have c2 := relay_Relay r gs m back (backF f v) hrl hbo
  have hbc := relay_cases r gs m back (backF f v)
  have hB := fun gb => back_out (r := r) (v := v) (f := f) (gb := gb) hgr hm hg hpb
  generalize hL : lookS m v f.src = L at cl hB
  obtain ⟨at1, known⟩ := L
  simp only at cl
  repeat' (first
    | refine DW_seq ?_
    | refine DW_region ?_
    | refine DW_draw ?_
    | refine dnilP ?_
    | refine dnilD (by kernel_rfl) ?_
    | refine then_normal ?_
    | refine then_exit ?_
    | refine then_ret ?_
    | refine DW_block ?_
    | refine blk_normal ?_
    | refine blk_ret ?_
    | refine blk_hit rfl ?_
    | refine blk_miss rfl ?_
    | refine loop_exit ?_
    | refine loop_ret ?_
    | refine DW_ret ?_
    | refine DW_exit ?_
    | refine DW_skip ?_
    | refine DW_cond_t rfl ?_
    | refine DW_cond_f rfl ?_
    | refine DW_cond rfl (fun hb => ?_) (fun hb => ?_)
    | (apply dpC rfl; case h => first | exact S_call alive9 rfl | exact S_call h3 rfl | exact S_callGD ca rfl | exact S_call cw rfl | exact S_call cl rfl | (apply Pu.ok; repeat' (first | rfl | exact .inK (by simp only [InK]; omega) | exact .inK (by simp only [InK]; simp at hg; omega) | exact .wr | constructor | decide | omega)))
    | refine dpOff rfl rfl ?_
    | ((first | apply dp rfl | apply dpOn rfl rfl | apply dpMay rfl rfl (by first | exact fun _ => trivial | exact fun h => ⟨h, trivial⟩ | exact fun h => ⟨h, h, trivial⟩ | exact fun h => ⟨h, h, h, trivial⟩)); case h => ((try intro hg); first | exact as_bool (b := false) (S_neq rfl rfl) rfl | exact as_bool (S_eql rfl rfl) (decide_eq_false hpb) | exact S_call alive9 rfl | exact S_call h3 rfl | exact S_callGD ca rfl | exact S_call cw rfl | exact S_call cl rfl | (apply Pu.ok; repeat' (first | rfl | exact .inK (by simp only [InK]; omega) | exact .inK (by simp only [InK]; simp at hg; omega) | exact .wr | constructor | decide | omega))))
    | refine dpickAnd rfl rfl rfl rfl rfl ?_ | refine dpickOr rfl rfl rfl rfl rfl ?_
    | (apply dt rfl; case h => first | exact S_alloc _ rfl | exact S_box _ rfl rfl)
    | (apply ds; case h => first | exact S_store rfl rfl rfl rfl rfl rfl)
    | (apply dm rfl; case h => first | exact M_d rfl | exact S_alloc 2001 rfl | exact S_alloc 2002 rfl | exact S_alloc 2003 rfl | exact S_alloc 2004 rfl | exact S_alloc 2005 rfl)
    | fail)
  · exact ret1 rfl (.inl rfl) rfl
  simp only [Bool.or_eq_false_iff, Bool.not_eq_false', decide_eq_false_iff_not, Classical.not_not] at hb
  obtain ⟨⟨⟨⟨⟨hv0, hkn⟩, hat⟩, hne⟩, _⟩, hres⟩ := hb
  subst hkn
  have hat' : at1 = port := by simpa using hat
  subst hat'
  have hres' : reservedB f.src = false := decide_eq_false hres
  rcases hbc with ⟨e1, e2, e3⟩ | ⟨ha2, gb, hgb, e2⟩
  · generalize relayS r gs m back (backF f v) = R at c2 e1 e2 e3
    obtain ⟨outs2, m2, e2⟩ := R
    simp only at c2 e1 e2 e3
    repeat' (first
    | refine DW_seq ?_
    | refine DW_region ?_
    | refine DW_draw ?_
    | refine dnilP ?_
    | refine dnilD (by kernel_rfl) ?_
    | refine then_normal ?_
    | refine then_exit ?_
    | refine then_ret ?_
    | refine DW_block ?_
    | refine blk_normal ?_
    | refine blk_ret ?_
    | refine blk_hit rfl ?_
    | refine blk_miss rfl ?_
    | refine loop_exit ?_
    | refine loop_ret ?_
    | refine DW_ret ?_
    | refine DW_exit ?_
    | refine DW_skip ?_
    | refine DW_cond_t rfl ?_
    | refine DW_cond_f rfl ?_
    | (apply dpC rfl; case h => first | exact S_call c2 rfl | (apply Pu.ok; repeat' (first | rfl | exact .inK (by simp only [InK]; omega) | exact .inK (by simp only [InK]; simp at hg; omega) | exact .wr | constructor | decide | omega)))
    | refine dpOff rfl rfl ?_
    | ((first | apply dp rfl | apply dpOn rfl rfl | apply dpMay rfl rfl (by first | exact fun _ => trivial | exact fun h => ⟨h, trivial⟩ | exact fun h => ⟨h, h, trivial⟩ | exact fun h => ⟨h, h, h, trivial⟩)); case h => ((try intro hg); first | exact as_bool (S_neq rfl rfl) (decide_eq_true e1) | exact S_call c2 rfl | (apply Pu.ok; repeat' (first | rfl | exact .inK (by simp only [InK]; omega) | exact .inK (by simp only [InK]; simp at hg; omega) | exact .wr | constructor | decide | omega))))
    | refine dpickAnd rfl rfl rfl rfl rfl ?_ | refine dpickOr rfl rfl rfl rfl rfl ?_
    | (apply dt rfl; case h => first | exact S_alloc _ rfl | exact S_box _ rfl rfl)
    | (apply ds; case h => first | exact S_store rfl rfl rfl rfl rfl rfl)
    | (apply dm rfl; case h => first | exact M_d rfl | exact S_alloc 2001 rfl | exact S_alloc 2002 rfl | exact S_alloc 2003 rfl | exact S_alloc 2004 rfl | exact S_alloc 2005 rfl)
    | fail)
    exact ret1 rfl (.inl rfl) rfl
  rw [e2] at c2
  have he2 : (relayG r gs m back (backF f v) gb).2.2 = 0 := by unfold relayG; split <;> rfl
  rw [he2] at c2
  obtain ⟨o1, o2⟩ := hB gb hv0 rfl hne hres'
  have cb := at_some hgb
  have cpb := ref8_Passes gb r v hrr
  have cpg := ref8_Passes g r v hrr
  generalize relayG r gs m back (backF f v) gb = R at c2 o1 o2
  obtain ⟨outs2, m2, q2⟩ := R
  simp only at c2 o1 o2
  cases hp1 : gb.passes r v with
  | false =>
    have h0 := o1 (.inl hp1)
    subst h0
    rw [hp1] at cpb
    repeat' (first
    | refine DW_seq ?_
    | refine DW_region ?_
    | refine DW_draw ?_
    | refine dnilP ?_
    | refine dnilD (by kernel_rfl) ?_
    | refine then_normal ?_
    | refine then_exit ?_
    | refine then_ret ?_
    | refine DW_block ?_
    | refine blk_normal ?_
    | refine blk_ret ?_
    | refine blk_hit rfl ?_
    | refine blk_miss rfl ?_
    | refine loop_exit ?_
    | refine loop_ret ?_
    | refine DW_ret ?_
    | refine DW_exit ?_
    | refine DW_skip ?_
    | refine DW_cond_t rfl ?_
    | refine DW_cond_f rfl ?_
    | (apply dpC rfl; case h => first | exact S_call c2 rfl | exact S_callGD cb rfl | exact S_call cpb rfl | (apply Pu.ok; repeat' (first | rfl | exact .inK (by simp only [InK]; omega) | exact .inK (by simp only [InK]; simp at hg; omega) | exact .wr | constructor | decide | omega)))
    | refine dpOff rfl rfl ?_
    | ((first | apply dp rfl | apply dpOn rfl rfl | apply dpMay rfl rfl (by first | exact fun _ => trivial | exact fun h => ⟨h, trivial⟩ | exact fun h => ⟨h, h, trivial⟩ | exact fun h => ⟨h, h, h, trivial⟩)); case h => ((try intro hg); first | exact as_bool (b := false) (S_neq rfl rfl) rfl | exact as_bool (b := true) (S_eql rfl rfl) rfl | exact S_call c2 rfl | exact S_callGD cb rfl | exact S_call cpb rfl | (apply Pu.ok; repeat' (first | rfl | exact .inK (by simp only [InK]; omega) | exact .inK (by simp only [InK]; simp at hg; omega) | exact .wr | constructor | decide | omega))))
    | refine dpickAnd rfl rfl rfl rfl rfl ?_ | refine dpickOr rfl rfl rfl rfl rfl ?_
    | (apply dt rfl; case h => first | exact S_alloc _ rfl | exact S_box _ rfl rfl)
    | (apply ds; case h => first | exact S_store rfl rfl rfl rfl rfl rfl)
    | (apply dm rfl; case h => first | exact M_d rfl | exact S_alloc 2001 rfl | exact S_alloc 2002 rfl | exact S_alloc 2003 rfl | exact S_alloc 2004 rfl | exact S_alloc 2005 rfl)
    | fail)
    exact ret1 rfl (.inl rfl) rfl
  | true =>
    rw [hp1] at cpb
    cases hp2 : g.passes r v with
    | false =>
      have h0 := o1 (.inr hp2)
      subst h0
      rw [hp2] at cpg
      repeat' (first
    | refine DW_seq ?_
    | refine DW_region ?_
    | refine DW_draw ?_
    | refine dnilP ?_
    | refine dnilD (by kernel_rfl) ?_
    | refine then_normal ?_
    | refine then_exit ?_
    | refine then_ret ?_
    | refine DW_block ?_
    | refine blk_normal ?_
    | refine blk_ret ?_
    | refine blk_hit rfl ?_
    | refine blk_miss rfl ?_
    | refine loop_exit ?_
    | refine loop_ret ?_
    | refine DW_ret ?_
    | refine DW_exit ?_
    | refine DW_skip ?_
    | refine DW_cond_t rfl ?_
    | refine DW_cond_f rfl ?_
    | (apply dpC rfl; case h => first | exact S_call c2 rfl | exact S_callGD cb rfl | exact S_callGD ca rfl | exact S_call cpb rfl | exact S_call cpg rfl | (apply Pu.ok; repeat' (first | rfl | exact .inK (by simp only [InK]; omega) | exact .inK (by simp only [InK]; simp at hg; omega) | exact .wr | constructor | decide | omega)))
    | refine dpOff rfl rfl ?_
    | ((first | apply dp rfl | apply dpOn rfl rfl | apply dpMay rfl rfl (by first | exact fun _ => trivial | exact fun h => ⟨h, trivial⟩ | exact fun h => ⟨h, h, trivial⟩ | exact fun h => ⟨h, h, h, trivial⟩)); case h => ((try intro hg); first | exact as_bool (b := false) (S_neq rfl rfl) rfl | exact as_bool (b := true) (S_eql rfl rfl) rfl | exact S_call c2 rfl | exact S_callGD cb rfl | exact S_callGD ca rfl | exact S_call cpb rfl | exact S_call cpg rfl | (apply Pu.ok; repeat' (first | rfl | exact .inK (by simp only [InK]; omega) | exact .inK (by simp only [InK]; simp at hg; omega) | exact .wr | constructor | decide | omega))))
    | refine dpickAnd rfl rfl rfl rfl rfl ?_ | refine dpickOr rfl rfl rfl rfl rfl ?_
    | (apply dt rfl; case h => first | exact S_alloc _ rfl | exact S_box _ rfl rfl)
    | (apply ds; case h => first | exact S_store rfl rfl rfl rfl rfl rfl)
    | (apply dm rfl; case h => first | exact M_d rfl | exact S_alloc 2001 rfl | exact S_alloc 2002 rfl | exact S_alloc 2003 rfl | exact S_alloc 2004 rfl | exact S_alloc 2005 rfl)
    | fail)
      exact ret1 rfl (.inl rfl) rfl
    | true =>
      obtain ⟨o, rfl, ho⟩ := o2 hp1 hp2
      rw [hp2] at cpg
      have hx : [o][(0 : Int).toNat]? = some o := rfl
      repeat' (first
    | refine DW_seq ?_
    | refine DW_region ?_
    | refine DW_draw ?_
    | refine dnilP ?_
    | refine dnilD (by kernel_rfl) ?_
    | refine then_normal ?_
    | refine then_exit ?_
    | refine then_ret ?_
    | refine DW_block ?_
    | refine blk_normal ?_
    | refine blk_ret ?_
    | refine blk_hit rfl ?_
    | refine blk_miss rfl ?_
    | refine loop_exit ?_
    | refine loop_ret ?_
    | refine DW_ret ?_
    | refine DW_exit ?_
    | refine DW_skip ?_
    | refine DW_cond_t rfl ?_
    | refine DW_cond_f rfl ?_
    | (apply dpC rfl; case h => first | exact S_call c2 rfl | exact S_callGD cb rfl | exact S_callGD ca rfl | exact S_call cpb rfl | exact S_call cpg rfl | (apply Pu.ok; repeat' (first | rfl | exact .inK (by simp only [InK]; omega) | exact .inK (by simp only [InK]; simp at hg; omega) | exact .wr | constructor | decide | omega)))
    | refine dpOff rfl rfl ?_
    | ((first | apply dp rfl | apply dpOn rfl rfl | apply dpMay rfl rfl (by first | exact fun _ => trivial | exact fun h => ⟨h, trivial⟩ | exact fun h => ⟨h, h, trivial⟩ | exact fun h => ⟨h, h, h, trivial⟩)); case h => ((try intro hg); first | exact as_bool (b := false) (S_neq rfl rfl) rfl | exact as_bool (b := true) (S_eql rfl rfl) rfl | exact S_ixM (us := [o]) (f := outV) rfl rfl (by decide) hx | exact as_bool (S_eql rfl rfl) (decide_eq_true ho) | exact S_call c2 rfl | exact S_callGD cb rfl | exact S_callGD ca rfl | exact S_call cpb rfl | exact S_call cpg rfl | (apply Pu.ok; repeat' (first | rfl | exact .inK (by simp only [InK]; omega) | exact .inK (by simp only [InK]; simp at hg; omega) | exact .wr | constructor | decide | omega))))
    | refine dpickAnd rfl rfl rfl rfl rfl ?_ | refine dpickOr rfl rfl rfl rfl rfl ?_
    | (apply dt rfl; case h => first | exact S_alloc _ rfl | exact S_box _ rfl rfl)
    | (apply ds; case h => first | exact S_store rfl rfl rfl rfl rfl rfl)
    | (apply dm rfl; case h => first | exact M_d rfl | exact S_alloc 2001 rfl | exact S_alloc 2002 rfl | exact S_alloc 2003 rfl | exact S_alloc 2004 rfl | exact S_alloc 2005 rfl)
    | fail)
      exact ret1 rfl (.inl rfl) rfl
end Go.Proofs.Ytpdoplmnedpdaaa
