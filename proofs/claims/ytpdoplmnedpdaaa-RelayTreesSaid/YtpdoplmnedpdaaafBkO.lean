/- The law BookOld. -/
import Derived.Test.YtpdoplmnedpdaaadBkl
namespace Go.Proofs.Ytpdoplmnedpdaaa
open Go.RowKit
theorem old_twice {l : List Ent} {a b : Int} (ha : 0 ≤ a) (hb : 0 ≤ b) : oldL (oldL l a) b = oldL l (a + b) := by
  unfold oldL
  rw [List.filterMap_filterMap]
  congr 1
  funext e
  unfold Ent.old
  by_cases h : a ≤ 300 - e.age
  · rw [if_pos ⟨ha, h⟩]
    simp only [Option.bind_some]
    by_cases h2 : b ≤ 300 - (e.age + a)
    · rw [if_pos ⟨hb, h2⟩, if_pos (by omega), Int.add_assoc]
    · rw [if_neg (by omega), if_neg (by omega)]
  · rw [if_neg (by omega), if_neg (by omega)]; rfl
theorem old_all {l : List Ent} (h : ∀ e ∈ l, 0 ≤ e.age ∧ e.age ≤ 300) : oldL l 301 = [] := by
  unfold oldL
  rw [List.filterMap_eq_nil_iff]
  intro e he
  have := h e he
  unfold Ent.old
  rw [if_neg (by omega)]
theorem old_none : ∀ {l : List Ent}, (∀ e ∈ l, 0 ≤ e.age ∧ e.age ≤ 300) → oldL l 0 = l
  | [], _ => rfl
  | e :: r, h => by
    have h1 := h e (List.mem_cons.2 (.inl rfl))
    have ih := old_none (l := r) (fun x hx => h x (List.mem_cons.2 (.inr hx)))
    have he : e.old 0 = some e := by unfold Ent.old; rw [if_pos (by omega), Int.add_zero]
    unfold oldL at *
    rw [List.filterMap_cons, he, ih]
theorem old_ages {l : List Ent} {a : Int} (h : ∀ e ∈ l, 0 ≤ e.age ∧ e.age ≤ 300) : ∀ e ∈ oldL l a, 0 ≤ e.age ∧ e.age ≤ 300 := by
  intro e he
  obtain ⟨x, hx, h2⟩ := List.mem_filterMap.1 he
  have := h x hx
  unfold Ent.old at h2
  split at h2
  · injection h2 with h2
    subst h2
    simp only
    omega
  · cases h2
theorem old_len {l : List Ent} {a : Int} : (oldL l a).length ≤ l.length := List.length_filterMap_le _ _
theorem right_ages {l : List Ent} (h : rightB l) : ∀ e ∈ l, 0 ≤ e.age ∧ e.age ≤ 300 := fun e he => by
  have := h.w e he
  unfold Ent.bad at this
  omega
attribute [local irreducible] SStep DW DWin DOps thenQ inBlk loopQ retQ retQG FnF FnG Wk IntKind.wrap IntKind.andI IntKind.orI IntKind.xorI IntKind.andNotI IntKind.shlI IntKind.shrI Ent.cmp bsG wrongB oldL
set_option maxHeartbeats 2000000 in
theorem law_BookOld (l : List Ent) (a b : Int) : FnF Try.prog 4 [.slice (l.map entV), .int .i64 a, .int .i64 b] (.bool true) := by
  refine fnF_of Try.func4 rfl rfl rfl ?_
  simp only [envOf]
  have hW : FnF Try.prog 16 [.slice (l.map entV)] (.agg [.int .i64 (wrongB l).1, .int .i64 (wrongB l).2]) := book_Wrong l
  repeat' (first
    | refine DW_seq ?_
    | refine DW_region ?_
    | refine DW_draw ?_
    | refine dnilP ?_
    | refine dnilD (by kernel_rfl) ?_
    | refine then_normal ?_
    | refine then_exit ?_
    | refine then_ret ?_
    | refine DW_block ?_
    | refine blk_normal ?_
    | refine blk_ret ?_
    | refine blk_hit rfl ?_
    | refine blk_miss rfl ?_
    | refine loop_exit ?_
    | refine loop_ret ?_
    | refine DW_ret ?_
    | refine DW_exit ?_
    | refine DW_skip ?_
    | refine DW_cond_t rfl ?_
    | refine DW_cond_f rfl ?_
    | refine DW_cond rfl (fun hb => ?_) (fun hb => ?_)
    | (apply dpC rfl; case h => first | exact S_call alive8 rfl | exact S_call hW rfl | (apply Pu.ok; repeat' (first | rfl | exact .inK (by simp only [InK]; omega) | exact .inK (by simp only [InK]; simp at hg; omega) | exact .wr | constructor | decide | omega)))
    | refine dpOff rfl rfl ?_
    | ((first | apply dp rfl | apply dpOn rfl rfl | apply dpMay rfl rfl (by first | exact fun _ => trivial | exact fun h => ⟨h, trivial⟩ | exact fun h => ⟨h, h, trivial⟩ | exact fun h => ⟨h, h, h, trivial⟩)); case h => ((try intro hg); first | exact S_call alive8 rfl | exact S_call hW rfl | (apply Pu.ok; repeat' (first | rfl | exact .inK (by simp only [InK]; omega) | exact .inK (by simp only [InK]; simp at hg; omega) | exact .wr | constructor | decide | omega))))
    | refine dpickAnd rfl rfl rfl rfl rfl ?_ | refine dpickOr rfl rfl rfl rfl rfl ?_
    | (apply dt rfl; case h => first | exact S_alloc _ rfl | exact S_box _ rfl rfl)
    | (apply ds; case h => first | exact S_store rfl rfl rfl rfl rfl rfl)
    | (apply dm rfl; case h => first | exact M_d rfl | exact S_alloc 2001 rfl | exact S_alloc 2002 rfl | exact S_alloc 2003 rfl | exact S_alloc 2004 rfl | exact S_alloc 2005 rfl)
    | fail)
  · exact ret1 rfl (.inl rfl) rfl
  · simp only [Bool.or_eq_false_iff, decide_eq_false_iff_not, Classical.not_not] at hb
    have hr := right_of hb.1.1.1.1
    have h30 := hr.n
    have hl : l.length ≤ 4194304 := by omega
    have hag := right_ages hr
    have o1 := book_Old l a hag hl
    have o2 := book_Old (oldL l a) b (old_ages hag) (Nat.le_trans old_len hl)
    have o3 := book_Old l (a + b) hag hl
    have o4 := book_Old l 301 hag hl
    have o5 := book_Old l 0 hag hl
    rw [old_twice (by omega) (by omega)] at o2
    rw [old_all hag] at o4
    rw [old_none hag] at o5
    have s1 := ref8_Same (oldL l (a + b))
    have s2 := ref8_Same l
    repeat' (first
    | refine DW_seq ?_
    | refine DW_region ?_
    | refine DW_draw ?_
    | refine dnilP ?_
    | refine dnilD (by kernel_rfl) ?_
    | refine then_normal ?_
    | refine then_exit ?_
    | refine then_ret ?_
    | refine DW_block ?_
    | refine blk_normal ?_
    | refine blk_ret ?_
    | refine blk_hit rfl ?_
    | refine blk_miss rfl ?_
    | refine loop_exit ?_
    | refine loop_ret ?_
    | refine DW_ret ?_
    | refine DW_exit ?_
    | refine DW_skip ?_
    | refine DW_cond_t rfl ?_
    | refine DW_cond_f rfl ?_
    | (apply dpC rfl; case h => first | exact S_call o1 rfl | exact S_call o2 rfl | exact S_call o3 rfl | exact S_call o4 rfl | exact S_call o5 rfl | exact S_call s1 rfl | exact S_call s2 rfl | (apply Pu.ok; repeat' (first | rfl | exact .inK (by simp only [InK]; omega) | exact .inK (by simp only [InK]; simp at hg; omega) | exact .wr | constructor | decide | omega)))
    | refine dpOff rfl rfl ?_
    | ((first | apply dp rfl | apply dpOn rfl rfl | apply dpMay rfl rfl (by first | exact fun _ => trivial | exact fun h => ⟨h, trivial⟩ | exact fun h => ⟨h, h, trivial⟩ | exact fun h => ⟨h, h, h, trivial⟩)); case h => ((try intro hg); first | exact as_bool (b := true) (S_eql rfl rfl) rfl | exact S_call o1 rfl | exact S_call o2 rfl | exact S_call o3 rfl | exact S_call o4 rfl | exact S_call o5 rfl | exact S_call s1 rfl | exact S_call s2 rfl | (apply Pu.ok; repeat' (first | rfl | exact .inK (by simp only [InK]; omega) | exact .inK (by simp only [InK]; simp at hg; omega) | exact .wr | constructor | decide | omega))))
    | refine dpickAnd rfl rfl rfl rfl rfl ?_ | refine dpickOr rfl rfl rfl rfl rfl ?_
    | (apply dt rfl; case h => first | exact S_alloc _ rfl | exact S_box _ rfl rfl)
    | (apply ds; case h => first | exact S_store rfl rfl rfl rfl rfl rfl)
    | (apply dm rfl; case h => first | exact M_d rfl | exact S_alloc 2001 rfl | exact S_alloc 2002 rfl | exact S_alloc 2003 rfl | exact S_alloc 2004 rfl | exact S_alloc 2005 rfl)
    | fail)
    exact ret1 rfl (.inl rfl) rfl
end Go.Proofs.Ytpdoplmnedpdaaa
