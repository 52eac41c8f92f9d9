/- Contracts: vec.Best; the document's Sorted and Choose. -/
import Derived.Test.YtcdeielnkmjfhaadRf5
namespace Go.Proofs.Ytcdeielnkmjfhaa
open Go.RowKit
/-- The place of the best one of the first k. -/
def bestK (l : List Vec) : Nat → Int
  | 0 => -1
  | k + 1 => if bestK l k < 0 ∨ (vat l k).cmp (vat l (bestK l k).toNat) < 0 then (k : Int) else bestK l k
theorem bestK_in (l : List Vec) : ∀ k, -1 ≤ bestK l k ∧ bestK l k < (k : Int) ∨ (k = 0 ∧ bestK l k = -1)
  | 0 => .inr ⟨rfl, rfl⟩
  | k + 1 => by
    have ih := bestK_in l k
    rw [bestK]
    split <;> omega
theorem perm_put {l : List Vec} {k : Nat} (v : Vec) : (l.take k ++ [v] ++ l.drop k).Perm (l ++ [v]) := by
  have h1 : (l.take k ++ [v] ++ l.drop k).Perm (l.take k ++ (l.drop k ++ [v])) := by
    rw [List.append_assoc]
    exact List.Perm.append_left _ List.perm_append_comm
  rwa [← List.append_assoc, List.take_append_drop] at h1
theorem put_sorted {l : List Vec} {k : Nat} {v : Vec} (hs : l.Pairwise (fun a b => a.le b = true)) (hk : k ≤ l.length) (h1 : k = 0 ∨ (vat l (k - 1)).le v = true) (h2 : ∀ q, k ≤ q → q < l.length → v.le (vat l q) = true) : (l.take k ++ [v] ++ l.drop k).Pairwise (fun a b => a.le b = true) := by
  have hv : ∀ q, (hq : q < l.length) → vat l q = l[q] := fun q hq => vat_eq (List.getElem?_eq_getElem hq)
  have a1 : ∀ x ∈ l.take k, x.le v = true := fun x hx => by
    obtain ⟨j, hj, he⟩ := List.getElem_of_mem hx
    rw [List.length_take] at hj
    rw [List.getElem_take] at he
    rcases h1 with h1 | h1
    · omega
    · rw [hv (k - 1) (by omega)] at h1
      rw [← he]
      by_cases e : j = k - 1
      · subst e; exact h1
      · exact Vec.le_trans (List.pairwise_iff_getElem.1 hs j (k - 1) (by omega) (by omega) (by omega)) h1
  have a2 : ∀ y ∈ l.drop k, v.le y = true := fun y hy => by
    obtain ⟨j, hj, he⟩ := List.getElem_of_mem hy
    rw [List.length_drop] at hj
    rw [List.getElem_drop] at he
    have := h2 (k + j) (by omega) (by omega)
    rw [hv (k + j) (by omega)] at this
    rw [← he]; exact this
  have a3 : ∀ x ∈ l.take k, ∀ y ∈ l.drop k, x.le y = true := fun x hx y hy => Vec.le_trans (a1 x hx) (a2 y hy)
  rw [List.append_assoc, List.pairwise_append]
  refine ⟨hs.sublist (List.take_sublist _ _), ?_, fun x hx y hy => ?_⟩
  · rw [List.singleton_append, List.pairwise_cons]
    exact ⟨a2, hs.sublist (List.drop_sublist _ _)⟩
  · rcases List.mem_append.1 hy with h | h
    · rw [List.mem_singleton.1 h]; exact a1 x hx
    · exact a3 x hx y h
section
variable {P : Program} {e : Operand → D} {m : Mem} {dst : Option Tmp} {ty : TypeId} {pos : String} {af : Array Edge} {gd : Option (Nat × Bool)} {x : Operand} {t : TypeId}
/-- What lies behind the last one: nothing. -/
theorem S_sliceE {g ver l0 len el s by_ : Nat} {agg frz nw : Bool} {zs : List V} {xs : List (List V)} {lo : Operand} [hu : SlcI P t el] [ht : TyI P el agg s by_ zs] (h1 : e x = .own g ver l0 len) (hmg : m.at g = .row ver frz nw s xs) (hlo : BndD (some (e lo)) 0 len) :
    SStep P ⟨dst, .slice t x (some lo) none none, ty, pos, af, gd⟩ e m [g] (.dat true (.slice [])) [] :=
  .pure fun C m' ac ha hm hx => by
    have g1 := hx x (by simp [Op.operands]); rw [h1] at g1
    have gl : ∀ o, some lo = some o → RdD C m' (e o) (ac.eval o) := fun o ho => hx o (by injection ho with ho; subst ho; simp [Op.operands])
    have gh : ∀ o, (none : Option Operand) = some o → RdD C m' (e o) (ac.eval o) := fun o ho => by cases ho
    have hmg' : m'.at g = .row ver frz nw s xs := (ha g (by simp)).trans hmg
    obtain ⟨ver', frz', nw', sz', xs', hat, _, _, hv0⟩ := g1
    rw [hmg'] at hat
    injection hat with e1 e2 e3 e4 e5
    subst e1 e2 e3 e4 e5
    obtain ⟨hlen, hv⟩ := hv0 rfl
    have hexec : ∀ v, (Instr.slice t (ac.eval x) (some (ac.eval lo)) none none).run P C.w = .ok v C.w → (execOp ac.eval ⟨dst, .slice t x (some lo) none none, ty, pos, af, gd⟩).run P C.w = .ok (.value v) C.w := fun v hv => by
      simp [execOp, Instr.sliceAt, run_under hu.out, hv]
    cases hio : C.ι g with
    | none =>
      rw [hio] at hv
      obtain ⟨hv, hl1, hl2⟩ := hv
      refine ⟨.slice none 0 0, hexec _ ?_, Rd.nil⟩
      rw [hv]
      have hb := run_bounds (P := P) (C := C) (isS := true) (cap := 0) (lo := some lo) (hi := none) hlo (.none len) (Nat.le_refl _) (by omega) gl gh
      subst hl2
      simp only [Option.map_some, Option.map_none] at hb
      simp only [Instr.slice, Sem.run_bind, run_under hu.out, Result.andThen_ok, hb, run_size ht, Sem.run_pure]
      simp
    | some b =>
      rw [hio] at hv
      obtain ⟨cap, arr, T, fz, hv, hh, hle2, hlc, hcm⟩ := hv
      have hb := run_bounds (P := P) (C := C) (isS := true) (cap := cap) (lo := some lo) (hi := none) hlo (.none len) (Nat.le_refl _) hlc gl gh
      simp only [Option.map_some, Option.map_none] at hb
      by_cases hc : cap = len
      · refine ⟨.slice (some ⟨b, l0 * s, none⟩) 0 0, hexec _ ?_, Rd.mt _ 0 (Nat.zero_le _)⟩
        rw [hv]
        simp only [Instr.slice, Sem.run_bind, run_under hu.out, Result.andThen_ok, hb, run_size ht, Sem.run_pure]
        simp [hc]
      · refine ⟨.slice (some ⟨b, l0 * s + len * s, none⟩) 0 (cap - len), hexec _ ?_, Rd.mt _ _ (by omega)⟩
        rw [hv]
        simp only [Instr.slice, Sem.run_bind, run_under hu.out, Result.andThen_ok, hb, run_size ht, Sem.run_pure]
        rw [if_neg hc]
        simp [aadd]
end
attribute [local irreducible] SStep DW DWS DWin DOps thenQ inBlk loopQ loopQS endI normQ retQ retQG FnF FnG FnI Wk IntKind.wrap IntKind.andI IntKind.orI IntKind.xorI IntKind.andNotI IntKind.shlI IntKind.shrI Vec.cmp sortL sortSeg vat bestK Ch.step
set_option maxHeartbeats 1000000 in
theorem vec_Best (l : List Vec) : FnF Try.prog 15 [.slice (l.map Vec.cells)] (.int .i64 (bestK l l.length)) := by
  refine fnF_of Try.func15 rfl rfl rfl ?_
  simp only [envOf]
  refine DW_len 0 rfl (fun hlen => ?_)
  have hml : (l.map Vec.cells).length = l.length := by simp
  repeat' (first
    | refine DW_seq ?_
    | refine DW_region ?_
    | refine DW_draw ?_
    | refine dnilP ?_
    | refine dnilD (by kernel_rfl) ?_
    | refine then_normal ?_
    | refine then_exit ?_
    | refine then_ret ?_
    | refine DW_block ?_
    | refine blk_normal ?_
    | refine blk_ret ?_
    | refine blk_hit rfl ?_
    | refine blk_miss rfl ?_
    | refine loop_exit ?_
    | refine loop_ret ?_
    | refine DW_ret ?_
    | refine DW_exit ?_
    | refine DW_skip ?_
    | refine DW_cond_t rfl ?_
    | refine DW_cond_f rfl ?_
    | (apply dpC rfl; case h => first | (apply Pu.ok; repeat' (first | rfl | exact .inK (by simp only [InK]; omega) | exact .inK (by simp only [InK]; simp at hg; omega) | exact .wr | constructor | decide | omega)))
    | refine dpOff rfl rfl ?_
    | ((first | apply dp rfl | apply dpOn rfl rfl | apply dpMay rfl rfl (by first | exact fun _ => trivial | exact fun h => ⟨h, trivial⟩ | exact fun h => ⟨h, h, trivial⟩ | exact fun h => ⟨h, h, h, trivial⟩)); case h => ((try intro hg); first | (apply Pu.ok; repeat' (first | rfl | exact .inK (by simp only [InK]; omega) | exact .inK (by simp only [InK]; simp at hg; omega) | exact .wr | constructor | decide | omega))))
    | refine dpickAnd rfl rfl rfl rfl rfl ?_ | refine dpickOr rfl rfl rfl rfl rfl ?_
    | (apply dt rfl; case h => first | exact S_alloc _ rfl | exact S_box _ rfl rfl)
    | (apply ds; case h => first | exact S_store rfl rfl rfl rfl rfl rfl)
    | (apply dm rfl; case h => first | exact M_d rfl | exact S_alloc 2001 rfl | exact S_alloc 2002 rfl | exact S_alloc 2003 rfl | exact S_alloc 2004 rfl | exact S_alloc 2005 rfl)
    | fail)
  refine DW_loop (fun k : Nat => ⟨[(0, .dat false (.slice (l.map Vec.cells))), (3, .dat false (.int .i64 (bestK l k))), (6, .dat false (.slice (l.map Vec.cells))), (7, .dat true (.int .i64 (l.map Vec.cells).length)), (8, .dat true (.int .i64 k))], [], 27⟩)
    (fun k => k ≤ l.length) (fun k => l.length - k) 0 (Nat.zero_le _)
    (by with_unfolding_all exact Wk_gen some rfl rfl (by (repeat' (first | exact trivial | rfl | exact listLe_map _ | exact ⟨_, rfl, .inl rfl⟩ | exact ⟨_, rfl, .inr (.inl rfl)⟩ | exact ⟨_, rfl, .inr (.inr rfl)⟩ | refine ⟨_, _, rfl, rfl, ?_⟩ | exact ⟨_, rfl, rfl⟩ | exact ⟨_, _, _, _, rfl, rfl, rfl⟩ | exact ⟨_, rfl⟩ | exact ⟨_, _, rfl⟩ | apply And.intro))) (by (repeat' (first | exact trivial | rfl | exact listLe_map _ | exact ⟨_, rfl, .inl rfl⟩ | exact ⟨_, rfl, .inr (.inl rfl)⟩ | exact ⟨_, rfl, .inr (.inr rfl)⟩ | refine ⟨_, _, rfl, rfl, ?_⟩ | exact ⟨_, rfl, rfl⟩ | exact ⟨_, _, _, _, rfl, rfl, rfl⟩ | exact ⟨_, rfl⟩ | exact ⟨_, _, rfl⟩ | apply And.intro)))) (fun k hk => ?_)
  by_cases hlt : k < l.length
  · have hx : l[(k : Int).toNat]? = some (vat l k) := by rw [Int.toNat_natCast]; exact vat_get hlt
    have hin := bestK_in l k
    have hnx : bestK l (k + 1) = if bestK l k < 0 ∨ (vat l k).cmp (vat l (bestK l k).toNat) < 0 then (k : Int) else bestK l k := by with_unfolding_all rfl
    generalize bestK l k = b at hin hnx
    by_cases hb0 : b < 0
    · rw [if_pos (.inl hb0)] at hnx
      repeat' (first
    | refine DW_seq ?_
    | refine DW_region ?_
    | refine DW_draw ?_
    | refine dnilP ?_
    | refine dnilD (by kernel_rfl) ?_
    | refine then_normal ?_
    | refine then_exit ?_
    | refine then_ret ?_
    | refine DW_block ?_
    | refine blk_normal ?_
    | refine blk_ret ?_
    | refine blk_hit rfl ?_
    | refine blk_miss rfl ?_
    | refine loop_exit ?_
    | refine loop_ret ?_
    | refine DW_ret ?_
    | refine DW_exit ?_
    | refine DW_skip ?_
    | refine DW_cond_t rfl ?_
    | refine DW_cond_f rfl ?_
    | (apply dpC rfl; case h => first | (apply Pu.ok; repeat' (first | rfl | exact .inK (by simp only [InK]; omega) | exact .inK (by simp only [InK]; simp at hg; omega) | exact .wr | constructor | decide | omega)))
    | refine dpOff rfl rfl ?_
    | ((first | apply dp rfl | apply dpOn rfl rfl | apply dpMay rfl rfl (by first | exact fun _ => trivial | exact fun h => ⟨h, trivial⟩ | exact fun h => ⟨h, h, trivial⟩ | exact fun h => ⟨h, h, h, trivial⟩)); case h => ((try intro hg); first | exact as_bool (S_lss rfl rfl) (decide_eq_true (by omega : (k : Int) < ((l.map Vec.cells).length : Int))) | exact S_ixM rfl rfl (by omega) hx | exact as_bool (S_lss rfl rfl) (decide_eq_true hb0) | (apply Pu.ok; repeat' (first | rfl | exact .inK (by simp only [InK]; omega) | exact .inK (by simp only [InK]; simp at hg; omega) | exact .wr | constructor | decide | omega))))
    | refine dpickAnd rfl rfl rfl rfl rfl ?_ | refine dpickOr rfl rfl rfl rfl rfl ?_
    | (apply dt rfl; case h => first | exact S_alloc _ rfl | exact S_box _ rfl rfl)
    | (apply ds; case h => first | exact S_store rfl rfl rfl rfl rfl rfl)
    | (apply dm rfl; case h => first | exact M_d rfl | exact S_alloc 2001 rfl | exact S_alloc 2002 rfl | exact S_alloc 2003 rfl | exact S_alloc 2004 rfl | exact S_alloc 2005 rfl)
    | fail)
      refine loop_again (k + 1) hlt (by omega) ?_
      rw [hnx]
      exact Wk_gen some rfl rfl (by (repeat' (first | exact trivial | rfl | exact listLe_map _ | exact ⟨_, rfl, .inl rfl⟩ | exact ⟨_, rfl, .inr (.inl rfl)⟩ | exact ⟨_, rfl, .inr (.inr rfl)⟩ | refine ⟨_, _, rfl, rfl, ?_⟩ | exact ⟨_, rfl, rfl⟩ | exact ⟨_, _, _, _, rfl, rfl, rfl⟩ | exact ⟨_, rfl⟩ | exact ⟨_, _, rfl⟩ | apply And.intro))) (by (repeat' (first | exact trivial | rfl | exact listLe_map _ | exact ⟨_, rfl, .inl rfl⟩ | exact ⟨_, rfl, .inr (.inl rfl)⟩ | exact ⟨_, rfl, .inr (.inr rfl)⟩ | refine ⟨_, _, rfl, rfl, ?_⟩ | exact ⟨_, rfl, rfl⟩ | exact ⟨_, _, _, _, rfl, rfl, rfl⟩ | exact ⟨_, rfl⟩ | exact ⟨_, _, rfl⟩ | apply And.intro)))
    · have hxb : l[b.toNat]? = some (vat l b.toNat) := vat_get (by omega)
      have hc := vec_Compare (vat l k) (vat l b.toNat)
      by_cases hlt2 : (vat l k).cmp (vat l b.toNat) < 0
      · rw [if_pos (.inr hlt2)] at hnx
        repeat' (first
    | refine DW_seq ?_
    | refine DW_region ?_
    | refine DW_draw ?_
    | refine dnilP ?_
    | refine dnilD (by kernel_rfl) ?_
    | refine then_normal ?_
    | refine then_exit ?_
    | refine then_ret ?_
    | refine DW_block ?_
    | refine blk_normal ?_
    | refine blk_ret ?_
    | refine blk_hit rfl ?_
    | refine blk_miss rfl ?_
    | refine loop_exit ?_
    | refine loop_ret ?_
    | refine DW_ret ?_
    | refine DW_exit ?_
    | refine DW_skip ?_
    | refine DW_cond_t rfl ?_
    | refine DW_cond_f rfl ?_
    | (apply dpC rfl; case h => first | exact S_call hc rfl | (apply Pu.ok; repeat' (first | rfl | exact .inK (by simp only [InK]; omega) | exact .inK (by simp only [InK]; simp at hg; omega) | exact .wr | constructor | decide | omega)))
    | refine dpOff rfl rfl ?_
    | ((first | apply dp rfl | apply dpOn rfl rfl | apply dpMay rfl rfl (by first | exact fun _ => trivial | exact fun h => ⟨h, trivial⟩ | exact fun h => ⟨h, h, trivial⟩ | exact fun h => ⟨h, h, h, trivial⟩)); case h => ((try intro hg); first | exact as_bool (S_lss rfl rfl) (decide_eq_true (by omega : (k : Int) < ((l.map Vec.cells).length : Int))) | exact S_ixM rfl rfl (by omega) hx | exact S_ixM rfl rfl (by omega) hxb | exact as_bool (S_lss rfl rfl) (decide_eq_false hb0) | exact as_bool (S_lss rfl rfl) (decide_eq_true hlt2) | exact S_call hc rfl | (apply Pu.ok; repeat' (first | rfl | exact .inK (by simp only [InK]; omega) | exact .inK (by simp only [InK]; simp at hg; omega) | exact .wr | constructor | decide | omega))))
    | refine dpickAnd rfl rfl rfl rfl rfl ?_ | refine dpickOr rfl rfl rfl rfl rfl ?_
    | (apply dt rfl; case h => first | exact S_alloc _ rfl | exact S_box _ rfl rfl)
    | (apply ds; case h => first | exact S_store rfl rfl rfl rfl rfl rfl)
    | (apply dm rfl; case h => first | exact M_d rfl | exact S_alloc 2001 rfl | exact S_alloc 2002 rfl | exact S_alloc 2003 rfl | exact S_alloc 2004 rfl | exact S_alloc 2005 rfl)
    | fail)
        refine loop_again (k + 1) hlt (by omega) ?_
        rw [hnx]
        exact Wk_gen some rfl rfl (by (repeat' (first | exact trivial | rfl | exact listLe_map _ | exact ⟨_, rfl, .inl rfl⟩ | exact ⟨_, rfl, .inr (.inl rfl)⟩ | exact ⟨_, rfl, .inr (.inr rfl)⟩ | refine ⟨_, _, rfl, rfl, ?_⟩ | exact ⟨_, rfl, rfl⟩ | exact ⟨_, _, _, _, rfl, rfl, rfl⟩ | exact ⟨_, rfl⟩ | exact ⟨_, _, rfl⟩ | apply And.intro))) (by (repeat' (first | exact trivial | rfl | exact listLe_map _ | exact ⟨_, rfl, .inl rfl⟩ | exact ⟨_, rfl, .inr (.inl rfl)⟩ | exact ⟨_, rfl, .inr (.inr rfl)⟩ | refine ⟨_, _, rfl, rfl, ?_⟩ | exact ⟨_, rfl, rfl⟩ | exact ⟨_, _, _, _, rfl, rfl, rfl⟩ | exact ⟨_, rfl⟩ | exact ⟨_, _, rfl⟩ | apply And.intro)))
      · rw [if_neg (fun h => h.elim hb0 hlt2)] at hnx
        repeat' (first
    | refine DW_seq ?_
    | refine DW_region ?_
    | refine DW_draw ?_
    | refine dnilP ?_
    | refine dnilD (by kernel_rfl) ?_
    | refine then_normal ?_
    | refine then_exit ?_
    | refine then_ret ?_
    | refine DW_block ?_
    | refine blk_normal ?_
    | refine blk_ret ?_
    | refine blk_hit rfl ?_
    | refine blk_miss rfl ?_
    | refine loop_exit ?_
    | refine loop_ret ?_
    | refine DW_ret ?_
    | refine DW_exit ?_
    | refine DW_skip ?_
    | refine DW_cond_t rfl ?_
    | refine DW_cond_f rfl ?_
    | (apply dpC rfl; case h => first | exact S_call hc rfl | (apply Pu.ok; repeat' (first | rfl | exact .inK (by simp only [InK]; omega) | exact .inK (by simp only [InK]; simp at hg; omega) | exact .wr | constructor | decide | omega)))
    | refine dpOff rfl rfl ?_
    | ((first | apply dp rfl | apply dpOn rfl rfl | apply dpMay rfl rfl (by first | exact fun _ => trivial | exact fun h => ⟨h, trivial⟩ | exact fun h => ⟨h, h, trivial⟩ | exact fun h => ⟨h, h, h, trivial⟩)); case h => ((try intro hg); first | exact as_bool (S_lss rfl rfl) (decide_eq_true (by omega : (k : Int) < ((l.map Vec.cells).length : Int))) | exact S_ixM rfl rfl (by omega) hx | exact S_ixM rfl rfl (by omega) hxb | exact as_bool (S_lss rfl rfl) (decide_eq_false hb0) | exact as_bool (S_lss rfl rfl) (decide_eq_false hlt2) | exact S_call hc rfl | (apply Pu.ok; repeat' (first | rfl | exact .inK (by simp only [InK]; omega) | exact .inK (by simp only [InK]; simp at hg; omega) | exact .wr | constructor | decide | omega))))
    | refine dpickAnd rfl rfl rfl rfl rfl ?_ | refine dpickOr rfl rfl rfl rfl rfl ?_
    | (apply dt rfl; case h => first | exact S_alloc _ rfl | exact S_box _ rfl rfl)
    | (apply ds; case h => first | exact S_store rfl rfl rfl rfl rfl rfl)
    | (apply dm rfl; case h => first | exact M_d rfl | exact S_alloc 2001 rfl | exact S_alloc 2002 rfl | exact S_alloc 2003 rfl | exact S_alloc 2004 rfl | exact S_alloc 2005 rfl)
    | fail)
        refine loop_again (k + 1) hlt (by omega) ?_
        rw [hnx]
        exact Wk_gen some rfl rfl (by (repeat' (first | exact trivial | rfl | exact listLe_map _ | exact ⟨_, rfl, .inl rfl⟩ | exact ⟨_, rfl, .inr (.inl rfl)⟩ | exact ⟨_, rfl, .inr (.inr rfl)⟩ | refine ⟨_, _, rfl, rfl, ?_⟩ | exact ⟨_, rfl, rfl⟩ | exact ⟨_, _, _, _, rfl, rfl, rfl⟩ | exact ⟨_, rfl⟩ | exact ⟨_, _, rfl⟩ | apply And.intro))) (by (repeat' (first | exact trivial | rfl | exact listLe_map _ | exact ⟨_, rfl, .inl rfl⟩ | exact ⟨_, rfl, .inr (.inl rfl)⟩ | exact ⟨_, rfl, .inr (.inr rfl)⟩ | refine ⟨_, _, rfl, rfl, ?_⟩ | exact ⟨_, rfl, rfl⟩ | exact ⟨_, _, _, _, rfl, rfl, rfl⟩ | exact ⟨_, rfl⟩ | exact ⟨_, _, rfl⟩ | apply And.intro)))
  · have hkl : k = l.length := by omega
    subst hkl
    repeat' (first
    | refine DW_seq ?_
    | refine DW_region ?_
    | refine DW_draw ?_
    | refine dnilP ?_
    | refine dnilD (by kernel_rfl) ?_
    | refine then_normal ?_
    | refine then_exit ?_
    | refine then_ret ?_
    | refine DW_block ?_
    | refine blk_normal ?_
    | refine blk_ret ?_
    | refine blk_hit rfl ?_
    | refine blk_miss rfl ?_
    | refine loop_exit ?_
    | refine loop_ret ?_
    | refine DW_ret ?_
    | refine DW_exit ?_
    | refine DW_skip ?_
    | refine DW_cond_t rfl ?_
    | refine DW_cond_f rfl ?_
    | (apply dpC rfl; case h => first | (apply Pu.ok; repeat' (first | rfl | exact .inK (by simp only [InK]; omega) | exact .inK (by simp only [InK]; simp at hg; omega) | exact .wr | constructor | decide | omega)))
    | refine dpOff rfl rfl ?_
    | ((first | apply dp rfl | apply dpOn rfl rfl | apply dpMay rfl rfl (by first | exact fun _ => trivial | exact fun h => ⟨h, trivial⟩ | exact fun h => ⟨h, h, trivial⟩ | exact fun h => ⟨h, h, h, trivial⟩)); case h => ((try intro hg); first | exact as_bool (S_lss rfl rfl) (decide_eq_false (by omega : ¬ (l.length : Int) < ((l.map Vec.cells).length : Int))) | (apply Pu.ok; repeat' (first | rfl | exact .inK (by simp only [InK]; omega) | exact .inK (by simp only [InK]; simp at hg; omega) | exact .wr | constructor | decide | omega))))
    | refine dpickAnd rfl rfl rfl rfl rfl ?_ | refine dpickOr rfl rfl rfl rfl rfl ?_
    | (apply dt rfl; case h => first | exact S_alloc _ rfl | exact S_box _ rfl rfl)
    | (apply ds; case h => first | exact S_store rfl rfl rfl rfl rfl rfl)
    | (apply dm rfl; case h => first | exact M_d rfl | exact S_alloc 2001 rfl | exact S_alloc 2002 rfl | exact S_alloc 2003 rfl | exact S_alloc 2004 rfl | exact S_alloc 2005 rfl)
    | fail)
    exact ret1 rfl (.inr (.int _ _)) rfl
set_option maxHeartbeats 4000000 in
theorem ref5_Sorted (l : List Vec) (hl : l.length ≤ 1099511627776) : FnF Try.prog 20 [.slice (l.map Vec.cells)] (.slice ((sortL l).map Vec.cells)) := by
  refine fnF_of Try.func20 rfl rfl rfl ?_
  simp only [envOf]
  have hml : (l.map Vec.cells).length = l.length := by simp
  repeat' (first
    | refine DW_seq ?_
    | refine DW_region ?_
    | refine DW_draw ?_
    | refine dnilP ?_
    | refine dnilD (by kernel_rfl) ?_
    | refine then_normal ?_
    | refine then_exit ?_
    | refine then_ret ?_
    | refine DW_block ?_
    | refine blk_normal ?_
    | refine blk_ret ?_
    | refine blk_hit rfl ?_
    | refine blk_miss rfl ?_
    | refine loop_exit ?_
    | refine loop_ret ?_
    | refine DW_ret ?_
    | refine DW_exit ?_
    | refine DW_skip ?_
    | refine DW_cond_t rfl ?_
    | refine DW_cond_f rfl ?_
    | (apply dpC rfl; case h => first | (apply Pu.ok; repeat' (first | rfl | exact .inK (by simp only [InK]; omega) | exact .inK (by simp only [InK]; simp at hg; omega) | exact .wr | constructor | decide | omega)))
    | refine dpOff rfl rfl ?_
    | ((first | apply dp rfl | apply dpOn rfl rfl | apply dpMay rfl rfl (by first | exact fun _ => trivial | exact fun h => ⟨h, trivial⟩ | exact fun h => ⟨h, h, trivial⟩ | exact fun h => ⟨h, h, h, trivial⟩)); case h => ((try intro hg); first | (apply Pu.ok; repeat' (first | rfl | exact .inK (by simp only [InK]; omega) | exact .inK (by simp only [InK]; simp at hg; omega) | exact .wr | constructor | decide | omega))))
    | refine dpickAnd rfl rfl rfl rfl rfl ?_ | refine dpickOr rfl rfl rfl rfl rfl ?_
    | (apply dt rfl; case h => first | exact S_alloc _ rfl | exact S_box _ rfl rfl)
    | (apply ds; case h => first | exact S_store rfl rfl rfl rfl rfl rfl)
    | (apply dm rfl; case h => first | exact M_d rfl | exact S_alloc 2001 rfl | exact S_alloc 2002 rfl | exact S_alloc 2003 rfl | exact S_alloc 2004 rfl | exact S_alloc 2005 rfl)
    | fail)
  refine DW_loop (fun q : Nat × List Vec => ⟨[(3, .own 500 0 0 q.2.length), (7, .dat false (.slice (l.map Vec.cells))), (8, .dat true (.int .i64 (l.map Vec.cells).length)), (9, .dat true (.int .i64 q.1))], [(500, .row 0 false true 4 (q.2.map Vec.cells))], 42⟩)
    (fun q => q.1 ≤ l.length ∧ q.2.Perm (l.take q.1) ∧ q.2.Pairwise (fun a b => a.le b = true)) (fun q => l.length - q.1) (0, []) ⟨Nat.zero_le _, List.Perm.refl _, List.Pairwise.nil⟩
    (Wk_gen (fun g => if g = 500 then none else some g) rfl rfl (by (repeat' (first | exact trivial | rfl | exact listLe_map _ | exact ⟨_, rfl, .inl rfl⟩ | exact ⟨_, rfl, .inr (.inl rfl)⟩ | exact ⟨_, rfl, .inr (.inr rfl)⟩ | refine ⟨_, _, rfl, rfl, ?_⟩ | exact ⟨_, rfl, rfl⟩ | exact ⟨_, _, _, _, rfl, rfl, rfl⟩ | exact ⟨_, rfl⟩ | exact ⟨_, _, rfl⟩ | apply And.intro))) (by (repeat' (first | exact trivial | rfl | exact listLe_map _ | exact ⟨_, rfl, .inl rfl⟩ | exact ⟨_, rfl, .inr (.inl rfl)⟩ | exact ⟨_, rfl, .inr (.inr rfl)⟩ | refine ⟨_, _, rfl, rfl, ?_⟩ | exact ⟨_, rfl, rfl⟩ | exact ⟨_, _, _, _, rfl, rfl, rfl⟩ | exact ⟨_, rfl⟩ | exact ⟨_, _, rfl⟩ | apply And.intro)))) (fun q hq => ?_)
  obtain ⟨k, out⟩ := q
  obtain ⟨hk, hp, hs⟩ := hq
  simp only at hk hp hs
  dsimp only
  have hol : out.length ≤ l.length := by rw [hp.length_eq, List.length_take]; omega
  by_cases hlt : k < l.length
  · have hx : l[(k : Int).toNat]? = some (vat l k) := by rw [Int.toNat_natCast]; exact vat_get hlt
    have htk : l.take (k + 1) = l.take k ++ [vat l k] := by rw [List.take_add_one, vat_get hlt]; rfl
    generalize vat l k = v at hx htk
    repeat' (first
    | refine DW_seq ?_
    | refine DW_region ?_
    | refine DW_draw ?_
    | refine dnilP ?_
    | refine dnilD (by kernel_rfl) ?_
    | refine then_normal ?_
    | refine then_exit ?_
    | refine then_ret ?_
    | refine DW_block ?_
    | refine blk_normal ?_
    | refine blk_ret ?_
    | refine blk_hit rfl ?_
    | refine blk_miss rfl ?_
    | refine loop_exit ?_
    | refine loop_ret ?_
    | refine DW_ret ?_
    | refine DW_exit ?_
    | refine DW_skip ?_
    | refine DW_cond_t rfl ?_
    | refine DW_cond_f rfl ?_
    | (apply dpC rfl; case h => first | (apply Pu.ok; repeat' (first | rfl | exact .inK (by simp only [InK]; omega) | exact .inK (by simp only [InK]; simp at hg; omega) | exact .wr | constructor | decide | omega)))
    | refine dpOff rfl rfl ?_
    | ((first | apply dp rfl | apply dpOn rfl rfl | apply dpMay rfl rfl (by first | exact fun _ => trivial | exact fun h => ⟨h, trivial⟩ | exact fun h => ⟨h, h, trivial⟩ | exact fun h => ⟨h, h, h, trivial⟩)); case h => ((try intro hg); first | exact as_bool (S_lss rfl rfl) (decide_eq_true (by omega : (k : Int) < ((l.map Vec.cells).length : Int))) | exact S_ixM rfl rfl (by omega) hx | (apply Pu.ok; repeat' (first | rfl | exact .inK (by simp only [InK]; omega) | exact .inK (by simp only [InK]; simp at hg; omega) | exact .wr | constructor | decide | omega))))
    | refine dpickAnd rfl rfl rfl rfl rfl ?_ | refine dpickOr rfl rfl rfl rfl rfl ?_
    | (apply dt rfl; case h => first | exact S_alloc _ rfl | exact S_box _ rfl rfl)
    | (apply ds; case h => first | exact S_store rfl rfl rfl rfl rfl rfl)
    | (apply dm rfl; case h => first | exact M_d rfl | exact S_alloc 2001 rfl | exact S_alloc 2002 rfl | exact S_alloc 2003 rfl | exact S_alloc 2004 rfl | exact S_alloc 2005 rfl)
    | fail)
    refine DW_loop (fun j : Nat => ⟨[(3, .own 500 0 0 out.length), (5, .ptr 5 0), (6, .dat true (.int .i64 j)), (7, .dat false (.slice (l.map Vec.cells))), (8, .dat true (.int .i64 (l.map Vec.cells).length)), (9, .dat true (.int .i64 k))],
        [(5, .cells false true [.dat false (.int .u64 v.root), .dat false (.int .i64 v.cost), .dat false (.int .u64 v.bridge), .dat false (.int .i64 v.port)]), (500, .row 0 false true 4 (out.map Vec.cells))], 42⟩)
      (fun j => j ≤ out.length ∧ ∀ q, j ≤ q → q < out.length → v.cmp (vat out q) < 0) (fun j => j) out.length ⟨Nat.le_refl _, fun q h1 h2 => by omega⟩
      (Wk_gen some rfl rfl (by (repeat' (first | exact trivial | rfl | exact listLe_map _ | exact ⟨_, rfl, .inl rfl⟩ | exact ⟨_, rfl, .inr (.inl rfl)⟩ | exact ⟨_, rfl, .inr (.inr rfl)⟩ | refine ⟨_, _, rfl, rfl, ?_⟩ | exact ⟨_, rfl, rfl⟩ | exact ⟨_, _, _, _, rfl, rfl, rfl⟩ | exact ⟨_, rfl⟩ | exact ⟨_, _, rfl⟩ | apply And.intro))) (by (repeat' (first | exact trivial | rfl | exact listLe_map _ | exact ⟨_, rfl, .inl rfl⟩ | exact ⟨_, rfl, .inr (.inl rfl)⟩ | exact ⟨_, rfl, .inr (.inr rfl)⟩ | refine ⟨_, _, rfl, rfl, ?_⟩ | exact ⟨_, rfl, rfl⟩ | exact ⟨_, _, _, _, rfl, rfl, rfl⟩ | exact ⟨_, rfl⟩ | exact ⟨_, _, rfl⟩ | apply And.intro)))) (fun j hj => ?_)
    obtain ⟨hj1, hj2⟩ := hj
    have fin : (j = 0 ∨ ¬ v.cmp (vat out (j - 1)) < 0) → (out.take j ++ [v] ++ out.drop j).Perm (l.take (k + 1)) ∧ (out.take j ++ [v] ++ out.drop j).Pairwise (fun a b => a.le b = true) := fun h =>
      ⟨(perm_put v).trans (by rw [htk]; exact hp.append_right _), put_sorted hs hj1 (h.imp id Vec.not_lt) (fun q h1 h2 => Vec.lt_le (hj2 q h1 h2))⟩
    have hta : ((out.map Vec.cells).drop 0).take (j - 0) = (out.take j).map Vec.cells := by simp
    have htc : ((out.map Vec.cells).drop (0 + j)).take (out.length - j) = (out.drop j).map Vec.cells := by
      rw [Nat.zero_add, ← List.map_drop, List.take_of_length_le (by simp)]
    have hlen : (out.take j ++ [v] ++ out.drop j).length ≤ 1099511627777 := by simp; omega
    by_cases hj0 : 0 < j
    · have e1 : (j : Int) - 1 = ((j - 1 : Nat) : Int) := by omega
      have hxj := vgetM e1 (show j - 1 < out.length by omega)
      have hc := ref5_Better v (vat out (j - 1))
      by_cases hlt2 : v.cmp (vat out (j - 1)) < 0
      · repeat' (first
    | (apply DW_true rfl; case hb => exact decide_eq_true hlt2)
    | refine DW_seq ?_
    | refine DW_region ?_
    | refine DW_draw ?_
    | refine dnilP ?_
    | refine dnilD (by kernel_rfl) ?_
    | refine then_normal ?_
    | refine then_exit ?_
    | refine then_ret ?_
    | refine DW_block ?_
    | refine blk_normal ?_
    | refine blk_ret ?_
    | refine blk_hit rfl ?_
    | refine blk_miss rfl ?_
    | refine loop_exit ?_
    | refine loop_ret ?_
    | refine DW_ret ?_
    | refine DW_exit ?_
    | refine DW_skip ?_
    | refine DW_cond_t rfl ?_
    | refine DW_cond_f rfl ?_
    | (apply dpC rfl; case h => first | exact S_call hc rfl | (apply Pu.ok; repeat' (first | rfl | exact .inK (by simp only [InK]; omega) | exact .inK (by simp only [InK]; simp at hg; omega) | exact .wr | constructor | decide | omega)))
    | refine dpOff rfl rfl ?_
    | ((first | apply dp rfl | apply dpOn rfl rfl | apply dpMay rfl rfl (by first | exact fun _ => trivial | exact fun h => ⟨h, trivial⟩ | exact fun h => ⟨h, h, trivial⟩ | exact fun h => ⟨h, h, h, trivial⟩)); case h => ((try intro hg); first | exact as_bool (S_gtr rfl rfl) (decide_eq_true (by omega : (0 : Int) < (j : Int))) | exact S_ixO rfl rfl rfl (by omega) (by omega) | exact S_load_rptr rfl rfl hxj rfl | exact S_call hc rfl | (apply Pu.ok; repeat' (first | rfl | exact .inK (by simp only [InK]; omega) | exact .inK (by simp only [InK]; simp at hg; omega) | exact .wr | constructor | decide | omega))))
    | refine dpickAnd rfl rfl rfl rfl rfl ?_ | refine dpickOr rfl rfl rfl rfl rfl ?_
    | (apply dt rfl; case h => first | exact S_load_rptr rfl rfl hxj rfl | exact S_alloc _ rfl | exact S_box _ rfl rfl)
    | (apply ds; case h => first | exact S_load_rptr rfl rfl hxj rfl | exact S_store rfl rfl rfl rfl rfl rfl)
    | (apply dm rfl; case h => first | exact S_load_rptr rfl rfl hxj rfl | exact M_d rfl | exact S_alloc 2001 rfl | exact S_alloc 2002 rfl | exact S_alloc 2003 rfl | exact S_alloc 2004 rfl | exact S_alloc 2005 rfl)
    | fail)
        refine loop_again (j - 1) ⟨by omega, fun q h1 h2 => ?_⟩ (by omega) ?_
        · by_cases e : q = j - 1
          · subst e; exact hlt2
          · exact hj2 q (by omega) h2
        · rw [← e1]
          exact Wk_gen some rfl rfl (by (repeat' (first | exact trivial | rfl | exact listLe_map _ | exact ⟨_, rfl, .inl rfl⟩ | exact ⟨_, rfl, .inr (.inl rfl)⟩ | exact ⟨_, rfl, .inr (.inr rfl)⟩ | refine ⟨_, _, rfl, rfl, ?_⟩ | exact ⟨_, rfl, rfl⟩ | exact ⟨_, _, _, _, rfl, rfl, rfl⟩ | exact ⟨_, rfl⟩ | exact ⟨_, _, rfl⟩ | apply And.intro))) (by (repeat' (first | exact trivial | rfl | exact listLe_map _ | exact ⟨_, rfl, .inl rfl⟩ | exact ⟨_, rfl, .inr (.inl rfl)⟩ | exact ⟨_, rfl, .inr (.inr rfl)⟩ | refine ⟨_, _, rfl, rfl, ?_⟩ | exact ⟨_, rfl, rfl⟩ | exact ⟨_, _, _, _, rfl, rfl, rfl⟩ | exact ⟨_, rfl⟩ | exact ⟨_, _, rfl⟩ | apply And.intro)))
      · obtain ⟨f1, f2⟩ := fin (.inr hlt2)
        by_cases hje : j = out.length
        · subst hje
          have hnil : out.drop out.length = [] := List.drop_eq_nil_of_le (Nat.le_refl _)
          rw [hnil] at f1 f2
          repeat' (first
    | (apply DW_false rfl; case hb => exact decide_eq_false hlt2)
    | (apply dt rfl; case h => exact S_litO (els := []) _ rfl rfl rfl rfl rfl)
    | refine DW_seq ?_
    | refine DW_region ?_
    | refine DW_draw ?_
    | refine dnilP ?_
    | refine dnilD (by kernel_rfl) ?_
    | refine then_normal ?_
    | refine then_exit ?_
    | refine then_ret ?_
    | refine DW_block ?_
    | refine blk_normal ?_
    | refine blk_ret ?_
    | refine blk_hit rfl ?_
    | refine blk_miss rfl ?_
    | refine loop_exit ?_
    | refine loop_ret ?_
    | refine DW_ret ?_
    | refine DW_exit ?_
    | refine DW_skip ?_
    | refine DW_cond_t rfl ?_
    | refine DW_cond_f rfl ?_
    | (apply dpC rfl; case h => first | exact S_call hc rfl | (apply Pu.ok; repeat' (first | rfl | exact .inK (by simp only [InK]; omega) | exact .inK (by simp only [InK]; simp at hg; omega) | exact .wr | constructor | decide | omega)))
    | (apply dmC rfl; case h => first | exact S_appM (f := Vec.cells) (us := []) (bs := out.take out.length) rfl rfl (.own _ _ _ _ _ _ _ rfl) hta rfl (.inr ⟨rfl, inferInstance⟩) rfl (by simp only [List.length_nil, List.length_take]; omega) | exact S_appM (f := Vec.cells) (us := out.take out.length) (bs := [v]) rfl rfl (.dat _ _) rfl rfl (.inr ⟨rfl, inferInstance⟩) rfl (by simp only [List.length_cons, List.length_nil, List.length_take]; omega) | exact S_appM (f := Vec.cells) (us := out.take out.length ++ [v]) (bs := []) rfl rfl (.dat _ _) rfl rfl (.inr ⟨rfl, inferInstance⟩) rfl (by simp only [List.length_cons, List.length_nil, List.length_take, List.length_append]; omega))
    | refine dpOff rfl rfl ?_
    | (apply dmOn rfl rfl; case h => first | exact S_appM (f := Vec.cells) (us := []) (bs := out.take out.length) rfl rfl (.own _ _ _ _ _ _ _ rfl) hta rfl (.inr ⟨rfl, inferInstance⟩) rfl (by simp only [List.length_nil, List.length_take]; omega) | exact S_appM (f := Vec.cells) (us := out.take out.length) (bs := [v]) rfl rfl (.dat _ _) rfl rfl (.inr ⟨rfl, inferInstance⟩) rfl (by simp only [List.length_cons, List.length_nil, List.length_take]; omega) | exact S_appM (f := Vec.cells) (us := out.take out.length ++ [v]) (bs := []) rfl rfl (.dat _ _) rfl rfl (.inr ⟨rfl, inferInstance⟩) rfl (by simp only [List.length_cons, List.length_nil, List.length_take, List.length_append]; omega))
    | ((first | apply dp rfl | apply dpOn rfl rfl | apply dpMay rfl rfl (by first | exact fun _ => trivial | exact fun h => ⟨h, trivial⟩ | exact fun h => ⟨h, h, trivial⟩ | exact fun h => ⟨h, h, h, trivial⟩)); case h => ((try intro hg); first | exact as_bool (S_gtr rfl rfl) (decide_eq_true (by omega : (0 : Int) < (out.length : Int))) | exact S_ixO rfl rfl rfl (by omega) (by omega) | exact S_load_rptr rfl rfl hxj rfl | exact S_sliceO rfl rfl (.none _) (.some _ _ _ _ out.length rfl) (Nat.zero_le _) (by omega) (.inl rfl) | exact S_sliceE rfl rfl (.some _ _ _ _ out.length rfl) | exact S_call hc rfl | exact S_appM (f := Vec.cells) (us := []) (bs := out.take out.length) rfl rfl (.own _ _ _ _ _ _ _ rfl) hta rfl (.inr ⟨rfl, inferInstance⟩) rfl (by simp only [List.length_nil, List.length_take]; omega) | exact S_appM (f := Vec.cells) (us := out.take out.length) (bs := [v]) rfl rfl (.dat _ _) rfl rfl (.inr ⟨rfl, inferInstance⟩) rfl (by simp only [List.length_cons, List.length_nil, List.length_take]; omega) | exact S_appM (f := Vec.cells) (us := out.take out.length ++ [v]) (bs := []) rfl rfl (.dat _ _) rfl rfl (.inr ⟨rfl, inferInstance⟩) rfl (by simp only [List.length_cons, List.length_nil, List.length_take, List.length_append]; omega) | (apply Pu.ok; repeat' (first | rfl | exact .inK (by simp only [InK]; omega) | exact .inK (by simp only [InK]; simp at hg; omega) | exact .wr | constructor | decide | omega))))
    | refine dpickAnd rfl rfl rfl rfl rfl ?_ | refine dpickOr rfl rfl rfl rfl rfl ?_
    | (apply dt rfl; case h => first | exact S_load_rptr rfl rfl hxj rfl | exact S_sliceO rfl rfl (.none _) (.some _ _ _ _ out.length rfl) (Nat.zero_le _) (by omega) (.inl rfl) | exact S_sliceE rfl rfl (.some _ _ _ _ out.length rfl) | exact S_alloc _ rfl | exact S_box _ rfl rfl)
    | (apply ds; case h => first | exact S_load_rptr rfl rfl hxj rfl | exact S_sliceO rfl rfl (.none _) (.some _ _ _ _ out.length rfl) (Nat.zero_le _) (by omega) (.inl rfl) | exact S_sliceE rfl rfl (.some _ _ _ _ out.length rfl) | exact S_store rfl rfl rfl rfl rfl rfl)
    | (apply dm rfl; case h => first | exact S_load_rptr rfl rfl hxj rfl | exact S_sliceO rfl rfl (.none _) (.some _ _ _ _ out.length rfl) (Nat.zero_le _) (by omega) (.inl rfl) | exact S_sliceE rfl rfl (.some _ _ _ _ out.length rfl) | exact M_d rfl | exact S_alloc 2001 rfl | exact S_alloc 2002 rfl | exact S_alloc 2003 rfl | exact S_alloc 2004 rfl | exact S_alloc 2005 rfl)
    | fail)
          exact loop_again (k + 1, out.take out.length ++ [v] ++ []) ⟨hlt, f1, f2⟩ (by simp only; omega) (Wk_gen (fun g => if g = 500 then some 28 else some g) rfl rfl (by (repeat' (first | exact trivial | rfl | exact listLe_map _ | exact ⟨_, rfl, .inl rfl⟩ | exact ⟨_, rfl, .inr (.inl rfl)⟩ | exact ⟨_, rfl, .inr (.inr rfl)⟩ | refine ⟨_, _, rfl, rfl, ?_⟩ | exact ⟨_, rfl, rfl⟩ | exact ⟨_, _, _, _, rfl, rfl, rfl⟩ | exact ⟨_, rfl⟩ | exact ⟨_, _, rfl⟩ | apply And.intro))) (by (repeat' (first | exact trivial | rfl | exact listLe_map _ | exact ⟨_, rfl, .inl rfl⟩ | exact ⟨_, rfl, .inr (.inl rfl)⟩ | exact ⟨_, rfl, .inr (.inr rfl)⟩ | refine ⟨_, _, rfl, rfl, ?_⟩ | exact ⟨_, rfl, rfl⟩ | exact ⟨_, _, _, _, rfl, rfl, rfl⟩ | exact ⟨_, rfl⟩ | exact ⟨_, _, rfl⟩ | apply And.intro))))
        · repeat' (first
    | (apply DW_false rfl; case hb => exact decide_eq_false hlt2)
    | (apply dt rfl; case h => exact S_litO (els := []) _ rfl rfl rfl rfl rfl)
    | refine DW_seq ?_
    | refine DW_region ?_
    | refine DW_draw ?_
    | refine dnilP ?_
    | refine dnilD (by kernel_rfl) ?_
    | refine then_normal ?_
    | refine then_exit ?_
    | refine then_ret ?_
    | refine DW_block ?_
    | refine blk_normal ?_
    | refine blk_ret ?_
    | refine blk_hit rfl ?_
    | refine blk_miss rfl ?_
    | refine loop_exit ?_
    | refine loop_ret ?_
    | refine DW_ret ?_
    | refine DW_exit ?_
    | refine DW_skip ?_
    | refine DW_cond_t rfl ?_
    | refine DW_cond_f rfl ?_
    | (apply dpC rfl; case h => first | exact S_call hc rfl | (apply Pu.ok; repeat' (first | rfl | exact .inK (by simp only [InK]; omega) | exact .inK (by simp only [InK]; simp at hg; omega) | exact .wr | constructor | decide | omega)))
    | (apply dmC rfl; case h => first | exact S_appM (f := Vec.cells) (us := []) (bs := out.take j) rfl rfl (.own _ _ _ _ _ _ _ rfl) hta rfl (.inr ⟨rfl, inferInstance⟩) rfl (by simp only [List.length_nil, List.length_take]; omega) | exact S_appM (f := Vec.cells) (us := out.take j) (bs := [v]) rfl rfl (.dat _ _) rfl rfl (.inr ⟨rfl, inferInstance⟩) rfl (by simp only [List.length_cons, List.length_nil, List.length_take]; omega) | exact S_appM (f := Vec.cells) (us := out.take j ++ [v]) (bs := out.drop j) rfl rfl (.own _ _ _ _ _ _ _ rfl) htc rfl (.inr ⟨rfl, inferInstance⟩) rfl (by simp only [List.length_cons, List.length_nil, List.length_take, List.length_append, List.length_drop]; omega))
    | refine dpOff rfl rfl ?_
    | (apply dmOn rfl rfl; case h => first | exact S_appM (f := Vec.cells) (us := []) (bs := out.take j) rfl rfl (.own _ _ _ _ _ _ _ rfl) hta rfl (.inr ⟨rfl, inferInstance⟩) rfl (by simp only [List.length_nil, List.length_take]; omega) | exact S_appM (f := Vec.cells) (us := out.take j) (bs := [v]) rfl rfl (.dat _ _) rfl rfl (.inr ⟨rfl, inferInstance⟩) rfl (by simp only [List.length_cons, List.length_nil, List.length_take]; omega) | exact S_appM (f := Vec.cells) (us := out.take j ++ [v]) (bs := out.drop j) rfl rfl (.own _ _ _ _ _ _ _ rfl) htc rfl (.inr ⟨rfl, inferInstance⟩) rfl (by simp only [List.length_cons, List.length_nil, List.length_take, List.length_append, List.length_drop]; omega))
    | ((first | apply dp rfl | apply dpOn rfl rfl | apply dpMay rfl rfl (by first | exact fun _ => trivial | exact fun h => ⟨h, trivial⟩ | exact fun h => ⟨h, h, trivial⟩ | exact fun h => ⟨h, h, h, trivial⟩)); case h => ((try intro hg); first | exact as_bool (S_gtr rfl rfl) (decide_eq_true (by omega : (0 : Int) < (j : Int))) | exact S_ixO rfl rfl rfl (by omega) (by omega) | exact S_load_rptr rfl rfl hxj rfl | exact S_sliceO rfl rfl (.none _) (.some _ _ _ _ j rfl) (Nat.zero_le _) (by omega) (.inl rfl) | exact S_sliceO rfl rfl (.some _ _ _ _ j rfl) (.none _) (by omega) (Nat.le_refl _) (.inr (by omega)) | exact S_call hc rfl | exact S_appM (f := Vec.cells) (us := []) (bs := out.take j) rfl rfl (.own _ _ _ _ _ _ _ rfl) hta rfl (.inr ⟨rfl, inferInstance⟩) rfl (by simp only [List.length_nil, List.length_take]; omega) | exact S_appM (f := Vec.cells) (us := out.take j) (bs := [v]) rfl rfl (.dat _ _) rfl rfl (.inr ⟨rfl, inferInstance⟩) rfl (by simp only [List.length_cons, List.length_nil, List.length_take]; omega) | exact S_appM (f := Vec.cells) (us := out.take j ++ [v]) (bs := out.drop j) rfl rfl (.own _ _ _ _ _ _ _ rfl) htc rfl (.inr ⟨rfl, inferInstance⟩) rfl (by simp only [List.length_cons, List.length_nil, List.length_take, List.length_append, List.length_drop]; omega) | (apply Pu.ok; repeat' (first | rfl | exact .inK (by simp only [InK]; omega) | exact .inK (by simp only [InK]; simp at hg; omega) | exact .wr | constructor | decide | omega))))
    | refine dpickAnd rfl rfl rfl rfl rfl ?_ | refine dpickOr rfl rfl rfl rfl rfl ?_
    | (apply dt rfl; case h => first | exact S_load_rptr rfl rfl hxj rfl | exact S_sliceO rfl rfl (.none _) (.some _ _ _ _ j rfl) (Nat.zero_le _) (by omega) (.inl rfl) | exact S_sliceO rfl rfl (.some _ _ _ _ j rfl) (.none _) (by omega) (Nat.le_refl _) (.inr (by omega)) | exact S_alloc _ rfl | exact S_box _ rfl rfl)
    | (apply ds; case h => first | exact S_load_rptr rfl rfl hxj rfl | exact S_sliceO rfl rfl (.none _) (.some _ _ _ _ j rfl) (Nat.zero_le _) (by omega) (.inl rfl) | exact S_sliceO rfl rfl (.some _ _ _ _ j rfl) (.none _) (by omega) (Nat.le_refl _) (.inr (by omega)) | exact S_store rfl rfl rfl rfl rfl rfl)
    | (apply dm rfl; case h => first | exact S_load_rptr rfl rfl hxj rfl | exact S_sliceO rfl rfl (.none _) (.some _ _ _ _ j rfl) (Nat.zero_le _) (by omega) (.inl rfl) | exact S_sliceO rfl rfl (.some _ _ _ _ j rfl) (.none _) (by omega) (Nat.le_refl _) (.inr (by omega)) | exact M_d rfl | exact S_alloc 2001 rfl | exact S_alloc 2002 rfl | exact S_alloc 2003 rfl | exact S_alloc 2004 rfl | exact S_alloc 2005 rfl)
    | fail)
          exact loop_again (k + 1, out.take j ++ [v] ++ out.drop j) ⟨hlt, f1, f2⟩ (by simp only; omega) (Wk_gen (fun g => if g = 500 then some 28 else some g) rfl rfl (by (repeat' (first | exact trivial | rfl | exact listLe_map _ | exact ⟨_, rfl, .inl rfl⟩ | exact ⟨_, rfl, .inr (.inl rfl)⟩ | exact ⟨_, rfl, .inr (.inr rfl)⟩ | refine ⟨_, _, rfl, rfl, ?_⟩ | exact ⟨_, rfl, rfl⟩ | exact ⟨_, _, _, _, rfl, rfl, rfl⟩ | exact ⟨_, rfl⟩ | exact ⟨_, _, rfl⟩ | apply And.intro))) (by (repeat' (first | exact trivial | rfl | exact listLe_map _ | exact ⟨_, rfl, .inl rfl⟩ | exact ⟨_, rfl, .inr (.inl rfl)⟩ | exact ⟨_, rfl, .inr (.inr rfl)⟩ | refine ⟨_, _, rfl, rfl, ?_⟩ | exact ⟨_, rfl, rfl⟩ | exact ⟨_, _, _, _, rfl, rfl, rfl⟩ | exact ⟨_, rfl⟩ | exact ⟨_, _, rfl⟩ | apply And.intro))))
    · obtain ⟨f1, f2⟩ := fin (.inl (by omega))
      by_cases hje : j = out.length
      · subst hje
        have hnil : out.drop out.length = [] := List.drop_eq_nil_of_le (Nat.le_refl _)
        rw [hnil] at f1 f2
        repeat' (first
    | (apply dt rfl; case h => exact S_litO (els := []) _ rfl rfl rfl rfl rfl)
    | refine DW_seq ?_
    | refine DW_region ?_
    | refine DW_draw ?_
    | refine dnilP ?_
    | refine dnilD (by kernel_rfl) ?_
    | refine then_normal ?_
    | refine then_exit ?_
    | refine then_ret ?_
    | refine DW_block ?_
    | refine blk_normal ?_
    | refine blk_ret ?_
    | refine blk_hit rfl ?_
    | refine blk_miss rfl ?_
    | refine loop_exit ?_
    | refine loop_ret ?_
    | refine DW_ret ?_
    | refine DW_exit ?_
    | refine DW_skip ?_
    | refine DW_cond_t rfl ?_
    | refine DW_cond_f rfl ?_
    | (apply dpC rfl; case h => first | (apply Pu.ok; repeat' (first | rfl | exact .inK (by simp only [InK]; omega) | exact .inK (by simp only [InK]; simp at hg; omega) | exact .wr | constructor | decide | omega)))
    | (apply dmC rfl; case h => first | exact S_appM (f := Vec.cells) (us := []) (bs := out.take out.length) rfl rfl (.own _ _ _ _ _ _ _ rfl) hta rfl (.inr ⟨rfl, inferInstance⟩) rfl (by simp only [List.length_nil, List.length_take]; omega) | exact S_appM (f := Vec.cells) (us := out.take out.length) (bs := [v]) rfl rfl (.dat _ _) rfl rfl (.inr ⟨rfl, inferInstance⟩) rfl (by simp only [List.length_cons, List.length_nil, List.length_take]; omega) | exact S_appM (f := Vec.cells) (us := out.take out.length ++ [v]) (bs := []) rfl rfl (.dat _ _) rfl rfl (.inr ⟨rfl, inferInstance⟩) rfl (by simp only [List.length_cons, List.length_nil, List.length_take, List.length_append]; omega))
    | refine dpOff rfl rfl ?_
    | (apply dmOn rfl rfl; case h => first | exact S_appM (f := Vec.cells) (us := []) (bs := out.take out.length) rfl rfl (.own _ _ _ _ _ _ _ rfl) hta rfl (.inr ⟨rfl, inferInstance⟩) rfl (by simp only [List.length_nil, List.length_take]; omega) | exact S_appM (f := Vec.cells) (us := out.take out.length) (bs := [v]) rfl rfl (.dat _ _) rfl rfl (.inr ⟨rfl, inferInstance⟩) rfl (by simp only [List.length_cons, List.length_nil, List.length_take]; omega) | exact S_appM (f := Vec.cells) (us := out.take out.length ++ [v]) (bs := []) rfl rfl (.dat _ _) rfl rfl (.inr ⟨rfl, inferInstance⟩) rfl (by simp only [List.length_cons, List.length_nil, List.length_take, List.length_append]; omega))
    | ((first | apply dp rfl | apply dpOn rfl rfl | apply dpMay rfl rfl (by first | exact fun _ => trivial | exact fun h => ⟨h, trivial⟩ | exact fun h => ⟨h, h, trivial⟩ | exact fun h => ⟨h, h, h, trivial⟩)); case h => ((try intro hg); first | exact as_bool (S_gtr rfl rfl) (decide_eq_false (by omega : ¬ (0 : Int) < (out.length : Int))) | exact S_sliceO rfl rfl (.none _) (.some _ _ _ _ out.length rfl) (Nat.zero_le _) (by omega) (.inl rfl) | exact S_sliceE rfl rfl (.some _ _ _ _ out.length rfl) | exact S_appM (f := Vec.cells) (us := []) (bs := out.take out.length) rfl rfl (.own _ _ _ _ _ _ _ rfl) hta rfl (.inr ⟨rfl, inferInstance⟩) rfl (by simp only [List.length_nil, List.length_take]; omega) | exact S_appM (f := Vec.cells) (us := out.take out.length) (bs := [v]) rfl rfl (.dat _ _) rfl rfl (.inr ⟨rfl, inferInstance⟩) rfl (by simp only [List.length_cons, List.length_nil, List.length_take]; omega) | exact S_appM (f := Vec.cells) (us := out.take out.length ++ [v]) (bs := []) rfl rfl (.dat _ _) rfl rfl (.inr ⟨rfl, inferInstance⟩) rfl (by simp only [List.length_cons, List.length_nil, List.length_take, List.length_append]; omega) | (apply Pu.ok; repeat' (first | rfl | exact .inK (by simp only [InK]; omega) | exact .inK (by simp only [InK]; simp at hg; omega) | exact .wr | constructor | decide | omega))))
    | refine dpickAnd rfl rfl rfl rfl rfl ?_ | refine dpickOr rfl rfl rfl rfl rfl ?_
    | (apply dt rfl; case h => first | exact S_sliceO rfl rfl (.none _) (.some _ _ _ _ out.length rfl) (Nat.zero_le _) (by omega) (.inl rfl) | exact S_sliceE rfl rfl (.some _ _ _ _ out.length rfl) | exact S_alloc _ rfl | exact S_box _ rfl rfl)
    | (apply ds; case h => first | exact S_sliceO rfl rfl (.none _) (.some _ _ _ _ out.length rfl) (Nat.zero_le _) (by omega) (.inl rfl) | exact S_sliceE rfl rfl (.some _ _ _ _ out.length rfl) | exact S_store rfl rfl rfl rfl rfl rfl)
    | (apply dm rfl; case h => first | exact S_sliceO rfl rfl (.none _) (.some _ _ _ _ out.length rfl) (Nat.zero_le _) (by omega) (.inl rfl) | exact S_sliceE rfl rfl (.some _ _ _ _ out.length rfl) | exact M_d rfl | exact S_alloc 2001 rfl | exact S_alloc 2002 rfl | exact S_alloc 2003 rfl | exact S_alloc 2004 rfl | exact S_alloc 2005 rfl)
    | fail)
        exact loop_again (k + 1, out.take out.length ++ [v] ++ []) ⟨hlt, f1, f2⟩ (by simp only; omega) (Wk_gen (fun g => if g = 500 then some 28 else some g) rfl rfl (by (repeat' (first | exact trivial | rfl | exact listLe_map _ | exact ⟨_, rfl, .inl rfl⟩ | exact ⟨_, rfl, .inr (.inl rfl)⟩ | exact ⟨_, rfl, .inr (.inr rfl)⟩ | refine ⟨_, _, rfl, rfl, ?_⟩ | exact ⟨_, rfl, rfl⟩ | exact ⟨_, _, _, _, rfl, rfl, rfl⟩ | exact ⟨_, rfl⟩ | exact ⟨_, _, rfl⟩ | apply And.intro))) (by (repeat' (first | exact trivial | rfl | exact listLe_map _ | exact ⟨_, rfl, .inl rfl⟩ | exact ⟨_, rfl, .inr (.inl rfl)⟩ | exact ⟨_, rfl, .inr (.inr rfl)⟩ | refine ⟨_, _, rfl, rfl, ?_⟩ | exact ⟨_, rfl, rfl⟩ | exact ⟨_, _, _, _, rfl, rfl, rfl⟩ | exact ⟨_, rfl⟩ | exact ⟨_, _, rfl⟩ | apply And.intro))))
      · repeat' (first
    | (apply dt rfl; case h => exact S_litO (els := []) _ rfl rfl rfl rfl rfl)
    | refine DW_seq ?_
    | refine DW_region ?_
    | refine DW_draw ?_
    | refine dnilP ?_
    | refine dnilD (by kernel_rfl) ?_
    | refine then_normal ?_
    | refine then_exit ?_
    | refine then_ret ?_
    | refine DW_block ?_
    | refine blk_normal ?_
    | refine blk_ret ?_
    | refine blk_hit rfl ?_
    | refine blk_miss rfl ?_
    | refine loop_exit ?_
    | refine loop_ret ?_
    | refine DW_ret ?_
    | refine DW_exit ?_
    | refine DW_skip ?_
    | refine DW_cond_t rfl ?_
    | refine DW_cond_f rfl ?_
    | (apply dpC rfl; case h => first | (apply Pu.ok; repeat' (first | rfl | exact .inK (by simp only [InK]; omega) | exact .inK (by simp only [InK]; simp at hg; omega) | exact .wr | constructor | decide | omega)))
    | (apply dmC rfl; case h => first | exact S_appM (f := Vec.cells) (us := []) (bs := out.take j) rfl rfl (.own _ _ _ _ _ _ _ rfl) hta rfl (.inr ⟨rfl, inferInstance⟩) rfl (by simp only [List.length_nil, List.length_take]; omega) | exact S_appM (f := Vec.cells) (us := out.take j) (bs := [v]) rfl rfl (.dat _ _) rfl rfl (.inr ⟨rfl, inferInstance⟩) rfl (by simp only [List.length_cons, List.length_nil, List.length_take]; omega) | exact S_appM (f := Vec.cells) (us := out.take j ++ [v]) (bs := out.drop j) rfl rfl (.own _ _ _ _ _ _ _ rfl) htc rfl (.inr ⟨rfl, inferInstance⟩) rfl (by simp only [List.length_cons, List.length_nil, List.length_take, List.length_append, List.length_drop]; omega))
    | refine dpOff rfl rfl ?_
    | (apply dmOn rfl rfl; case h => first | exact S_appM (f := Vec.cells) (us := []) (bs := out.take j) rfl rfl (.own _ _ _ _ _ _ _ rfl) hta rfl (.inr ⟨rfl, inferInstance⟩) rfl (by simp only [List.length_nil, List.length_take]; omega) | exact S_appM (f := Vec.cells) (us := out.take j) (bs := [v]) rfl rfl (.dat _ _) rfl rfl (.inr ⟨rfl, inferInstance⟩) rfl (by simp only [List.length_cons, List.length_nil, List.length_take]; omega) | exact S_appM (f := Vec.cells) (us := out.take j ++ [v]) (bs := out.drop j) rfl rfl (.own _ _ _ _ _ _ _ rfl) htc rfl (.inr ⟨rfl, inferInstance⟩) rfl (by simp only [List.length_cons, List.length_nil, List.length_take, List.length_append, List.length_drop]; omega))
    | ((first | apply dp rfl | apply dpOn rfl rfl | apply dpMay rfl rfl (by first | exact fun _ => trivial | exact fun h => ⟨h, trivial⟩ | exact fun h => ⟨h, h, trivial⟩ | exact fun h => ⟨h, h, h, trivial⟩)); case h => ((try intro hg); first | exact as_bool (S_gtr rfl rfl) (decide_eq_false (by omega : ¬ (0 : Int) < (j : Int))) | exact S_sliceO rfl rfl (.none _) (.some _ _ _ _ j rfl) (Nat.zero_le _) (by omega) (.inl rfl) | exact S_sliceO rfl rfl (.some _ _ _ _ j rfl) (.none _) (by omega) (Nat.le_refl _) (.inr (by omega)) | exact S_appM (f := Vec.cells) (us := []) (bs := out.take j) rfl rfl (.own _ _ _ _ _ _ _ rfl) hta rfl (.inr ⟨rfl, inferInstance⟩) rfl (by simp only [List.length_nil, List.length_take]; omega) | exact S_appM (f := Vec.cells) (us := out.take j) (bs := [v]) rfl rfl (.dat _ _) rfl rfl (.inr ⟨rfl, inferInstance⟩) rfl (by simp only [List.length_cons, List.length_nil, List.length_take]; omega) | exact S_appM (f := Vec.cells) (us := out.take j ++ [v]) (bs := out.drop j) rfl rfl (.own _ _ _ _ _ _ _ rfl) htc rfl (.inr ⟨rfl, inferInstance⟩) rfl (by simp only [List.length_cons, List.length_nil, List.length_take, List.length_append, List.length_drop]; omega) | (apply Pu.ok; repeat' (first | rfl | exact .inK (by simp only [InK]; omega) | exact .inK (by simp only [InK]; simp at hg; omega) | exact .wr | constructor | decide | omega))))
    | refine dpickAnd rfl rfl rfl rfl rfl ?_ | refine dpickOr rfl rfl rfl rfl rfl ?_
    | (apply dt rfl; case h => first | exact S_sliceO rfl rfl (.none _) (.some _ _ _ _ j rfl) (Nat.zero_le _) (by omega) (.inl rfl) | exact S_sliceO rfl rfl (.some _ _ _ _ j rfl) (.none _) (by omega) (Nat.le_refl _) (.inr (by omega)) | exact S_alloc _ rfl | exact S_box _ rfl rfl)
    | (apply ds; case h => first | exact S_sliceO rfl rfl (.none _) (.some _ _ _ _ j rfl) (Nat.zero_le _) (by omega) (.inl rfl) | exact S_sliceO rfl rfl (.some _ _ _ _ j rfl) (.none _) (by omega) (Nat.le_refl _) (.inr (by omega)) | exact S_store rfl rfl rfl rfl rfl rfl)
    | (apply dm rfl; case h => first | exact S_sliceO rfl rfl (.none _) (.some _ _ _ _ j rfl) (Nat.zero_le _) (by omega) (.inl rfl) | exact S_sliceO rfl rfl (.some _ _ _ _ j rfl) (.none _) (by omega) (Nat.le_refl _) (.inr (by omega)) | exact M_d rfl | exact S_alloc 2001 rfl | exact S_alloc 2002 rfl | exact S_alloc 2003 rfl | exact S_alloc 2004 rfl | exact S_alloc 2005 rfl)
    | fail)
        exact loop_again (k + 1, out.take j ++ [v] ++ out.drop j) ⟨hlt, f1, f2⟩ (by simp only; omega) (Wk_gen (fun g => if g = 500 then some 28 else some g) rfl rfl (by (repeat' (first | exact trivial | rfl | exact listLe_map _ | exact ⟨_, rfl, .inl rfl⟩ | exact ⟨_, rfl, .inr (.inl rfl)⟩ | exact ⟨_, rfl, .inr (.inr rfl)⟩ | refine ⟨_, _, rfl, rfl, ?_⟩ | exact ⟨_, rfl, rfl⟩ | exact ⟨_, _, _, _, rfl, rfl, rfl⟩ | exact ⟨_, rfl⟩ | exact ⟨_, _, rfl⟩ | apply And.intro))) (by (repeat' (first | exact trivial | rfl | exact listLe_map _ | exact ⟨_, rfl, .inl rfl⟩ | exact ⟨_, rfl, .inr (.inl rfl)⟩ | exact ⟨_, rfl, .inr (.inr rfl)⟩ | refine ⟨_, _, rfl, rfl, ?_⟩ | exact ⟨_, rfl, rfl⟩ | exact ⟨_, _, _, _, rfl, rfl, rfl⟩ | exact ⟨_, rfl⟩ | exact ⟨_, _, rfl⟩ | apply And.intro))))
  · rw [List.take_of_length_le (by omega)] at hp
    rw [← sortL_eq hp hs]
    repeat' (first
    | (refine DW_seal 2 rfl rfl (by simp) ?_; refine DW_ret ?_)
    | refine DW_seq ?_
    | refine DW_region ?_
    | refine DW_draw ?_
    | refine dnilP ?_
    | refine dnilD (by kernel_rfl) ?_
    | refine then_normal ?_
    | refine then_exit ?_
    | refine then_ret ?_
    | refine DW_block ?_
    | refine blk_normal ?_
    | refine blk_ret ?_
    | refine blk_hit rfl ?_
    | refine blk_miss rfl ?_
    | refine loop_exit ?_
    | refine loop_ret ?_
    | refine DW_ret ?_
    | refine DW_exit ?_
    | refine DW_skip ?_
    | refine DW_cond_t rfl ?_
    | refine DW_cond_f rfl ?_
    | (apply dpC rfl; case h => first | (apply Pu.ok; repeat' (first | rfl | exact .inK (by simp only [InK]; omega) | exact .inK (by simp only [InK]; simp at hg; omega) | exact .wr | constructor | decide | omega)))
    | refine dpOff rfl rfl ?_
    | ((first | apply dp rfl | apply dpOn rfl rfl | apply dpMay rfl rfl (by first | exact fun _ => trivial | exact fun h => ⟨h, trivial⟩ | exact fun h => ⟨h, h, trivial⟩ | exact fun h => ⟨h, h, h, trivial⟩)); case h => ((try intro hg); first | exact as_bool (S_lss rfl rfl) (decide_eq_false (by omega : ¬ (k : Int) < ((l.map Vec.cells).length : Int))) | (apply Pu.ok; repeat' (first | rfl | exact .inK (by simp only [InK]; omega) | exact .inK (by simp only [InK]; simp at hg; omega) | exact .wr | constructor | decide | omega))))
    | refine dpickAnd rfl rfl rfl rfl rfl ?_ | refine dpickOr rfl rfl rfl rfl rfl ?_
    | (apply dt rfl; case h => first | exact S_alloc _ rfl | exact S_box _ rfl rfl)
    | (apply ds; case h => first | exact S_store rfl rfl rfl rfl rfl rfl)
    | (apply dm rfl; case h => first | exact M_d rfl | exact S_alloc 2001 rfl | exact S_alloc 2002 rfl | exact S_alloc 2003 rfl | exact S_alloc 2004 rfl | exact S_alloc 2005 rfl)
    | fail)
    exact ret1 rfl (.inl rfl) rfl
end Go.Proofs.Ytcdeielnkmjfhaa
