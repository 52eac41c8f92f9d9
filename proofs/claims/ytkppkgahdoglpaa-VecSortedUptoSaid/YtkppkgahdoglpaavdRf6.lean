/- Contracts: vec.Best; the document's Sorted and Choose. -/
import Derived.Test.YtkppkgahdoglpaavbInp
import Derived.Test.YtkppkgahdoglpaavcSrt
import Derived.Test.YtkppkgahdoglpaavdStb
import Derived.Test.YtkppkgahdoglpaaveChoose
namespace Go.Proofs.Ytkppkgahdoglpaa
open Go.RowKit
def bestK (l : List Vec) : Nat → Int
  | 0 => -1
  | k + 1 => if bestK l k < 0 ∨ (vat l k).cmp (vat l (bestK l k).toNat) < 0 then (k : Int) else bestK l k
theorem bestK_in (l : List Vec) : ∀ k, -1 ≤ bestK l k ∧ bestK l k < (k : Int) ∨ (k = 0 ∧ bestK l k = -1)
  | 0 => .inr ⟨rfl, rfl⟩
  | k + 1 => by
    have ih := bestK_in l k
    rw [bestK]
    split <;> omega
section
variable {P : Program} {e : Operand → D} {m : Mem} {dst : Option Tmp} {ty : TypeId} {pos : String} {af : Array Edge} {gd : Option (Nat × Bool)} {x : Operand} {t : TypeId}
end
attribute [local irreducible] SStep DW DWS DOps thenQ inBlk loopQ loopQS endI normQ retQ retQG FnF FnG FnI Wk IntKind.wrap IntKind.andI IntKind.orI IntKind.xorI IntKind.andNotI IntKind.shlI IntKind.shrI Vec.cmp sortL sortSeg vat bestK Ch.step
set_option maxHeartbeats 1000000 in
theorem vec_Best (l : List Vec) : FnF Try.prog 28 [.slice (l.map Vec.cells)] (.int .i64 (bestK l l.length)) := by
  refine fnF_of Try.func28 rfl rfl rfl ?_
  simp only [envOf]
  refine DW_len 0 rfl (fun hlen => ?_)
  have hml : (l.map Vec.cells).length = l.length := by simp
  repeat' (first
    | (apply Stp.go; case a => constructor)
    | refine blk_hit rfl ?_ | refine blk_miss rfl ?_ | refine dnilD (by kernel_rfl) ?_ | refine DW_cond_t rfl ?_ | refine DW_cond_f rfl ?_
    | refine dpOff rfl rfl ?_
    | ((first | apply dX rfl | apply dXon rfl rfl | apply dpMay rfl rfl (by intro h; first | trivial | exact ⟨h, trivial⟩ | exact ⟨h, h, trivial⟩ | exact ⟨h, h, h, trivial⟩)); (case h => ((try intro hg); first | exact S_al rfl | exact S_bx rfl rfl | exact S_store rfl rfl rfl rfl rfl rfl | (apply Pu.ok; repeat' (first | rfl | exact .inK (by simp only [InK]; omega) | exact .inK (by simp only [InK]; simp at hg; omega) | exact .wr | constructor | decide | omega)))); (try case hp => constructor))
    | refine dpickAnd rfl rfl rfl rfl rfl ?_ | refine dpickOr rfl rfl rfl rfl rfl ?_
    | fail)
  refine DW_loop (fun k : Nat => ⟨[(0, .dat false (.slice (l.map Vec.cells))), (3, .dat false (.int .i64 (bestK l k))), (6, .dat false (.slice (l.map Vec.cells))), (7, .dat true (.int .i64 (l.map Vec.cells).length)), (8, .dat true (.int .i64 k))], [], 27⟩)
    (fun k => k ≤ l.length) (fun k => l.length - k) 0 (Nat.zero_le _)
    (by with_unfolding_all exact Wk_g some rfl rfl (by (repeat' (first | exact trivial | rfl | exact listLe_map _ | exact ⟨_, rfl, .inl rfl⟩ | exact ⟨_, rfl, .inr (.inl rfl)⟩ | exact ⟨_, rfl, .inr (.inr rfl)⟩ | refine ⟨_, _, rfl, rfl, ?_⟩ | exact ⟨_, rfl, rfl⟩ | exact ⟨_, _, _, _, rfl, rfl, rfl⟩ | exact ⟨_, rfl⟩ | exact ⟨_, _, rfl⟩ | refine ⟨_, (rfl : D.fnd _ _ = D.fnd _ _), ?_⟩ | apply And.intro)))) (fun k hk => ?_)
  by_cases hlt : k < l.length
  · have hx : l[(k : Int).toNat]? = some (vat l k) := by rw [Int.toNat_natCast]; exact vat_get hlt
    have hin := bestK_in l k
    have hnx : bestK l (k + 1) = if bestK l k < 0 ∨ (vat l k).cmp (vat l (bestK l k).toNat) < 0 then (k : Int) else bestK l k := by with_unfolding_all rfl
    generalize bestK l k = b at hin hnx
    by_cases hb0 : b < 0
    · rw [if_pos (.inl hb0)] at hnx
      repeat' (first
    | (apply Stp.go; case a => constructor)
    | refine blk_hit rfl ?_ | refine blk_miss rfl ?_ | refine dnilD (by kernel_rfl) ?_ | refine DW_cond_t rfl ?_ | refine DW_cond_f rfl ?_
    | refine dpOff rfl rfl ?_
    | ((first | apply dX rfl | apply dXon rfl rfl | apply dpMay rfl rfl (by intro h; first | trivial | exact ⟨h, trivial⟩ | exact ⟨h, h, trivial⟩ | exact ⟨h, h, h, trivial⟩)); (case h => ((try intro hg); first | exact as_bool (S_lss rfl rfl) (decide_eq_true (by omega : (k : Int) < ((l.map Vec.cells).length : Int))) | exact S_ixM rfl rfl (by omega) hx | exact as_bool (S_lss rfl rfl) (decide_eq_true hb0) | exact S_al rfl | exact S_bx rfl rfl | exact S_store rfl rfl rfl rfl rfl rfl | (apply Pu.ok; repeat' (first | rfl | exact .inK (by simp only [InK]; omega) | exact .inK (by simp only [InK]; simp at hg; omega) | exact .wr | constructor | decide | omega)))); (try case hp => constructor))
    | refine dpickAnd rfl rfl rfl rfl rfl ?_ | refine dpickOr rfl rfl rfl rfl rfl ?_
    | fail)
      refine loop_again (k + 1) hlt (by omega) ?_
      rw [hnx]
      exact Wk_g some rfl rfl (by (repeat' (first | exact trivial | rfl | exact listLe_map _ | exact ⟨_, rfl, .inl rfl⟩ | exact ⟨_, rfl, .inr (.inl rfl)⟩ | exact ⟨_, rfl, .inr (.inr rfl)⟩ | refine ⟨_, _, rfl, rfl, ?_⟩ | exact ⟨_, rfl, rfl⟩ | exact ⟨_, _, _, _, rfl, rfl, rfl⟩ | exact ⟨_, rfl⟩ | exact ⟨_, _, rfl⟩ | refine ⟨_, (rfl : D.fnd _ _ = D.fnd _ _), ?_⟩ | apply And.intro)))
    · have hxb : l[b.toNat]? = some (vat l b.toNat) := vat_get (by omega)
      have hc := vec_Compare (vat l k) (vat l b.toNat)
      by_cases hlt2 : (vat l k).cmp (vat l b.toNat) < 0
      · rw [if_pos (.inr hlt2)] at hnx
        repeat' (first
    | (apply Stp.go; case a => constructor)
    | refine blk_hit rfl ?_ | refine blk_miss rfl ?_ | refine dnilD (by kernel_rfl) ?_ | refine DW_cond_t rfl ?_ | refine DW_cond_f rfl ?_
    | refine dpOff rfl rfl ?_
    | ((first | apply dX rfl | apply dXon rfl rfl | apply dpMay rfl rfl (by intro h; first | trivial | exact ⟨h, trivial⟩ | exact ⟨h, h, trivial⟩ | exact ⟨h, h, h, trivial⟩)); (case h => ((try intro hg); first | exact as_bool (S_lss rfl rfl) (decide_eq_true (by omega : (k : Int) < ((l.map Vec.cells).length : Int))) | exact S_ixM rfl rfl (by omega) hx | exact S_ixM rfl rfl (by omega) hxb | exact as_bool (S_lss rfl rfl) (decide_eq_false hb0) | exact S_call hc rfl | exact as_bool (S_lss rfl rfl) (decide_eq_true hlt2) | exact S_al rfl | exact S_bx rfl rfl | exact S_store rfl rfl rfl rfl rfl rfl | (apply Pu.ok; repeat' (first | rfl | exact .inK (by simp only [InK]; omega) | exact .inK (by simp only [InK]; simp at hg; omega) | exact .wr | constructor | decide | omega)))); (try case hp => constructor))
    | refine dpickAnd rfl rfl rfl rfl rfl ?_ | refine dpickOr rfl rfl rfl rfl rfl ?_
    | fail)
        refine loop_again (k + 1) hlt (by omega) ?_
        rw [hnx]
        exact Wk_g some rfl rfl (by (repeat' (first | exact trivial | rfl | exact listLe_map _ | exact ⟨_, rfl, .inl rfl⟩ | exact ⟨_, rfl, .inr (.inl rfl)⟩ | exact ⟨_, rfl, .inr (.inr rfl)⟩ | refine ⟨_, _, rfl, rfl, ?_⟩ | exact ⟨_, rfl, rfl⟩ | exact ⟨_, _, _, _, rfl, rfl, rfl⟩ | exact ⟨_, rfl⟩ | exact ⟨_, _, rfl⟩ | refine ⟨_, (rfl : D.fnd _ _ = D.fnd _ _), ?_⟩ | apply And.intro)))
      · rw [if_neg (fun h => h.elim hb0 hlt2)] at hnx
        repeat' (first
    | (apply Stp.go; case a => constructor)
    | refine blk_hit rfl ?_ | refine blk_miss rfl ?_ | refine dnilD (by kernel_rfl) ?_ | refine DW_cond_t rfl ?_ | refine DW_cond_f rfl ?_
    | refine dpOff rfl rfl ?_
    | ((first | apply dX rfl | apply dXon rfl rfl | apply dpMay rfl rfl (by intro h; first | trivial | exact ⟨h, trivial⟩ | exact ⟨h, h, trivial⟩ | exact ⟨h, h, h, trivial⟩)); (case h => ((try intro hg); first | exact as_bool (S_lss rfl rfl) (decide_eq_true (by omega : (k : Int) < ((l.map Vec.cells).length : Int))) | exact S_ixM rfl rfl (by omega) hx | exact S_ixM rfl rfl (by omega) hxb | exact as_bool (S_lss rfl rfl) (decide_eq_false hb0) | exact S_call hc rfl | exact as_bool (S_lss rfl rfl) (decide_eq_false hlt2) | exact S_al rfl | exact S_bx rfl rfl | exact S_store rfl rfl rfl rfl rfl rfl | (apply Pu.ok; repeat' (first | rfl | exact .inK (by simp only [InK]; omega) | exact .inK (by simp only [InK]; simp at hg; omega) | exact .wr | constructor | decide | omega)))); (try case hp => constructor))
    | refine dpickAnd rfl rfl rfl rfl rfl ?_ | refine dpickOr rfl rfl rfl rfl rfl ?_
    | fail)
        refine loop_again (k + 1) hlt (by omega) ?_
        rw [hnx]
        exact Wk_g some rfl rfl (by (repeat' (first | exact trivial | rfl | exact listLe_map _ | exact ⟨_, rfl, .inl rfl⟩ | exact ⟨_, rfl, .inr (.inl rfl)⟩ | exact ⟨_, rfl, .inr (.inr rfl)⟩ | refine ⟨_, _, rfl, rfl, ?_⟩ | exact ⟨_, rfl, rfl⟩ | exact ⟨_, _, _, _, rfl, rfl, rfl⟩ | exact ⟨_, rfl⟩ | exact ⟨_, _, rfl⟩ | refine ⟨_, (rfl : D.fnd _ _ = D.fnd _ _), ?_⟩ | apply And.intro)))
  · have hkl : k = l.length := by omega
    subst hkl
    repeat' (first
    | (apply Stp.go; case a => constructor)
    | refine blk_hit rfl ?_ | refine blk_miss rfl ?_ | refine dnilD (by kernel_rfl) ?_ | refine DW_cond_t rfl ?_ | refine DW_cond_f rfl ?_
    | refine dpOff rfl rfl ?_
    | ((first | apply dX rfl | apply dXon rfl rfl | apply dpMay rfl rfl (by intro h; first | trivial | exact ⟨h, trivial⟩ | exact ⟨h, h, trivial⟩ | exact ⟨h, h, h, trivial⟩)); (case h => ((try intro hg); first | exact as_bool (S_lss rfl rfl) (decide_eq_false (by omega : ¬ (l.length : Int) < ((l.map Vec.cells).length : Int))) | exact S_al rfl | exact S_bx rfl rfl | exact S_store rfl rfl rfl rfl rfl rfl | (apply Pu.ok; repeat' (first | rfl | exact .inK (by simp only [InK]; omega) | exact .inK (by simp only [InK]; simp at hg; omega) | exact .wr | constructor | decide | omega)))); (try case hp => constructor))
    | refine dpickAnd rfl rfl rfl rfl rfl ?_ | refine dpickOr rfl rfl rfl rfl rfl ?_
    | fail)
    exact ret1 rfl (.inr (.int _ _)) rfl
end Go.Proofs.Ytkppkgahdoglpaa
