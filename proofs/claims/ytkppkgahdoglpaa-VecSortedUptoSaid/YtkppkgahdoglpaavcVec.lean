/- Contracts: package vec. -/
import Derived.Test.YtkppkgahdoglpaavcCmp
namespace Go.Proofs.Ytkppkgahdoglpaa
open Go.RowKit
attribute [local irreducible] SStep DW DOps thenQ inBlk loopQ retQ FnF Wk
structure Vec where
  root : Int
  cost : Int
  bridge : Int
  port : Int
def Vec.cells (v : Vec) : List V := [.int .u64 v.root, .int .i64 v.cost, .int .u64 v.bridge, .int .i64 v.port]
def Vec.v (v : Vec) : V := .agg v.cells
def Vec.cmp (a b : Vec) : Int := orI [cmpI a.root b.root, cmpI a.cost b.cost, cmpI a.bridge b.bridge, cmpI a.port b.port]
theorem vec_Compare (a b : Vec) : FnF Try.prog 27 [a.v, b.v] (.int .i64 (a.cmp b)) := by
  refine fnF_of Try.func27 rfl rfl rfl ?_
  simp only [envOf]
  repeat' (first
    | (apply Stp.go; case a => constructor)
    | refine blk_hit rfl ?_ | refine blk_miss rfl ?_ | refine dnilD (by kernel_rfl) ?_ | refine DW_cond_t rfl ?_ | refine DW_cond_f rfl ?_
    | refine dpOff rfl rfl ?_
    | ((first | apply dX rfl | apply dXon rfl rfl | apply dpMay rfl rfl (by intro h; first | trivial | exact ⟨h, trivial⟩ | exact ⟨h, h, trivial⟩ | exact ⟨h, h, h, trivial⟩)); (case h => ((try intro hg); first | exact S_call (cmp_u64 _ _) rfl | exact S_call (cmp_int _ _) rfl | exact S_call (cmp_Or [_, _, _, _]) rfl | exact S_al rfl | exact S_bx rfl rfl | exact S_store rfl rfl rfl rfl rfl rfl | (apply Pu.ok; repeat' (first | rfl | exact .inK (by simp only [InK]; omega) | exact .inK (by simp only [InK]; simp at hg; omega) | exact .wr | constructor | decide | omega)))); (try case hp => constructor))
    | refine dpickAnd rfl rfl rfl rfl rfl ?_ | refine dpickOr rfl rfl rfl rfl rfl ?_
    | fail)
  exact ret1 rfl (.inl rfl) rfl
def maxCost : Int := 1000000000
def Vec.over (v : Vec) (cost : Int) : Option Vec := if cost < 0 ∨ maxCost < cost ∨ v.cost < 0 ∨ maxCost - cost < v.cost then none else some { v with cost := v.cost + cost }
def Vec.zero : Vec := ⟨0, 0, 0, 0⟩
theorem vec_Over (v : Vec) (cost : Int) : FnF Try.prog 60 [v.v, .int .i64 cost] (.tuple [((v.over cost).getD .zero).v, .bool (v.over cost).isSome]) := by
  refine fnF_of Try.func60 rfl rfl rfl ?_
  simp only [envOf]
  repeat' (first
    | (apply Stp.go; case a => constructor)
    | refine blk_hit rfl ?_ | refine blk_miss rfl ?_ | refine dnilD (by kernel_rfl) ?_ | refine DW_cond_t rfl ?_ | refine DW_cond_f rfl ?_
    | refine DW_cond rfl (fun hb => ?_) (fun hb => ?_)
    | refine dpOff rfl rfl ?_
    | ((first | apply dX rfl | apply dXon rfl rfl | apply dpMay rfl rfl (by intro h; first | trivial | exact ⟨h, trivial⟩ | exact ⟨h, h, trivial⟩ | exact ⟨h, h, h, trivial⟩)); (case h => ((try intro hg); first | exact S_al rfl | exact S_bx rfl rfl | exact S_store rfl rfl rfl rfl rfl rfl | (apply Pu.ok; repeat' (first | rfl | exact .inK (by simp only [InK]; omega) | exact .inK (by simp only [InK]; simp at hg; omega) | exact .wr | constructor | decide | omega)))); (try case hp => constructor))
    | refine dpickAnd rfl rfl rfl rfl rfl ?_ | refine dpickOr rfl rfl rfl rfl rfl ?_
    | fail)
  · refine retN (.cellA inferInstance rfl rfl rfl rfl (by first | exact .inl rfl | exact .inr (flat_of rfl)) (.tmp rfl (by first | exact .inl rfl | exact .inr (flat_of rfl)) .nil)) ?_
    have hn : v.over cost = none := by
      unfold Vec.over maxCost
      rw [if_pos]
      simp at hb; omega
    rw [hn]; rfl
  · refine retN (.cellA inferInstance rfl rfl rfl rfl (by first | exact .inl rfl | exact .inr (flat_of rfl)) (.tmp rfl (by first | exact .inl rfl | exact .inr (flat_of rfl)) .nil)) ?_
    simp at hb
    have hn : v.over cost = some { v with cost := v.cost + cost } := by
      unfold Vec.over maxCost
      rw [if_neg]
      omega
    rw [hn, wrap_in (by simp only [InK]; omega)]; rfl
end Go.Proofs.Ytkppkgahdoglpaa
