/- Contracts: package vec. -/
import Derived.Test.YtcdeielnkmjfhaacCmp
namespace Go.Proofs.Ytcdeielnkmjfhaa
open Go.RowKit
attribute [local irreducible] SStep DW DOps thenQ inBlk loopQ retQ FnF Wk

structure Vec where
  root : Int
  cost : Int
  bridge : Int
  port : Int
def Vec.cells (v : Vec) : List V := [.int .u64 v.root, .int .i64 v.cost, .int .u64 v.bridge, .int .i64 v.port]
def Vec.v (v : Vec) : V := .agg v.cells
def Vec.cmp (a b : Vec) : Int := orI [cmpI a.root b.root, cmpI a.cost b.cost, cmpI a.bridge b.bridge, cmpI a.port b.port]
theorem vec_Compare (a b : Vec) : FnF Try.prog 10 [a.v, b.v] (.int .i64 (a.cmp b)) := by
  refine fnF_of Try.func10 rfl rfl rfl ?_
  simp only [envOf]
  repeat' (first
    | refine DW_seq ?_
    | refine DW_region ?_
    | refine DW_draw ?_
    | refine dnilP ?_
    | refine dnilD (by kernel_rfl) ?_
    | refine then_normal ?_
    | refine then_exit ?_
    | refine then_ret ?_
    | refine DW_block ?_
    | refine blk_normal ?_
    | refine blk_ret ?_
    | refine blk_hit rfl ?_
    | refine blk_miss rfl ?_
    | refine loop_exit ?_
    | refine loop_ret ?_
    | refine DW_ret ?_
    | refine DW_exit ?_
    | refine DW_skip ?_
    | refine DW_cond_t rfl ?_
    | refine DW_cond_f rfl ?_
    | (apply dpC rfl; case h => first | exact S_call (cmp_u64 _ _) rfl | exact S_call (cmp_int _ _) rfl | exact S_call (cmp_Or [_, _, _, _]) rfl | (apply Pu.ok; repeat' (first | rfl | exact .inK (by simp only [InK]; omega) | exact .inK (by simp only [InK]; simp at hg; omega) | exact .wr | constructor | decide | omega)))
    | refine dpOff rfl rfl ?_
    | ((first | apply dp rfl | apply dpOn rfl rfl | apply dpMay rfl rfl (by first | exact fun _ => trivial | exact fun h => ⟨h, trivial⟩ | exact fun h => ⟨h, h, trivial⟩ | exact fun h => ⟨h, h, h, trivial⟩)); case h => ((try intro hg); first | exact S_call (cmp_u64 _ _) rfl | exact S_call (cmp_int _ _) rfl | exact S_call (cmp_Or [_, _, _, _]) rfl | (apply Pu.ok; repeat' (first | rfl | exact .inK (by simp only [InK]; omega) | exact .inK (by simp only [InK]; simp at hg; omega) | exact .wr | constructor | decide | omega))))
    | refine dpickAnd rfl rfl rfl rfl rfl ?_ | refine dpickOr rfl rfl rfl rfl rfl ?_
    | (apply dt rfl; case h => first | exact S_alloc _ rfl | exact S_box _ rfl rfl)
    | (apply ds; case h => first | exact S_store rfl rfl rfl rfl rfl rfl)
    | (apply dm rfl; case h => first | exact M_d rfl | exact S_alloc 2001 rfl | exact S_alloc 2002 rfl | exact S_alloc 2003 rfl | exact S_alloc 2004 rfl | exact S_alloc 2005 rfl)
    | fail)
  exact ret1 rfl (.inl rfl) rfl
def maxCost : Int := 1000000000
def Vec.over (v : Vec) (cost : Int) : Option Vec := if cost < 0 ∨ maxCost < cost ∨ v.cost < 0 ∨ maxCost - cost < v.cost then none else some { v with cost := v.cost + cost }
def Vec.zero : Vec := ⟨0, 0, 0, 0⟩
theorem vec_Over (v : Vec) (cost : Int) : FnF Try.prog 11 [v.v, .int .i64 cost] (.tuple [((v.over cost).getD .zero).v, .bool (v.over cost).isSome]) := by
  refine fnF_of Try.func11 rfl rfl rfl ?_
  simp only [envOf]
  repeat' (first
    | refine DW_seq ?_
    | refine DW_region ?_
    | refine DW_draw ?_
    | refine dnilP ?_
    | refine dnilD (by kernel_rfl) ?_
    | refine then_normal ?_
    | refine then_exit ?_
    | refine then_ret ?_
    | refine DW_block ?_
    | refine blk_normal ?_
    | refine blk_ret ?_
    | refine blk_hit rfl ?_
    | refine blk_miss rfl ?_
    | refine loop_exit ?_
    | refine loop_ret ?_
    | refine DW_ret ?_
    | refine DW_exit ?_
    | refine DW_skip ?_
    | refine DW_cond_t rfl ?_
    | refine DW_cond_f rfl ?_
    | refine DW_cond rfl (fun hb => ?_) (fun hb => ?_)
    | (apply dpC rfl; case h => first | (apply Pu.ok; repeat' (first | rfl | exact .inK (by simp only [InK]; omega) | exact .inK (by simp only [InK]; simp at hg; omega) | exact .wr | constructor | decide | omega)))
    | refine dpOff rfl rfl ?_
    | ((first | apply dp rfl | apply dpOn rfl rfl | apply dpMay rfl rfl (by first | exact fun _ => trivial | exact fun h => ⟨h, trivial⟩ | exact fun h => ⟨h, h, trivial⟩ | exact fun h => ⟨h, h, h, trivial⟩)); case h => ((try intro hg); first | (apply Pu.ok; repeat' (first | rfl | exact .inK (by simp only [InK]; omega) | exact .inK (by simp only [InK]; simp at hg; omega) | exact .wr | constructor | decide | omega))))
    | refine dpickAnd rfl rfl rfl rfl rfl ?_ | refine dpickOr rfl rfl rfl rfl rfl ?_
    | (apply dt rfl; case h => first | exact S_alloc _ rfl | exact S_box _ rfl rfl)
    | (apply ds; case h => first | exact S_store rfl rfl rfl rfl rfl rfl)
    | (apply dm rfl; case h => first | exact M_d rfl | exact S_alloc 2001 rfl | exact S_alloc 2002 rfl | exact S_alloc 2003 rfl | exact S_alloc 2004 rfl | exact S_alloc 2005 rfl)
    | fail)
  · refine retN (.cellA inferInstance rfl rfl rfl rfl (by first | exact .inl rfl | exact .inr (flat_of rfl)) (.tmp rfl (by first | exact .inl rfl | exact .inr (flat_of rfl)) .nil)) ?_
    have hn : v.over cost = none := by
      unfold Vec.over maxCost
      rw [if_pos]
      simp at hb; omega
    rw [hn]; rfl
  · refine retN (.cellA inferInstance rfl rfl rfl rfl (by first | exact .inl rfl | exact .inr (flat_of rfl)) (.tmp rfl (by first | exact .inl rfl | exact .inr (flat_of rfl)) .nil)) ?_
    simp at hb
    have hn : v.over cost = some { v with cost := v.cost + cost } := by
      unfold Vec.over maxCost
      rw [if_neg]
      omega
    rw [hn, wrap_in (by simp only [InK]; omega)]; rfl

end Go.Proofs.Ytcdeielnkmjfhaa
