/- Contracts: vec.Role. -/
import Derived.Test.YtcdeielnkmjfhaaeChoose
namespace Go.Proofs.Ytcdeielnkmjfhaa
open Go.RowKit
attribute [local irreducible] SStep DW DOps thenQ inBlk loopQ retQ FnF Wk

def Offer.blocks (says : Vec) (port : Int) (o : Offer) : Bool := (decide (o.port = port) && decide (0 ≤ o.age) && decide (o.age ≤ 20) && decide (o.vec.cmp says < 0))
def roleOf (says : Vec) (root port : Int) (l : List Offer) : Int := if port = root then 1 else if l.any (Offer.blocks { says with port := port } port) then 3 else 2

theorem vec_Role (says : Vec) (root port : Int) (l : List Offer) : FnF Try.prog 13 [says.v, .int .i64 root, .int .i64 port, offers l] (.int .i64 (roleOf says root port l)) := by
  refine fnF_of Try.func13 rfl rfl rfl ?_
  simp only [envOf, offers]
  refine DW_len 3 rfl (fun hlen => ?_)
  have hml : (l.map Offer.cells).length = l.length := by simp
  repeat' (first
    | refine DW_seq ?_
    | refine DW_region ?_
    | refine DW_draw ?_
    | refine dnilP ?_
    | refine dnilD (by kernel_rfl) ?_
    | refine then_normal ?_
    | refine then_exit ?_
    | refine then_ret ?_
    | refine DW_block ?_
    | refine blk_normal ?_
    | refine blk_ret ?_
    | refine blk_hit rfl ?_
    | refine blk_miss rfl ?_
    | refine loop_exit ?_
    | refine loop_ret ?_
    | refine DW_ret ?_
    | refine DW_exit ?_
    | refine DW_skip ?_
    | refine DW_cond_t rfl ?_
    | refine DW_cond_f rfl ?_
    | refine DW_cond rfl (fun hb => ?_) (fun hb => ?_)
    | (apply dpC rfl; case h => first | (apply Pu.ok; repeat' (first | rfl | exact .inK (by simp only [InK]; omega) | exact .inK (by simp only [InK]; simp at hg; omega) | exact .wr | constructor | decide | omega)))
    | refine dpOff rfl rfl ?_
    | ((first | apply dp rfl | apply dpOn rfl rfl | apply dpMay rfl rfl (by first | exact fun _ => trivial | exact fun h => ⟨h, trivial⟩ | exact fun h => ⟨h, h, trivial⟩ | exact fun h => ⟨h, h, h, trivial⟩)); case h => ((try intro hg); first | (apply Pu.ok; repeat' (first | rfl | exact .inK (by simp only [InK]; omega) | exact .inK (by simp only [InK]; simp at hg; omega) | exact .wr | constructor | decide | omega))))
    | refine dpickAnd rfl rfl rfl rfl rfl ?_ | refine dpickOr rfl rfl rfl rfl rfl ?_
    | (apply dt rfl; case h => first | exact S_alloc _ rfl | exact S_box _ rfl rfl)
    | (apply ds; case h => first | exact S_store rfl rfl rfl rfl rfl rfl)
    | (apply dm rfl; case h => first | exact M_d rfl | exact S_alloc 2001 rfl | exact S_alloc 2002 rfl | exact S_alloc 2003 rfl | exact S_alloc 2004 rfl | exact S_alloc 2005 rfl)
    | fail)
  · simp at hb
    refine ret1 rfl (.inl rfl) ?_
    rw [roleOf, if_pos hb]
  simp at hb
  refine DW_loop (fun k : Nat => ⟨[(2, .dat false (.int .i64 port)), (4, .ptr 4 0), (16, .dat false (.slice (l.map Offer.cells))), (17, .dat true (.int .i64 (l.map Offer.cells).length)), (18, .dat true (.int .i64 k))],
      [(4, .cells false true [.dat false (.int .u64 says.root), .dat false (.int .i64 says.cost), .dat false (.int .u64 says.bridge), .dat false (.int .i64 port)])], 44⟩)
    (fun k => k ≤ l.length ∧ l.any (Offer.blocks { says with port := port } port) = (l.drop k).any (Offer.blocks { says with port := port } port)) (fun k => l.length - k) 0 ⟨Nat.zero_le _, rfl⟩
    (Wk_gen some rfl rfl (by (repeat' (first | exact trivial | rfl | exact listLe_map _ | exact ⟨_, rfl, .inl rfl⟩ | exact ⟨_, rfl, .inr (.inl rfl)⟩ | exact ⟨_, rfl, .inr (.inr rfl)⟩ | refine ⟨_, _, rfl, rfl, ?_⟩ | exact ⟨_, rfl, rfl⟩ | exact ⟨_, _, _, _, rfl, rfl, rfl⟩ | exact ⟨_, rfl⟩ | exact ⟨_, _, rfl⟩ | apply And.intro))) (by (repeat' (first | exact trivial | rfl | exact listLe_map _ | exact ⟨_, rfl, .inl rfl⟩ | exact ⟨_, rfl, .inr (.inl rfl)⟩ | exact ⟨_, rfl, .inr (.inr rfl)⟩ | refine ⟨_, _, rfl, rfl, ?_⟩ | exact ⟨_, rfl, rfl⟩ | exact ⟨_, _, _, _, rfl, rfl, rfl⟩ | exact ⟨_, rfl⟩ | exact ⟨_, _, rfl⟩ | apply And.intro)))) (fun k hR => ?_)
  obtain ⟨hk, hany⟩ := hR
  by_cases hlt : k < l.length
  · have hx : (l.map Offer.cells)[k]? = some (l[k]).cells := by simp [hlt]
    rw [List.drop_eq_getElem_cons hlt, List.any_cons] at hany
    generalize l[k] = o at hx hany
    repeat' (first
    | refine DW_seq ?_
    | refine DW_region ?_
    | refine DW_draw ?_
    | refine dnilP ?_
    | refine dnilD (by kernel_rfl) ?_
    | refine then_normal ?_
    | refine then_exit ?_
    | refine then_ret ?_
    | refine DW_block ?_
    | refine blk_normal ?_
    | refine blk_ret ?_
    | refine blk_hit rfl ?_
    | refine blk_miss rfl ?_
    | refine loop_exit ?_
    | refine loop_ret ?_
    | refine DW_ret ?_
    | refine DW_exit ?_
    | refine DW_skip ?_
    | refine DW_cond_t rfl ?_
    | refine DW_cond_f rfl ?_
    | refine DW_cond rfl (fun hc => ?_) (fun hc => ?_)
    | (apply dpC rfl; case h => first | exact S_call (vec_Compare o.vec ⟨says.root, says.cost, says.bridge, port⟩) rfl | (apply Pu.ok; repeat' (first | rfl | exact .inK (by simp only [InK]; omega) | exact .inK (by simp only [InK]; simp at hg; omega) | exact .wr | constructor | decide | omega)))
    | refine dpOff rfl rfl ?_
    | ((first | apply dp rfl | apply dpOn rfl rfl | apply dpMay rfl rfl (by first | exact fun _ => trivial | exact fun h => ⟨h, trivial⟩ | exact fun h => ⟨h, h, trivial⟩ | exact fun h => ⟨h, h, h, trivial⟩)); case h => ((try intro hg); first | exact S_ix_slice rfl rfl (by omega) hx rfl | exact S_call (vec_Compare o.vec ⟨says.root, says.cost, says.bridge, port⟩) rfl | (apply Pu.ok; repeat' (first | rfl | exact .inK (by simp only [InK]; omega) | exact .inK (by simp only [InK]; simp at hg; omega) | exact .wr | constructor | decide | omega))))
    | refine dpickAnd rfl rfl rfl rfl rfl ?_ | refine dpickOr rfl rfl rfl rfl rfl ?_
    | (apply dt rfl; case h => first | exact S_alloc _ rfl | exact S_box _ rfl rfl)
    | (apply ds; case h => first | exact S_store rfl rfl rfl rfl rfl rfl)
    | (apply dm rfl; case h => first | exact M_d rfl | exact S_alloc 2001 rfl | exact S_alloc 2002 rfl | exact S_alloc 2003 rfl | exact S_alloc 2004 rfl | exact S_alloc 2005 rfl)
    | fail)
    · refine ret1 rfl (.inl rfl) ?_
      have e : Offer.blocks { says with port := port } port o = true := hc
      rw [roleOf, if_neg hb, hany, e]; rfl
    · have e : Offer.blocks { says with port := port } port o = false := hc
      refine loop_again (k + 1) ⟨hlt, by rw [hany, e]; rfl⟩ (by omega) (Wk_gen some rfl rfl (by (repeat' (first | exact trivial | rfl | exact listLe_map _ | exact ⟨_, rfl, .inl rfl⟩ | exact ⟨_, rfl, .inr (.inl rfl)⟩ | exact ⟨_, rfl, .inr (.inr rfl)⟩ | refine ⟨_, _, rfl, rfl, ?_⟩ | exact ⟨_, rfl, rfl⟩ | exact ⟨_, _, _, _, rfl, rfl, rfl⟩ | exact ⟨_, rfl⟩ | exact ⟨_, _, rfl⟩ | apply And.intro))) (by (repeat' (first | exact trivial | rfl | exact listLe_map _ | exact ⟨_, rfl, .inl rfl⟩ | exact ⟨_, rfl, .inr (.inl rfl)⟩ | exact ⟨_, rfl, .inr (.inr rfl)⟩ | refine ⟨_, _, rfl, rfl, ?_⟩ | exact ⟨_, rfl, rfl⟩ | exact ⟨_, _, _, _, rfl, rfl, rfl⟩ | exact ⟨_, rfl⟩ | exact ⟨_, _, rfl⟩ | apply And.intro))))
    · simp at hc; omega
  · repeat' (first
    | refine DW_seq ?_
    | refine DW_region ?_
    | refine DW_draw ?_
    | refine dnilP ?_
    | refine dnilD (by kernel_rfl) ?_
    | refine then_normal ?_
    | refine then_exit ?_
    | refine then_ret ?_
    | refine DW_block ?_
    | refine blk_normal ?_
    | refine blk_ret ?_
    | refine blk_hit rfl ?_
    | refine blk_miss rfl ?_
    | refine loop_exit ?_
    | refine loop_ret ?_
    | refine DW_ret ?_
    | refine DW_exit ?_
    | refine DW_skip ?_
    | refine DW_cond_t rfl ?_
    | refine DW_cond_f rfl ?_
    | refine DW_cond rfl (fun hc => ?_) (fun hc => ?_)
    | (apply dpC rfl; case h => first | (apply Pu.ok; repeat' (first | rfl | exact .inK (by simp only [InK]; omega) | exact .inK (by simp only [InK]; simp at hg; omega) | exact .wr | constructor | decide | omega)))
    | refine dpOff rfl rfl ?_
    | ((first | apply dp rfl | apply dpOn rfl rfl | apply dpMay rfl rfl (by first | exact fun _ => trivial | exact fun h => ⟨h, trivial⟩ | exact fun h => ⟨h, h, trivial⟩ | exact fun h => ⟨h, h, h, trivial⟩)); case h => ((try intro hg); first | (apply Pu.ok; repeat' (first | rfl | exact .inK (by simp only [InK]; omega) | exact .inK (by simp only [InK]; simp at hg; omega) | exact .wr | constructor | decide | omega))))
    | refine dpickAnd rfl rfl rfl rfl rfl ?_ | refine dpickOr rfl rfl rfl rfl rfl ?_
    | (apply dt rfl; case h => first | exact S_alloc _ rfl | exact S_box _ rfl rfl)
    | (apply ds; case h => first | exact S_store rfl rfl rfl rfl rfl rfl)
    | (apply dm rfl; case h => first | exact M_d rfl | exact S_alloc 2001 rfl | exact S_alloc 2002 rfl | exact S_alloc 2003 rfl | exact S_alloc 2004 rfl | exact S_alloc 2005 rfl)
    | fail)
    · simp at hc; omega
    · refine ret1 rfl (.inl rfl) ?_
      rw [roleOf, if_neg hb, hany, List.drop_eq_nil_of_le (by omega)]; rfl
end Go.Proofs.Ytcdeielnkmjfhaa
