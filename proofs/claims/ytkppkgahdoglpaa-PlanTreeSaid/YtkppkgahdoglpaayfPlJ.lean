/- Law: PlanTree. -/
import Derived.Test.YtkppkgahdoglpaaycPlJ
namespace Go.Proofs.Ytkppkgahdoglpaa
open Go.RowKit
def pairV (p : Int × Int) : List V := [.int .i64 p.1, .int .i64 p.2]
instance : CellsI pairV 2 := ⟨fun _ => rfl, fun t d h => by
  simp only [pairV, List.mem_cons, List.mem_nil_iff, or_false] at h
  rcases h with rfl | rfl <;> rfl⟩
instance : FlatI pairV := ⟨fun t d h => by
  simp only [pairV, List.mem_cons, List.mem_nil_iff, or_false] at h
  rcases h with rfl | rfl <;> exact .int _ _⟩
theorem mix_same {α : Type} {xs ys : List α} {k : Nat} {a : α} (h : xs.length = ys.length) (h1 : xs[k]? = some a) (h2 : ys[k]? = some a) : mix xs ys (k + 1) = mix xs ys k := by
  rw [← mix_set h h1]
  have := mix_get (xs := xs) (ys := ys) (k := k) h
  rw [h2] at this
  obtain ⟨hl, rfl⟩ := List.getElem?_eq_some_iff.1 this
  exact List.set_getElem_self hl
theorem joinF_take {nb : Nat} {ps : List (Int × Int)} {k : Nat} {p : Int × Int} (h : ps[k]? = some p) : joinF nb (ps.take (k + 1)) = joinStep (joinF nb (ps.take k)) p := by
  rw [List.take_add_one, h]; exact joinF_snoc _ _ _
attribute [local irreducible] SStep DW DWin DOps thenQ inBlk loopQ retQ retQG FnF FnG FnI Wk IntKind.wrap IntKind.andI IntKind.orI IntKind.xorI IntKind.andNotI IntKind.shlI IntKind.shrI Net.wrong Bridge.id Bridge.prio identR idsR liveB planA planF liveL sF pF portsOf roleF idN Place.role joinF labN mix join0 fwdL
set_option maxHeartbeats 4000000 in
theorem law6_joined (nb : Nat) (hnb : nb ≤ 1000) (ps : List (Int × Int)) (hpl : ps.length ≤ 1000) (hps : ∀ p ∈ ps, (0 ≤ p.1 ∧ p.1 < nb) ∧ (0 ≤ p.2 ∧ p.2 < nb)) :
    FnF Try.prog 23 [.int .i64 nb, .slice (ps.map pairV)] (.tuple [.slice ((joinF nb ps).1.map intV1), .bool (joinF nb ps).2]) := by
  refine fnF_of Try.func23 rfl rfl rfl ?_
  simp only [envOf]
  have hml : (ps.map pairV).length = ps.length := by simp
  have hj0 : (join0 nb).length = (List.replicate nb (0 : Int)).length := by with_unfolding_all (unfold join0; simp)
  repeat' (first
    | (apply Stp.go; case a => constructor)
    | refine blk_hit rfl ?_ | refine blk_miss rfl ?_ | refine dnilD (by kernel_rfl) ?_ | refine DW_cond_t rfl ?_ | refine DW_cond_f rfl ?_
    | refine DW_tD rfl (by omega) ?_ | refine DW_fD rfl (by omega) ?_
    | refine dpOff rfl rfl ?_
    | (apply dt rfl; case h => first | exact S_mkM (f := intV1) (l := nb) (c := nb) (0 : Int) _ rfl rfl rfl rfl (Nat.le_refl _) (by omega) rfl rfl)
    | ((first | apply dX rfl | apply dXon rfl rfl | apply dpMay rfl rfl (by intro h; first | trivial | exact ⟨h, trivial⟩ | exact ⟨h, h, trivial⟩ | exact ⟨h, h, h, trivial⟩)); (case h => ((try intro hg); first | exact S_mkM (f := intV1) (l := nb) (c := nb) (0 : Int) _ rfl rfl rfl rfl (Nat.le_refl _) (by omega) rfl rfl | exact S_al rfl | exact S_bx rfl rfl | exact S_store rfl rfl rfl rfl rfl rfl | (apply Pu.ok; repeat' (first | rfl | exact .inK (by simp only [InK]; omega) | exact .inK (by simp only [InK]; simp at hg; omega) | exact .wr | constructor | decide | omega)))); (try case hp => constructor))
    | refine dpickAnd rfl rfl rfl rfl rfl ?_ | refine dpickOr rfl rfl rfl rfl rfl ?_
    | fail)
  refine DW_loop (fun k : Nat => ⟨[(1, .dat false (.slice (ps.map pairV))), (6, .own 15 0 0 nb), (17, .dat true (.int .i64 nb)), (18, .dat true (.int .i64 k))],
      [(15, .row 0 false true 1 ((mix (join0 nb) (List.replicate nb (0 : Int)) k).map intV1))], 77⟩)
    (fun k => k ≤ nb) (fun k => nb - k) 0 (Nat.zero_le _) (by rw [mix_zero]; exact Wk_g some rfl rfl (by (repeat' (first | exact trivial | rfl | exact listLe_map _ | exact ⟨_, rfl, .inl rfl⟩ | exact ⟨_, rfl, .inr (.inl rfl)⟩ | exact ⟨_, rfl, .inr (.inr rfl)⟩ | refine ⟨_, _, rfl, rfl, ?_⟩ | exact ⟨_, rfl, rfl⟩ | exact ⟨_, _, _, _, rfl, rfl, rfl⟩ | exact ⟨_, rfl⟩ | exact ⟨_, _, rfl⟩ | apply And.intro)))) (fun k hk => ?_)
  by_cases hlt : k < nb
  · have hs0 : (join0 nb)[k]? = some (k : Int) := by with_unfolding_all (unfold join0; simp [hlt])
    have hset := mix_set hj0 hs0
    have hu : (mix (join0 nb) (List.replicate nb (0 : Int)) k)[(k : Int).toNat]? = some 0 := by rw [Int.toNat_natCast, mix_get hj0]; simp [hlt]
    repeat' (first
    | (apply Stp.go; case a => constructor)
    | refine blk_hit rfl ?_ | refine blk_miss rfl ?_ | refine dnilD (by kernel_rfl) ?_ | refine DW_cond_t rfl ?_ | refine DW_cond_f rfl ?_
    | refine DW_tD rfl (by omega) ?_ | refine DW_fD rfl (by omega) ?_
    | refine dpOff rfl rfl ?_
    | ((first | apply dX rfl | apply dXon rfl rfl | apply dpMay rfl rfl (by intro h; first | trivial | exact ⟨h, trivial⟩ | exact ⟨h, h, trivial⟩ | exact ⟨h, h, h, trivial⟩)); (case h => ((try intro hg); first | exact S_ixO rfl rfl rfl (by omega) (by omega) | exact S_storeM (f := intV1) (a := (k : Int)) rfl rfl hu rfl rfl (.inr ⟨rfl, inferInstance⟩) rfl rfl | exact S_al rfl | exact S_bx rfl rfl | exact S_store rfl rfl rfl rfl rfl rfl | (apply Pu.ok; repeat' (first | rfl | exact .inK (by simp only [InK]; omega) | exact .inK (by simp only [InK]; simp at hg; omega) | exact .wr | constructor | decide | omega)))); (try case hp => constructor))
    | refine dpickAnd rfl rfl rfl rfl rfl ?_ | refine dpickOr rfl rfl rfl rfl rfl ?_
    | fail)
    refine loop_again (k + 1) hlt (by omega) ?_
    rw [← hset]
    exact (Wk_g some rfl rfl (by (repeat' (first | exact trivial | rfl | exact listLe_map _ | exact ⟨_, rfl, .inl rfl⟩ | exact ⟨_, rfl, .inr (.inl rfl)⟩ | exact ⟨_, rfl, .inr (.inr rfl)⟩ | refine ⟨_, _, rfl, rfl, ?_⟩ | exact ⟨_, rfl, rfl⟩ | exact ⟨_, _, _, _, rfl, rfl, rfl⟩ | exact ⟨_, rfl⟩ | exact ⟨_, _, rfl⟩ | apply And.intro))))
  · rw [mix_all hj0 (by simp; omega)]
    repeat' (first
    | (apply Stp.go; case a => constructor)
    | refine blk_hit rfl ?_ | refine blk_miss rfl ?_ | refine dnilD (by kernel_rfl) ?_ | refine DW_cond_t rfl ?_ | refine DW_cond_f rfl ?_
    | refine DW_tD rfl (by omega) ?_ | refine DW_fD rfl (by omega) ?_
    | refine dpOff rfl rfl ?_
    | ((first | apply dX rfl | apply dXon rfl rfl | apply dpMay rfl rfl (by intro h; first | trivial | exact ⟨h, trivial⟩ | exact ⟨h, h, trivial⟩ | exact ⟨h, h, h, trivial⟩)); (case h => ((try intro hg); first | exact S_al rfl | exact S_bx rfl rfl | exact S_store rfl rfl rfl rfl rfl rfl | (apply Pu.ok; repeat' (first | rfl | exact .inK (by simp only [InK]; omega) | exact .inK (by simp only [InK]; simp at hg; omega) | exact .wr | constructor | decide | omega)))); (try case hp => constructor))
    | refine dpickAnd rfl rfl rfl rfl rfl ?_ | refine dpickOr rfl rfl rfl rfl rfl ?_
    | fail)
    refine DW_loop (fun k : Nat => ⟨[(6, .own 15 0 0 nb), (8, .dat true (.bool (joinF nb (ps.take k)).2)), (26, .dat false (.slice (ps.map pairV))), (27, .dat true (.int .i64 (ps.map pairV).length)), (28, .dat true (.int .i64 k))],
        [(15, .row 0 false true 1 ((joinF nb (ps.take k)).1.map intV1))], 77⟩)
      (fun k => k ≤ ps.length) (fun k => ps.length - k) 0 (Nat.zero_le _) (by
        have e1 : (joinF nb (ps.take 0)).1 = join0 nb := by with_unfolding_all rfl
        have e2 : (joinF nb (ps.take 0)).2 = false := by with_unfolding_all rfl
        rw [e1, e2]; exact Wk_g some rfl rfl (by (repeat' (first | exact trivial | rfl | exact listLe_map _ | exact ⟨_, rfl, .inl rfl⟩ | exact ⟨_, rfl, .inr (.inl rfl)⟩ | exact ⟨_, rfl, .inr (.inr rfl)⟩ | refine ⟨_, _, rfl, rfl, ?_⟩ | exact ⟨_, rfl, rfl⟩ | exact ⟨_, _, _, _, rfl, rfl, rfl⟩ | exact ⟨_, rfl⟩ | exact ⟨_, _, rfl⟩ | apply And.intro)))) (fun k2 hk2 => ?_)
    have hbt : ∀ p ∈ ps.take k2, p.1.toNat < nb ∧ p.2.toNat < nb := fun p hp => by
      have := hps p (List.mem_of_mem_take hp); omega
    have hJ := joinF_inv hbt
    by_cases hlt2 : k2 < ps.length
    · have hx : ps[(k2 : Int).toNat]? = some ps[k2] := by simp [hlt2]
      have hx' : ps[k2]? = some ps[k2] := by simp [hlt2]
      have hpb := hps ps[k2] (List.getElem_mem hlt2)
      generalize ps[k2] = p at hx hx' hpb
      have hnx := joinF_take (nb := nb) hx'
      have hgl := hJ.len
      generalize joinF nb (ps.take k2) = s at hnx hgl hJ
      obtain ⟨g, r⟩ := s
      simp only at hgl hJ
      dsimp only
      have hp1 : p.1.toNat < g.length := by omega
      have hp2 : p.2.toNat < g.length := by omega
      have ea : g[p.1.toNat]? = some g[p.1.toNat] := List.getElem?_eq_getElem hp1
      have eb : g[p.2.toNat]? = some g[p.2.toNat] := List.getElem?_eq_getElem hp2
      generalize g[p.1.toNat] = a at ea
      generalize g[p.2.toNat] = b at eb
      unfold joinStep at hnx
      simp only [ea, eb, Option.getD_some] at hnx
      have ea' : (g.map intV1)[p.1.toNat]? = some (intV1 a) := by rw [List.getElem?_map, ea]; rfl
      have eb' : (g.map intV1)[p.2.toNat]? = some (intV1 b) := by rw [List.getElem?_map, eb]; rfl
      have q1 := hpb.1.1
      have q2 := hpb.2.1
      repeat' (first
    | (apply Stp.go; case a => constructor)
    | refine blk_hit rfl ?_ | refine blk_miss rfl ?_ | refine dnilD (by kernel_rfl) ?_ | refine DW_cond_t rfl ?_ | refine DW_cond_f rfl ?_
    | refine DW_tD rfl (by omega) ?_ | refine DW_fD rfl (by omega) ?_
    | refine dpOff rfl rfl ?_
    | ((first | apply dX rfl | apply dXon rfl rfl | apply dpMay rfl rfl (by intro h; first | trivial | exact ⟨h, trivial⟩ | exact ⟨h, h, trivial⟩ | exact ⟨h, h, h, trivial⟩)); (case h => ((try intro hg); first | exact S_ixM rfl rfl (by omega) hx | exact S_ixO rfl rfl rfl q1 (by omega) | exact S_ixO rfl rfl rfl q2 (by omega) | exact S_load_rptr rfl rfl ea' rfl | exact S_load_rptr rfl rfl eb' rfl | exact S_al rfl | exact S_bx rfl rfl | exact S_store rfl rfl rfl rfl rfl rfl | (apply Pu.ok; repeat' (first | rfl | exact .inK (by simp only [InK]; omega) | exact .inK (by simp only [InK]; simp at hg; omega) | exact .wr | constructor | decide | omega)))); (try case hp => constructor))
    | refine dpickAnd rfl rfl rfl rfl rfl ?_ | refine dpickOr rfl rfl rfl rfl rfl ?_
    | fail)
      have hll : (labN g a b).length = g.length := labN_len _ _ _
      refine DW_loop (fun i : Nat => ⟨[(6, .own 15 0 0 nb), (8, .dat true (.bool (r || decide (a = b)))), (11, .dat true (.int .i64 a)), (12, .dat true (.int .i64 b)), (26, .dat false (.slice (ps.map pairV))), (27, .dat true (.int .i64 (ps.map pairV).length)), (28, .dat true (.int .i64 k2)), (49, .dat true (.int .i64 nb)), (50, .dat true (.int .i64 i))],
          [(15, .row 0 false true 1 ((mix (labN g a b) g i).map intV1))], 77⟩)
        (fun i => i ≤ nb) (fun i => nb - i) 0 (Nat.zero_le _) (by rw [mix_zero]; exact Wk_g some rfl rfl (by (repeat' (first | exact trivial | rfl | exact listLe_map _ | exact ⟨_, rfl, .inl rfl⟩ | exact ⟨_, rfl, .inr (.inl rfl)⟩ | exact ⟨_, rfl, .inr (.inr rfl)⟩ | refine ⟨_, _, rfl, rfl, ?_⟩ | exact ⟨_, rfl, rfl⟩ | exact ⟨_, _, _, _, rfl, rfl, rfl⟩ | exact ⟨_, rfl⟩ | exact ⟨_, _, rfl⟩ | apply And.intro)))) (fun i hi => ?_)
      by_cases hli : i < nb
      · have hgi : g[i]? = some (g[i]'(by omega)) := List.getElem?_eq_getElem (by omega)
        generalize g[i]'(by omega) = v at hgi
        have hmg : (mix (labN g a b) g i)[(i : Int).toNat]? = some v := by rw [Int.toNat_natCast, mix_get hll]; exact hgi
        have hmg' : ((mix (labN g a b) g i).map intV1)[(i : Int).toNat]? = some (intV1 v) := by rw [List.getElem?_map, hmg]; rfl
        have hlab : (labN g a b)[i]? = some (if v = a ∨ v = b then min a b else v) := by with_unfolding_all (unfold labN; rw [List.getElem?_map, hgi]; rfl)
        by_cases hv : v = a ∨ v = b
        · rw [if_pos hv] at hlab
          have hset := mix_set hll hlab
          by_cases hva : v = a
          · repeat' (first
    | (apply Stp.go; case a => constructor)
    | refine blk_hit rfl ?_ | refine blk_miss rfl ?_ | refine dnilD (by kernel_rfl) ?_ | refine DW_cond_t rfl ?_ | refine DW_cond_f rfl ?_
    | refine DW_tD rfl (by omega) ?_ | refine DW_fD rfl (by omega) ?_
    | refine dpOff rfl rfl ?_
    | ((first | apply dX rfl | apply dXon rfl rfl | apply dpMay rfl rfl (by intro h; first | trivial | exact ⟨h, trivial⟩ | exact ⟨h, h, trivial⟩ | exact ⟨h, h, h, trivial⟩)); (case h => ((try intro hg); first | exact S_ixO rfl rfl rfl (by omega) (by omega) | exact S_load_rptr rfl rfl hmg' rfl | exact S_storeM (f := intV1) (a := min a b) rfl rfl hmg rfl rfl (.inr ⟨rfl, inferInstance⟩) rfl rfl | exact S_cT rfl rfl (by constructor) (by omega) | exact S_cF rfl rfl (by constructor) (by omega) | exact S_al rfl | exact S_bx rfl rfl | exact S_store rfl rfl rfl rfl rfl rfl | (apply Pu.ok; repeat' (first | rfl | exact .inK (by simp only [InK]; omega) | exact .inK (by simp only [InK]; simp at hg; omega) | exact .wr | constructor | decide | omega)))); (try case hp => constructor))
    | refine dpickAnd rfl rfl rfl rfl rfl ?_ | refine dpickOr rfl rfl rfl rfl rfl ?_
    | fail)
            refine loop_again (i + 1) hli (by omega) ?_
            rw [← hset]
            exact (Wk_g some rfl rfl (by (repeat' (first | exact trivial | rfl | exact listLe_map _ | exact ⟨_, rfl, .inl rfl⟩ | exact ⟨_, rfl, .inr (.inl rfl)⟩ | exact ⟨_, rfl, .inr (.inr rfl)⟩ | refine ⟨_, _, rfl, rfl, ?_⟩ | exact ⟨_, rfl, rfl⟩ | exact ⟨_, _, _, _, rfl, rfl, rfl⟩ | exact ⟨_, rfl⟩ | exact ⟨_, _, rfl⟩ | apply And.intro))))
          · have hvb : v = b := by omega
            repeat' (first
    | (apply Stp.go; case a => constructor)
    | refine blk_hit rfl ?_ | refine blk_miss rfl ?_ | refine dnilD (by kernel_rfl) ?_ | refine DW_cond_t rfl ?_ | refine DW_cond_f rfl ?_
    | refine DW_tD rfl (by omega) ?_ | refine DW_fD rfl (by omega) ?_
    | refine dpOff rfl rfl ?_
    | ((first | apply dX rfl | apply dXon rfl rfl | apply dpMay rfl rfl (by intro h; first | trivial | exact ⟨h, trivial⟩ | exact ⟨h, h, trivial⟩ | exact ⟨h, h, h, trivial⟩)); (case h => ((try intro hg); first | exact S_ixO rfl rfl rfl (by omega) (by omega) | exact S_load_rptr rfl rfl hmg' rfl | exact S_storeM (f := intV1) (a := min a b) rfl rfl hmg rfl rfl (.inr ⟨rfl, inferInstance⟩) rfl rfl | exact S_cT rfl rfl (by constructor) (by omega) | exact S_cF rfl rfl (by constructor) (by omega) | exact S_al rfl | exact S_bx rfl rfl | exact S_store rfl rfl rfl rfl rfl rfl | (apply Pu.ok; repeat' (first | rfl | exact .inK (by simp only [InK]; omega) | exact .inK (by simp only [InK]; simp at hg; omega) | exact .wr | constructor | decide | omega)))); (try case hp => constructor))
    | refine dpickAnd rfl rfl rfl rfl rfl ?_ | refine dpickOr rfl rfl rfl rfl rfl ?_
    | fail)
            refine loop_again (i + 1) hli (by omega) ?_
            rw [← hset]
            exact (Wk_g some rfl rfl (by (repeat' (first | exact trivial | rfl | exact listLe_map _ | exact ⟨_, rfl, .inl rfl⟩ | exact ⟨_, rfl, .inr (.inl rfl)⟩ | exact ⟨_, rfl, .inr (.inr rfl)⟩ | refine ⟨_, _, rfl, rfl, ?_⟩ | exact ⟨_, rfl, rfl⟩ | exact ⟨_, _, _, _, rfl, rfl, rfl⟩ | exact ⟨_, rfl⟩ | exact ⟨_, _, rfl⟩ | apply And.intro))))
        · rw [if_neg hv] at hlab
          have hset := mix_same hll hlab hgi
          repeat' (first
    | (apply Stp.go; case a => constructor)
    | refine blk_hit rfl ?_ | refine blk_miss rfl ?_ | refine dnilD (by kernel_rfl) ?_ | refine DW_cond_t rfl ?_ | refine DW_cond_f rfl ?_
    | refine DW_tD rfl (by omega) ?_ | refine DW_fD rfl (by omega) ?_
    | refine dpOff rfl rfl ?_
    | ((first | apply dX rfl | apply dXon rfl rfl | apply dpMay rfl rfl (by intro h; first | trivial | exact ⟨h, trivial⟩ | exact ⟨h, h, trivial⟩ | exact ⟨h, h, h, trivial⟩)); (case h => ((try intro hg); first | exact S_ixO rfl rfl rfl (by omega) (by omega) | exact S_load_rptr rfl rfl hmg' rfl | exact S_cT rfl rfl (by constructor) (by omega) | exact S_cF rfl rfl (by constructor) (by omega) | exact S_al rfl | exact S_bx rfl rfl | exact S_store rfl rfl rfl rfl rfl rfl | (apply Pu.ok; repeat' (first | rfl | exact .inK (by simp only [InK]; omega) | exact .inK (by simp only [InK]; simp at hg; omega) | exact .wr | constructor | decide | omega)))); (try case hp => constructor))
    | refine dpickAnd rfl rfl rfl rfl rfl ?_ | refine dpickOr rfl rfl rfl rfl rfl ?_
    | fail)
          refine loop_again (i + 1) hli (by omega) ?_
          rw [hset]
          exact (Wk_g some rfl rfl (by (repeat' (first | exact trivial | rfl | exact listLe_map _ | exact ⟨_, rfl, .inl rfl⟩ | exact ⟨_, rfl, .inr (.inl rfl)⟩ | exact ⟨_, rfl, .inr (.inr rfl)⟩ | refine ⟨_, _, rfl, rfl, ?_⟩ | exact ⟨_, rfl, rfl⟩ | exact ⟨_, _, _, _, rfl, rfl, rfl⟩ | exact ⟨_, rfl⟩ | exact ⟨_, _, rfl⟩ | apply And.intro))))
      · rw [mix_all hll (by omega)]
        repeat' (first
    | (apply Stp.go; case a => constructor)
    | refine blk_hit rfl ?_ | refine blk_miss rfl ?_ | refine dnilD (by kernel_rfl) ?_ | refine DW_cond_t rfl ?_ | refine DW_cond_f rfl ?_
    | refine DW_tD rfl (by omega) ?_ | refine DW_fD rfl (by omega) ?_
    | refine dpOff rfl rfl ?_
    | ((first | apply dX rfl | apply dXon rfl rfl | apply dpMay rfl rfl (by intro h; first | trivial | exact ⟨h, trivial⟩ | exact ⟨h, h, trivial⟩ | exact ⟨h, h, h, trivial⟩)); (case h => ((try intro hg); first | exact S_al rfl | exact S_bx rfl rfl | exact S_store rfl rfl rfl rfl rfl rfl | (apply Pu.ok; repeat' (first | rfl | exact .inK (by simp only [InK]; omega) | exact .inK (by simp only [InK]; simp at hg; omega) | exact .wr | constructor | decide | omega)))); (try case hp => constructor))
    | refine dpickAnd rfl rfl rfl rfl rfl ?_ | refine dpickOr rfl rfl rfl rfl rfl ?_
    | fail)
        refine loop_again (k2 + 1) hlt2 (by omega) ?_
        rw [hnx]
        exact (Wk_g some rfl rfl (by (repeat' (first | exact trivial | rfl | exact listLe_map _ | exact ⟨_, rfl, .inl rfl⟩ | exact ⟨_, rfl, .inr (.inl rfl)⟩ | exact ⟨_, rfl, .inr (.inr rfl)⟩ | refine ⟨_, _, rfl, rfl, ?_⟩ | exact ⟨_, rfl, rfl⟩ | exact ⟨_, _, _, _, rfl, rfl, rfl⟩ | exact ⟨_, rfl⟩ | exact ⟨_, _, rfl⟩ | apply And.intro))))
    · have hgl := hJ.len
      rw [List.take_of_length_le (by omega)] at hgl ⊢
      refine DW_seal 6 rfl rfl (by rw [List.length_map, hgl]) ?_
      repeat' (first
    | (apply Stp.go; case a => constructor)
    | refine blk_hit rfl ?_ | refine blk_miss rfl ?_ | refine dnilD (by kernel_rfl) ?_ | refine DW_cond_t rfl ?_ | refine DW_cond_f rfl ?_
    | refine DW_tD rfl (by omega) ?_ | refine DW_fD rfl (by omega) ?_
    | refine dpOff rfl rfl ?_
    | ((first | apply dX rfl | apply dXon rfl rfl | apply dpMay rfl rfl (by intro h; first | trivial | exact ⟨h, trivial⟩ | exact ⟨h, h, trivial⟩ | exact ⟨h, h, h, trivial⟩)); (case h => ((try intro hg); first | exact S_al rfl | exact S_bx rfl rfl | exact S_store rfl rfl rfl rfl rfl rfl | (apply Pu.ok; repeat' (first | rfl | exact .inK (by simp only [InK]; omega) | exact .inK (by simp only [InK]; simp at hg; omega) | exact .wr | constructor | decide | omega)))); (try case hp => constructor))
    | refine dpickAnd rfl rfl rfl rfl rfl ?_ | refine dpickOr rfl rfl rfl rfl rfl ?_
    | fail)
      refine ret2 rfl (.inl rfl) rfl (.inl rfl) ?_
      rfl
set_option maxHeartbeats 8000000 in
theorem law_PlanTree (n : Net) (ht : n.typed) (tree : Int) : FnF Try.prog 7 [n.v, .int .i64 tree] (.bool true) := by
  refine fnF_of Try.func7 rfl rfl rfl ?_
  simp only [envOf]
  have hp := plan_Plan n ht tree
  rcases planA_cases ht tree with ⟨e, i, he, hpa⟩ | ⟨h, hw, t0, t1, hpa⟩
  · rw [hpa] at hp
    have he' : decide (e ≠ 0) = true := decide_eq_true he
    repeat' (first
    | (apply Stp.go; case a => constructor)
    | refine blk_hit rfl ?_ | refine blk_miss rfl ?_ | refine dnilD (by kernel_rfl) ?_ | refine DW_cond_t rfl ?_ | refine DW_cond_f rfl ?_
    | refine dpOff rfl rfl ?_
    | ((first | apply dX rfl | apply dXon rfl rfl | apply dpMay rfl rfl (by intro h; first | trivial | exact ⟨h, trivial⟩ | exact ⟨h, h, trivial⟩ | exact ⟨h, h, h, trivial⟩)); (case h => ((try intro hg); first | exact S_call law6_alive rfl | exact S_call hp rfl | exact as_bool (S_neq rfl rfl) he' | exact S_al rfl | exact S_bx rfl rfl | exact S_store rfl rfl rfl rfl rfl rfl | (apply Pu.ok; repeat' (first | rfl | exact .inK (by simp only [InK]; omega) | exact .inK (by simp only [InK]; simp at hg; omega) | exact .wr | constructor | decide | omega)))); (try case hp => constructor))
    | refine dpickAnd rfl rfl rfl rfl rfl ?_ | refine dpickOr rfl rfl rfl rfl rfl ?_
    | fail)
    refine ret1 rfl (by first | exact .inl rfl | exact .inr (flat_of rfl)) ?_
    rfl
  rw [hpa] at hp
  have hli := ref6_Live n h
  have hmp : ((planF n tree).map Place.cells).length = n.bridges.length := by rw [List.length_map, plan_len]
  have hml : ((liveL n).map linkV).length = (liveL n).length := by simp
  have hll : (liveL n).length ≤ 40 := by with_unfolding_all exact Nat.le_trans (List.length_filter_le _ _) h.nl
  have hnb := h.nb
  repeat' (first
    | (apply Stp.go; case a => constructor)
    | refine blk_hit rfl ?_ | refine blk_miss rfl ?_ | refine dnilD (by kernel_rfl) ?_ | refine DW_cond_t rfl ?_ | refine DW_cond_f rfl ?_
    | refine DW_tD rfl (by omega) ?_ | refine DW_fD rfl (by omega) ?_
    | refine dpOff rfl rfl ?_
    | ((first | apply dX rfl | apply dXon rfl rfl | apply dpMay rfl rfl (by intro h; first | trivial | exact ⟨h, trivial⟩ | exact ⟨h, h, trivial⟩ | exact ⟨h, h, h, trivial⟩)); (case h => ((try intro hg); first | exact S_call law6_alive rfl | exact S_call hp rfl | exact S_call hli rfl | exact S_al rfl | exact S_bx rfl rfl | exact S_store rfl rfl rfl rfl rfl rfl | (apply Pu.ok; repeat' (first | rfl | exact .inK (by simp only [InK]; omega) | exact .inK (by simp only [InK]; simp at hg; omega) | exact .wr | constructor | decide | omega)))); (try case hp => constructor))
    | refine dpickAnd rfl rfl rfl rfl rfl ?_ | refine dpickOr rfl rfl rfl rfl rfl ?_
    | fail)
  refine DW_loop (fun q : Nat × (List (Int × Int) × List (Int × Int)) => ⟨[(5, .dat true (.slice ((planF n tree).map Place.cells))), (7, .own 7 0 0 q.2.1.length), (8, .own 8 0 0 q.2.2.length), (28, .dat true (.slice ((liveL n).map linkV))), (29, .dat true (.int .i64 ((liveL n).map linkV).length)), (30, .dat true (.int .i64 q.1))],
      [(7, .row 0 false true 2 (q.2.1.map pairV)), (8, .row 0 false true 2 (q.2.2.map pairV))], 102⟩)
    (fun q => q.1 ≤ (liveL n).length ∧ q.2.1 = ((liveL n).take q.1).map prL ∧ q.2.2 = (((liveL n).take q.1).filter (fwdL n tree)).map prL) (fun q => (liveL n).length - q.1) (0, ([], [])) ⟨Nat.zero_le _, rfl, rfl⟩
    (Wk_g (fun g => if g = 7 ∨ g = 8 then none else some g) rfl rfl (by (repeat' (first | exact trivial | rfl | exact listLe_map _ | exact ⟨_, rfl, .inl rfl⟩ | exact ⟨_, rfl, .inr (.inl rfl)⟩ | exact ⟨_, rfl, .inr (.inr rfl)⟩ | refine ⟨_, _, rfl, rfl, ?_⟩ | exact ⟨_, rfl, rfl⟩ | exact ⟨_, _, _, _, rfl, rfl, rfl⟩ | exact ⟨_, rfl⟩ | exact ⟨_, _, rfl⟩ | apply And.intro)))) (fun q hq => ?_)
  obtain ⟨k, us, ws⟩ := q
  obtain ⟨hk, hus, hws⟩ := hq
  simp only at hk hus hws
  dsimp only
  have hul : us.length ≤ 40 := by rw [hus, List.length_map, List.length_take]; omega
  have hwl : ws.length ≤ 40 := by rw [hws, List.length_map]; exact Nat.le_trans (List.length_filter_le _ _) (by rw [List.length_take]; omega)
  by_cases hlt : k < (liveL n).length
  · have hx : (liveL n)[(k : Int).toNat]? = some (liveL n)[k] := by simp [hlt]
    have hm : (liveL n)[k] ∈ liveL n := List.getElem_mem hlt
    have htk : (liveL n).take (k + 1) = (liveL n).take k ++ [(liveL n)[k]] := by rw [List.take_add_one, List.getElem?_eq_getElem hlt]; rfl
    generalize (liveL n)[k] = x at hx hm htk
    have hk' := h.lk x (live_sub hm)
    have a0 := hk'.a0
    have b0 := hk'.b0
    have a1 := hk'.a1
    have b1 := hk'.b1
    have hai : x.a.toNat < n.bridges.length := by omega
    have hbi : x.b.toNat < n.bridges.length := by omega
    obtain ⟨pa, ga, _, _, qa, ra⟩ := plan_at (tree := tree) hai
    obtain ⟨pb, gb, _, _, qb, rb⟩ := plan_at (tree := tree) hbi
    have hpm := port_mem h (live_sub hm)
    have ea : ((x.a.toNat : Nat) : Int) = x.a := by omega
    have eb : ((x.b.toNat : Nat) : Int) = x.b := by omega
    have va := role_of qa ra x.pa
    have vb := role_of qb rb x.pb
    rw [ea, if_pos hpm.1] at va
    rw [eb, if_pos hpm.2] at vb
    have ca := law6_role pa x.pa (by rw [qa, ra, List.length_map])
    have cb := law6_role pb x.pb (by rw [qb, rb, List.length_map])
    have hfw : fwdL n tree x = (fwdR (pa.role x.pa) && fwdR (pb.role x.pb)) := by rw [va, vb]; with_unfolding_all rfl
    generalize pa.role x.pa = u at ca hfw
    generalize pb.role x.pb = w at cb hfw
    have fa : FnF Try.prog 22 [.int .i64 u] (.bool (fwdR u)) := law6_forwards u
    have fb : FnF Try.prog 22 [.int .i64 w] (.bool (fwdR w)) := law6_forwards w
    have hus1 : us ++ [prL x] = ((liveL n).take (k + 1)).map prL := by rw [htk, hus, List.map_append]; rfl
    cases hfu : fwdR u with
    | false =>
      rw [hfu] at hfw fa
      have hws1 : ws = (((liveL n).take (k + 1)).filter (fwdL n tree)).map prL := by rw [htk, hws, List.filter_append]; simp [hfw]
      repeat' (first
    | (apply Stp.go; case a => constructor)
    | refine blk_hit rfl ?_ | refine blk_miss rfl ?_ | refine dnilD (by kernel_rfl) ?_ | refine DW_cond_t rfl ?_ | refine DW_cond_f rfl ?_
    | refine DW_tD rfl (by omega) ?_ | refine DW_fD rfl (by omega) ?_
    | refine dpOff rfl rfl ?_
    | ((first | apply dX rfl | apply dXon rfl rfl | apply dpMay rfl rfl (by intro h; first | trivial | exact ⟨h, trivial⟩ | exact ⟨h, h, trivial⟩ | exact ⟨h, h, h, trivial⟩)); (case h => ((try intro hg); first | exact S_ixM rfl rfl (by omega) hx | exact S_ixM (f := Place.cells) rfl rfl a0 ga | exact S_ixM (f := Place.cells) rfl rfl b0 gb | exact S_call ca rfl | exact S_call cb rfl | exact S_call fa rfl | exact S_call fb rfl | exact S_appM (f := pairV) (us := us) (bs := [prL x]) rfl rfl (.dat _ _) rfl rfl (.inr ⟨rfl, inferInstance⟩) rfl (by simp only [List.length_singleton]; omega) | exact S_al rfl | exact S_bx rfl rfl | exact S_store rfl rfl rfl rfl rfl rfl | (apply Pu.ok; repeat' (first | rfl | exact .inK (by simp only [InK]; omega) | exact .inK (by simp only [InK]; simp at hg; omega) | exact .wr | constructor | decide | omega)))); (try case hp => constructor))
    | refine dpickAnd rfl rfl rfl rfl rfl ?_ | refine dpickOr rfl rfl rfl rfl rfl ?_
    | fail)
      exact loop_again (k + 1, (us ++ [prL x], ws)) ⟨hlt, hus1, hws1⟩ (by simp only; omega) (Wk_g some rfl rfl (by (repeat' (first | exact trivial | rfl | exact listLe_map _ | exact ⟨_, rfl, .inl rfl⟩ | exact ⟨_, rfl, .inr (.inl rfl)⟩ | exact ⟨_, rfl, .inr (.inr rfl)⟩ | refine ⟨_, _, rfl, rfl, ?_⟩ | exact ⟨_, rfl, rfl⟩ | exact ⟨_, _, _, _, rfl, rfl, rfl⟩ | exact ⟨_, rfl⟩ | exact ⟨_, _, rfl⟩ | apply And.intro))))
    | true =>
      rw [hfu] at hfw fa
      cases hfv : fwdR w with
      | false =>
        rw [hfv] at hfw fb
        have hws1 : ws = (((liveL n).take (k + 1)).filter (fwdL n tree)).map prL := by rw [htk, hws, List.filter_append]; simp [hfw]
        repeat' (first
    | (apply Stp.go; case a => constructor)
    | refine blk_hit rfl ?_ | refine blk_miss rfl ?_ | refine dnilD (by kernel_rfl) ?_ | refine DW_cond_t rfl ?_ | refine DW_cond_f rfl ?_
    | refine DW_tD rfl (by omega) ?_ | refine DW_fD rfl (by omega) ?_
    | refine dpOff rfl rfl ?_
    | ((first | apply dX rfl | apply dXon rfl rfl | apply dpMay rfl rfl (by intro h; first | trivial | exact ⟨h, trivial⟩ | exact ⟨h, h, trivial⟩ | exact ⟨h, h, h, trivial⟩)); (case h => ((try intro hg); first | exact S_ixM rfl rfl (by omega) hx | exact S_ixM (f := Place.cells) rfl rfl a0 ga | exact S_ixM (f := Place.cells) rfl rfl b0 gb | exact S_call ca rfl | exact S_call cb rfl | exact S_call fa rfl | exact S_call fb rfl | exact S_appM (f := pairV) (us := us) (bs := [prL x]) rfl rfl (.dat _ _) rfl rfl (.inr ⟨rfl, inferInstance⟩) rfl (by simp only [List.length_singleton]; omega) | exact S_al rfl | exact S_bx rfl rfl | exact S_store rfl rfl rfl rfl rfl rfl | (apply Pu.ok; repeat' (first | rfl | exact .inK (by simp only [InK]; omega) | exact .inK (by simp only [InK]; simp at hg; omega) | exact .wr | constructor | decide | omega)))); (try case hp => constructor))
    | refine dpickAnd rfl rfl rfl rfl rfl ?_ | refine dpickOr rfl rfl rfl rfl rfl ?_
    | fail)
        exact loop_again (k + 1, (us ++ [prL x], ws)) ⟨hlt, hus1, hws1⟩ (by simp only; omega) (Wk_g some rfl rfl (by (repeat' (first | exact trivial | rfl | exact listLe_map _ | exact ⟨_, rfl, .inl rfl⟩ | exact ⟨_, rfl, .inr (.inl rfl)⟩ | exact ⟨_, rfl, .inr (.inr rfl)⟩ | refine ⟨_, _, rfl, rfl, ?_⟩ | exact ⟨_, rfl, rfl⟩ | exact ⟨_, _, _, _, rfl, rfl, rfl⟩ | exact ⟨_, rfl⟩ | exact ⟨_, _, rfl⟩ | apply And.intro))))
      | true =>
        rw [hfv] at hfw fb
        have hws1 : ws ++ [prL x] = (((liveL n).take (k + 1)).filter (fwdL n tree)).map prL := by rw [htk, hws, List.filter_append]; simp [hfw]
        repeat' (first
    | (apply Stp.go; case a => constructor)
    | refine blk_hit rfl ?_ | refine blk_miss rfl ?_ | refine dnilD (by kernel_rfl) ?_ | refine DW_cond_t rfl ?_ | refine DW_cond_f rfl ?_
    | refine DW_tD rfl (by omega) ?_ | refine DW_fD rfl (by omega) ?_
    | refine dpOff rfl rfl ?_
    | ((first | apply dX rfl | apply dXon rfl rfl | apply dpMay rfl rfl (by intro h; first | trivial | exact ⟨h, trivial⟩ | exact ⟨h, h, trivial⟩ | exact ⟨h, h, h, trivial⟩)); (case h => ((try intro hg); first | exact S_ixM rfl rfl (by omega) hx | exact S_ixM (f := Place.cells) rfl rfl a0 ga | exact S_ixM (f := Place.cells) rfl rfl b0 gb | exact S_call ca rfl | exact S_call cb rfl | exact S_call fa rfl | exact S_call fb rfl | exact S_appM (f := pairV) (us := us) (bs := [prL x]) rfl rfl (.dat _ _) rfl rfl (.inr ⟨rfl, inferInstance⟩) rfl (by simp only [List.length_singleton]; omega) | exact S_appM (f := pairV) (us := ws) (bs := [prL x]) rfl rfl (.dat _ _) rfl rfl (.inr ⟨rfl, inferInstance⟩) rfl (by simp only [List.length_singleton]; omega) | exact S_al rfl | exact S_bx rfl rfl | exact S_store rfl rfl rfl rfl rfl rfl | (apply Pu.ok; repeat' (first | rfl | exact .inK (by simp only [InK]; omega) | exact .inK (by simp only [InK]; simp at hg; omega) | exact .wr | constructor | decide | omega)))); (try case hp => constructor))
    | refine dpickAnd rfl rfl rfl rfl rfl ?_ | refine dpickOr rfl rfl rfl rfl rfl ?_
    | fail)
        exact loop_again (k + 1, (us ++ [prL x], ws ++ [prL x])) ⟨hlt, hus1, hws1⟩ (by simp only; omega) (Wk_g some rfl rfl (by (repeat' (first | exact trivial | rfl | exact listLe_map _ | exact ⟨_, rfl, .inl rfl⟩ | exact ⟨_, rfl, .inr (.inl rfl)⟩ | exact ⟨_, rfl, .inr (.inr rfl)⟩ | refine ⟨_, _, rfl, rfl, ?_⟩ | exact ⟨_, rfl, rfl⟩ | exact ⟨_, _, _, _, rfl, rfl, rfl⟩ | exact ⟨_, rfl⟩ | exact ⟨_, _, rfl⟩ | apply And.intro))))
  · have hu2 : us = (liveL n).map prL := by rw [hus, List.take_of_length_le (by omega)]
    have hw2 : ws = ((liveL n).filter (fwdL n tree)).map prL := by rw [hws, List.take_of_length_le (by omega)]
    have hok : ∀ x ∈ liveL n, (0 ≤ x.a ∧ x.a < n.bridges.length) ∧ (0 ≤ x.b ∧ x.b < n.bridges.length) := fun x hx => by
      have hk := h.lk x (live_sub hx)
      exact ⟨⟨hk.a0, hk.a1⟩, hk.b0, hk.b1⟩
    have j1 := law6_joined n.bridges.length (by omega) us (by omega) (fun p hp => by
      rw [hu2] at hp
      obtain ⟨x, hx, rfl⟩ := List.mem_map.1 hp; exact hok x hx)
    have j2 := law6_joined n.bridges.length (by omega) ws (by omega) (fun p hp => by
      rw [hw2] at hp
      obtain ⟨x, hx, rfl⟩ := List.mem_map.1 hp; exact hok x (List.mem_filter.1 hx).1)
    have hsame := tree_joins h tree
    have hring := tree_noring h tree
    rw [← hu2, ← hw2] at hsame
    rw [← hw2] at hring
    have hjl := (joinF_inv (nb := n.bridges.length) (ps := ws) (fun p hp => by
      rw [hw2] at hp
      obtain ⟨x, hx, rfl⟩ := List.mem_map.1 hp
      have := hok x (List.mem_filter.1 hx).1
      show x.a.toNat < _ ∧ x.b.toNat < _
      omega)).len
    rw [hsame] at j1
    rw [hring] at j2
    generalize (joinF n.bridges.length us).2 = rr at j1
    generalize (joinF n.bridges.length ws).1 = g at j1 j2 hjl
    rw [← hmp] at j1 j2
    have hgm : (g.map intV1).length = n.bridges.length := by rw [List.length_map, hjl]
    rw [← whole_eq (f := pairV) (us := us) rfl] at j1
    rw [← whole_eq (f := pairV) (us := ws) rfl] at j2
    repeat' (first
    | (apply Stp.go; case a => constructor)
    | refine blk_hit rfl ?_ | refine blk_miss rfl ?_ | refine dnilD (by kernel_rfl) ?_ | refine DW_cond_t rfl ?_ | refine DW_cond_f rfl ?_
    | refine DW_tD rfl (by omega) ?_ | refine DW_fD rfl (by omega) ?_
    | refine dpOff rfl rfl ?_
    | ((first | apply dX rfl | apply dXon rfl rfl | apply dpMay rfl rfl (by intro h; first | trivial | exact ⟨h, trivial⟩ | exact ⟨h, h, trivial⟩ | exact ⟨h, h, h, trivial⟩)); (case h => ((try intro hg); first | exact S_call j1 rfl | exact S_call j2 rfl | exact S_al rfl | exact S_bx rfl rfl | exact S_store rfl rfl rfl rfl rfl rfl | (apply Pu.ok; repeat' (first | rfl | exact .inK (by simp only [InK]; omega) | exact .inK (by simp only [InK]; simp at hg; omega) | exact .wr | constructor | decide | omega)))); (try case hp => constructor))
    | refine dpickAnd rfl rfl rfl rfl rfl ?_ | refine dpickOr rfl rfl rfl rfl rfl ?_
    | fail)
    refine DW_loop (fun i : Nat => ⟨[(11, .dat true (.slice (g.map intV1))), (13, .dat true (.slice (g.map intV1))), (14, .dat true (.bool false)), (86, .dat true (.int .i64 (g.map intV1).length)), (87, .dat true (.int .i64 i))], [], 102⟩)
      (fun i => i ≤ n.bridges.length) (fun i => n.bridges.length - i) 0 (Nat.zero_le _) (Wk_g some rfl rfl (by (repeat' (first | exact trivial | rfl | exact listLe_map _ | exact ⟨_, rfl, .inl rfl⟩ | exact ⟨_, rfl, .inr (.inl rfl)⟩ | exact ⟨_, rfl, .inr (.inr rfl)⟩ | refine ⟨_, _, rfl, rfl, ?_⟩ | exact ⟨_, rfl, rfl⟩ | exact ⟨_, _, _, _, rfl, rfl, rfl⟩ | exact ⟨_, rfl⟩ | exact ⟨_, _, rfl⟩ | apply And.intro)))) (fun i hi => ?_)
    by_cases hli2 : i < n.bridges.length
    · have hgi : g[(i : Int).toNat]? = some (g[i]'(by omega)) := by simp [show i < g.length by omega]
      repeat' (first
    | (apply Stp.go; case a => constructor)
    | refine blk_hit rfl ?_ | refine blk_miss rfl ?_ | refine dnilD (by kernel_rfl) ?_ | refine DW_cond_t rfl ?_ | refine DW_cond_f rfl ?_
    | refine DW_tD rfl (by omega) ?_ | refine DW_fD rfl (by omega) ?_
    | refine dpOff rfl rfl ?_
    | ((first | apply dX rfl | apply dXon rfl rfl | apply dpMay rfl rfl (by intro h; first | trivial | exact ⟨h, trivial⟩ | exact ⟨h, h, trivial⟩ | exact ⟨h, h, h, trivial⟩)); (case h => ((try intro hg); first | exact S_ixM rfl rfl (by omega) hgi | exact S_cT rfl rfl (by constructor) (by omega) | exact S_cF rfl rfl (by constructor) (by omega) | exact S_al rfl | exact S_bx rfl rfl | exact S_store rfl rfl rfl rfl rfl rfl | (apply Pu.ok; repeat' (first | rfl | exact .inK (by simp only [InK]; omega) | exact .inK (by simp only [InK]; simp at hg; omega) | exact .wr | constructor | decide | omega)))); (try case hp => constructor))
    | refine dpickAnd rfl rfl rfl rfl rfl ?_ | refine dpickOr rfl rfl rfl rfl rfl ?_
    | fail)
      exact loop_again (i + 1) hli2 (by omega) (Wk_g some rfl rfl (by (repeat' (first | exact trivial | rfl | exact listLe_map _ | exact ⟨_, rfl, .inl rfl⟩ | exact ⟨_, rfl, .inr (.inl rfl)⟩ | exact ⟨_, rfl, .inr (.inr rfl)⟩ | refine ⟨_, _, rfl, rfl, ?_⟩ | exact ⟨_, rfl, rfl⟩ | exact ⟨_, _, _, _, rfl, rfl, rfl⟩ | exact ⟨_, rfl⟩ | exact ⟨_, _, rfl⟩ | apply And.intro))))
    · repeat' (first
    | (apply Stp.go; case a => constructor)
    | refine blk_hit rfl ?_ | refine blk_miss rfl ?_ | refine dnilD (by kernel_rfl) ?_ | refine DW_cond_t rfl ?_ | refine DW_cond_f rfl ?_
    | refine DW_tD rfl (by omega) ?_ | refine DW_fD rfl (by omega) ?_
    | refine dpOff rfl rfl ?_
    | ((first | apply dX rfl | apply dXon rfl rfl | apply dpMay rfl rfl (by intro h; first | trivial | exact ⟨h, trivial⟩ | exact ⟨h, h, trivial⟩ | exact ⟨h, h, h, trivial⟩)); (case h => ((try intro hg); first | exact S_al rfl | exact S_bx rfl rfl | exact S_store rfl rfl rfl rfl rfl rfl | (apply Pu.ok; repeat' (first | rfl | exact .inK (by simp only [InK]; omega) | exact .inK (by simp only [InK]; simp at hg; omega) | exact .wr | constructor | decide | omega)))); (try case hp => constructor))
    | refine dpickAnd rfl rfl rfl rfl rfl ?_ | refine dpickOr rfl rfl rfl rfl rfl ?_
    | fail)
      refine ret1 rfl (by first | exact .inl rfl | exact .inr (flat_of rfl)) ?_
      rfl
end Go.Proofs.Ytkppkgahdoglpaa
