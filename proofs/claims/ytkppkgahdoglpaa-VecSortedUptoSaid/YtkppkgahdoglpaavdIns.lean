/- Contract: slices' insertionSort at vectors. -/
import Derived.Test.YtkppkgahdoglpaavcSym
namespace Go.Proofs.Ytkppkgahdoglpaa
open Go.RowKit
attribute [local irreducible] SStep DW DWS DOps thenQ inBlk loopQ loopQS endI retQ retQG FnF FnG FnI Wk IntKind.wrap IntKind.andI IntKind.orI IntKind.xorI IntKind.andNotI IntKind.shlI IntKind.shrI swapR swp vat Vec.cmp rotL sortL sortSeg
set_option maxHeartbeats 4000000 in
theorem vec_insertionSort (xs : List Vec) (a b : Nat) (hl : xs.length ≤ 1099511627776) (hab : a ≤ b) (hb : b ≤ xs.length) :
    FnI Try.prog 78 [.own 1000 0 0 xs.length, .dat false (.int .i64 a), .dat false (.int .i64 b), .dat false cmpF] [(1000, .row 0 false true 4 (xs.map Vec.cells))]
      [(1000, .row 0 false true 4 ((sortSeg xs a b).map Vec.cells))] := by
  refine fnI_of Try.func78 rfl rfl rfl rfl ?_
  simp only [envD]
  by_cases h0 : a < b
  case neg =>
    have hid : sortSeg xs a b = xs := sortSeg_id hab hb (fun i j h1 h2 h3 => by omega)
    rw [hid]
    repeat' (first
    | refine DWS_seq ?_
    | refine DWS_region ?_
    | refine DWS_draw ?_
    | refine dnilP ?_
    | refine dnilD (by kernel_rfl) ?_
    | refine then_normal ?_
    | refine then_exit ?_
    | refine then_ret ?_
    | refine DWS_block ?_
    | refine blk_normal ?_
    | refine blk_ret ?_
    | refine blk_hit rfl ?_
    | refine blk_miss rfl ?_
    | refine loopS_exit ?_
    | refine loopS_ret ?_
    | refine DWS_ret ?_
    | refine DWS_exit ?_
    | refine DWS_skip ?_
    | refine DWS_cond_t rfl ?_
    | refine DWS_cond_f rfl ?_
    | (apply dpC rfl; case h => first | (apply Pu.ok; repeat' (first | rfl | exact .inK (by simp only [InK]; omega) | exact .inK (by simp only [InK]; simp at hg; omega) | exact .wr | constructor | decide | omega)))
    | refine dpOff rfl rfl ?_
    | ((first | apply dp rfl | apply dpOn rfl rfl | apply dpMay rfl rfl (by first | exact fun _ => trivial | exact fun h => ⟨h, trivial⟩ | exact fun h => ⟨h, h, trivial⟩ | exact fun h => ⟨h, h, h, trivial⟩)); case h => ((try intro hg); first | (apply Pu.ok; repeat' (first | rfl | exact .inK (by simp only [InK]; omega) | exact .inK (by simp only [InK]; simp at hg; omega) | exact .wr | constructor | decide | omega))))
    | refine dpickAnd rfl rfl rfl rfl rfl ?_ | refine dpickOr rfl rfl rfl rfl rfl ?_
    | (apply dt rfl; case h => first | exact S_alloc _ rfl | exact S_box _ rfl rfl)
    | (apply ds; case h => first | exact S_store rfl rfl rfl rfl rfl rfl)
    | (apply dm rfl; case h => first | exact M_d rfl | exact S_alloc 2001 rfl | exact S_alloc 2002 rfl | exact S_alloc 2003 rfl | exact S_alloc 2004 rfl | exact S_alloc 2005 rfl)
    | fail)
    refine DWS_loop (fun _ : Unit => ⟨[(0, .own 1000 0 0 xs.length), (2, .dat false (.int .i64 b)), (8, .dat true (.int .i64 ((a : Int) + 1)))], [(1000, .row 0 false true 4 (xs.map Vec.cells))], 53⟩)
      (fun _ => True) (fun _ => 0) () trivial ⟨rfl, by first | exact fun _ => rfl | exact fun _ => by with_unfolding_all rfl | exact mem_one | exact mem_two | exact mem_three, by repeat' (first | exact slots_nil | exact .inl rfl | exact .inr (.inl ⟨_, rfl, rfl⟩) | apply slots_cons)⟩ (fun _ _ => ?_)
    repeat' (first
    | refine DWS_seq ?_
    | refine DWS_region ?_
    | refine DWS_draw ?_
    | refine dnilP ?_
    | refine dnilD (by kernel_rfl) ?_
    | refine then_normal ?_
    | refine then_exit ?_
    | refine then_ret ?_
    | refine DWS_block ?_
    | refine blk_normal ?_
    | refine blk_ret ?_
    | refine blk_hit rfl ?_
    | refine blk_miss rfl ?_
    | refine loopS_exit ?_
    | refine loopS_ret ?_
    | refine DWS_ret ?_
    | refine DWS_exit ?_
    | refine DWS_skip ?_
    | refine DWS_cond_t rfl ?_
    | refine DWS_cond_f rfl ?_
    | (apply dpC rfl; case h => first | (apply Pu.ok; repeat' (first | rfl | exact .inK (by simp only [InK]; omega) | exact .inK (by simp only [InK]; simp at hg; omega) | exact .wr | constructor | decide | omega)))
    | refine dpOff rfl rfl ?_
    | ((first | apply dp rfl | apply dpOn rfl rfl | apply dpMay rfl rfl (by first | exact fun _ => trivial | exact fun h => ⟨h, trivial⟩ | exact fun h => ⟨h, h, trivial⟩ | exact fun h => ⟨h, h, h, trivial⟩)); case h => ((try intro hg); first | exact as_bool (S_lss rfl rfl) (decide_eq_false (by omega : ¬ (a : Int) + 1 < (b : Int))) | (apply Pu.ok; repeat' (first | rfl | exact .inK (by simp only [InK]; omega) | exact .inK (by simp only [InK]; simp at hg; omega) | exact .wr | constructor | decide | omega))))
    | refine dpickAnd rfl rfl rfl rfl rfl ?_ | refine dpickOr rfl rfl rfl rfl rfl ?_
    | (apply dt rfl; case h => first | exact S_alloc _ rfl | exact S_box _ rfl rfl)
    | (apply ds; case h => first | exact S_store rfl rfl rfl rfl rfl rfl)
    | (apply dm rfl; case h => first | exact M_d rfl | exact S_alloc 2001 rfl | exact S_alloc 2002 rfl | exact S_alloc 2003 rfl | exact S_alloc 2004 rfl | exact S_alloc 2005 rfl)
    | fail)
    exact endI_n (by first | exact fun _ => rfl | exact mem_one | exact mem_two | exact mem_three)
  have hst : sortSeg xs a (a + 1) = xs := sortSeg_id (by omega) (by omega) (fun i j h1 h2 h3 => by omega)
  repeat' (first
    | refine DWS_seq ?_
    | refine DWS_region ?_
    | refine DWS_draw ?_
    | refine dnilP ?_
    | refine dnilD (by kernel_rfl) ?_
    | refine then_normal ?_
    | refine then_exit ?_
    | refine then_ret ?_
    | refine DWS_block ?_
    | refine blk_normal ?_
    | refine blk_ret ?_
    | refine blk_hit rfl ?_
    | refine blk_miss rfl ?_
    | refine loopS_exit ?_
    | refine loopS_ret ?_
    | refine DWS_ret ?_
    | refine DWS_exit ?_
    | refine DWS_skip ?_
    | refine DWS_cond_t rfl ?_
    | refine DWS_cond_f rfl ?_
    | (apply dpC rfl; case h => first | (apply Pu.ok; repeat' (first | rfl | exact .inK (by simp only [InK]; omega) | exact .inK (by simp only [InK]; simp at hg; omega) | exact .wr | constructor | decide | omega)))
    | refine dpOff rfl rfl ?_
    | ((first | apply dp rfl | apply dpOn rfl rfl | apply dpMay rfl rfl (by first | exact fun _ => trivial | exact fun h => ⟨h, trivial⟩ | exact fun h => ⟨h, h, trivial⟩ | exact fun h => ⟨h, h, h, trivial⟩)); case h => ((try intro hg); first | (apply Pu.ok; repeat' (first | rfl | exact .inK (by simp only [InK]; omega) | exact .inK (by simp only [InK]; simp at hg; omega) | exact .wr | constructor | decide | omega))))
    | refine dpickAnd rfl rfl rfl rfl rfl ?_ | refine dpickOr rfl rfl rfl rfl rfl ?_
    | (apply dt rfl; case h => first | exact S_alloc _ rfl | exact S_box _ rfl rfl)
    | (apply ds; case h => first | exact S_store rfl rfl rfl rfl rfl rfl)
    | (apply dm rfl; case h => first | exact M_d rfl | exact S_alloc 2001 rfl | exact S_alloc 2002 rfl | exact S_alloc 2003 rfl | exact S_alloc 2004 rfl | exact S_alloc 2005 rfl)
    | fail)
  refine DWS_loop (fun i : Nat => ⟨[(0, .own 1000 0 0 xs.length), (1, .dat false (.int .i64 a)), (2, .dat false (.int .i64 b)), (3, .dat false cmpF), (8, .dat true (.int .i64 i))], [(1000, .row 0 false true 4 ((sortSeg xs a i).map Vec.cells))], 53⟩)
    (fun i => a + 1 ≤ i ∧ i ≤ b) (fun i => b - i) (a + 1) ⟨Nat.le_refl _, h0⟩
    (by rw [hst]; exact ⟨rfl, by first | exact fun _ => rfl | exact fun _ => by with_unfolding_all rfl | exact mem_one | exact mem_two | exact mem_three, by repeat' (first | exact slots_nil | exact .inl rfl | exact .inr (.inl ⟨_, rfl, rfl⟩) | apply slots_cons)⟩) (fun i hi => ?_)
  obtain ⟨hai, hib⟩ := hi
  by_cases hlt : i < b
  · have hI := Ins.start (show a ≤ i by omega) (show i < xs.length by omega)
    repeat' (first
    | refine DWS_seq ?_
    | refine DWS_region ?_
    | refine DWS_draw ?_
    | refine dnilP ?_
    | refine dnilD (by kernel_rfl) ?_
    | refine then_normal ?_
    | refine then_exit ?_
    | refine then_ret ?_
    | refine DWS_block ?_
    | refine blk_normal ?_
    | refine blk_ret ?_
    | refine blk_hit rfl ?_
    | refine blk_miss rfl ?_
    | refine loopS_exit ?_
    | refine loopS_ret ?_
    | refine DWS_ret ?_
    | refine DWS_exit ?_
    | refine DWS_skip ?_
    | refine DWS_cond_t rfl ?_
    | refine DWS_cond_f rfl ?_
    | (apply dpC rfl; case h => first | (apply Pu.ok; repeat' (first | rfl | exact .inK (by simp only [InK]; omega) | exact .inK (by simp only [InK]; simp at hg; omega) | exact .wr | constructor | decide | omega)))
    | refine dpOff rfl rfl ?_
    | ((first | apply dp rfl | apply dpOn rfl rfl | apply dpMay rfl rfl (by first | exact fun _ => trivial | exact fun h => ⟨h, trivial⟩ | exact fun h => ⟨h, h, trivial⟩ | exact fun h => ⟨h, h, h, trivial⟩)); case h => ((try intro hg); first | exact as_bool (S_lss rfl rfl) (decide_eq_true (by omega : (i : Int) < (b : Int))) | (apply Pu.ok; repeat' (first | rfl | exact .inK (by simp only [InK]; omega) | exact .inK (by simp only [InK]; simp at hg; omega) | exact .wr | constructor | decide | omega))))
    | refine dpickAnd rfl rfl rfl rfl rfl ?_ | refine dpickOr rfl rfl rfl rfl rfl ?_
    | (apply dt rfl; case h => first | exact S_alloc _ rfl | exact S_box _ rfl rfl)
    | (apply ds; case h => first | exact S_store rfl rfl rfl rfl rfl rfl)
    | (apply dm rfl; case h => first | exact M_d rfl | exact S_alloc 2001 rfl | exact S_alloc 2002 rfl | exact S_alloc 2003 rfl | exact S_alloc 2004 rfl | exact S_alloc 2005 rfl)
    | fail)
    refine DWS_loop (fun q : Nat × List Vec => ⟨[(0, .own 1000 0 0 xs.length), (1, .dat false (.int .i64 a)), (2, .dat false (.int .i64 b)), (3, .dat false cmpF), (8, .dat true (.int .i64 i)), (9, .dat true (.int .i64 q.1))], [(1000, .row 0 false true 4 (q.2.map Vec.cells))], 53⟩)
      (fun q => a ≤ q.1 ∧ q.1 ≤ i ∧ Ins xs q.2 a i q.1) (fun q => q.1) (i, sortSeg xs a i) ⟨by simp only; omega, Nat.le_refl _, hI⟩
      ⟨rfl, by first | exact fun _ => rfl | exact fun _ => by with_unfolding_all rfl | exact mem_one | exact mem_two | exact mem_three, by repeat' (first | exact slots_nil | exact .inl rfl | exact .inr (.inl ⟨_, rfl, rfl⟩) | apply slots_cons)⟩ (fun q hq => ?_)
    obtain ⟨j, us⟩ := q
    obtain ⟨haj, hji, hI⟩ := hq
    simp only at haj hji hI
    dsimp only
    have hul := hI.p.length_eq
    by_cases hj : a < j
    · have e2 : (j : Int) - 1 = ((j - 1 : Nat) : Int) := by omega
      have h1 := vgetM (us := us) (i := (j : Int)) rfl (show j < us.length by omega)
      have h2 := vgetM e2 (show j - 1 < us.length by omega)
      have hc := vec_Compare (vat us j) (vat us (j - 1))
      by_cases hlt2 : (vat us j).cmp (vat us (j - 1)) < 0
      · have g1 := vget (us := us) (i := (j : Int)) rfl (show j < us.length by omega)
        have g2 : (us.set ((j : Int)).toNat (vat us (j - 1)))[((j : Int) - 1).toNat]? = some (vat (us.set j (vat us (j - 1))) (j - 1)) := by
          rw [Int.toNat_natCast]
          exact vget e2 (by rw [List.length_set]; omega)
        have hs := hI.step hj hji (by omega) hlt2
        repeat' (first
    | refine DWS_seq ?_
    | refine DWS_region ?_
    | refine DWS_draw ?_
    | refine dnilP ?_
    | refine dnilD (by kernel_rfl) ?_
    | refine then_normal ?_
    | refine then_exit ?_
    | refine then_ret ?_
    | refine DWS_block ?_
    | refine blk_normal ?_
    | refine blk_ret ?_
    | refine blk_hit rfl ?_
    | refine blk_miss rfl ?_
    | refine loopS_exit ?_
    | refine loopS_ret ?_
    | refine DWS_ret ?_
    | refine DWS_exit ?_
    | refine DWS_skip ?_
    | refine DWS_cond_t rfl ?_
    | refine DWS_cond_f rfl ?_
    | (apply dpC rfl; case h => first | exact S_callv rfl rfl hc | (apply Pu.ok; repeat' (first | rfl | exact .inK (by simp only [InK]; omega) | exact .inK (by simp only [InK]; simp at hg; omega) | exact .wr | constructor | decide | omega)))
    | refine dpOff rfl rfl ?_
    | ((first | apply dp rfl | apply dpOn rfl rfl | apply dpMay rfl rfl (by first | exact fun _ => trivial | exact fun h => ⟨h, trivial⟩ | exact fun h => ⟨h, h, trivial⟩ | exact fun h => ⟨h, h, h, trivial⟩)); case h => ((try intro hg); first | exact as_bool (S_gtr rfl rfl) (decide_eq_true (by omega : (a : Int) < (j : Int))) | exact S_ixO rfl rfl rfl (by omega) (by omega) | exact S_load_rptr rfl rfl h1 rfl | exact S_load_rptr rfl rfl h2 rfl | exact as_bool (S_lss rfl rfl) (decide_eq_true hlt2) | exact S_storeM (f := Vec.cells) (a := vat us (j - 1)) rfl rfl g1 rfl rfl (.inr ⟨rfl, inferInstance⟩) rfl rfl | exact S_storeM (f := Vec.cells) (a := vat us j) rfl rfl g2 rfl rfl (.inr ⟨rfl, inferInstance⟩) rfl rfl | exact S_callv rfl rfl hc | (apply Pu.ok; repeat' (first | rfl | exact .inK (by simp only [InK]; omega) | exact .inK (by simp only [InK]; simp at hg; omega) | exact .wr | constructor | decide | omega))))
    | refine dpickAnd rfl rfl rfl rfl rfl ?_ | refine dpickOr rfl rfl rfl rfl rfl ?_
    | (apply dt rfl; case h => first | exact S_load_rptr rfl rfl h1 rfl | exact S_load_rptr rfl rfl h2 rfl | exact S_storeM (f := Vec.cells) (a := vat us (j - 1)) rfl rfl g1 rfl rfl (.inr ⟨rfl, inferInstance⟩) rfl rfl | exact S_storeM (f := Vec.cells) (a := vat us j) rfl rfl g2 rfl rfl (.inr ⟨rfl, inferInstance⟩) rfl rfl | exact S_alloc _ rfl | exact S_box _ rfl rfl)
    | (apply ds; case h => first | exact S_load_rptr rfl rfl h1 rfl | exact S_load_rptr rfl rfl h2 rfl | exact S_storeM (f := Vec.cells) (a := vat us (j - 1)) rfl rfl g1 rfl rfl (.inr ⟨rfl, inferInstance⟩) rfl rfl | exact S_storeM (f := Vec.cells) (a := vat us j) rfl rfl g2 rfl rfl (.inr ⟨rfl, inferInstance⟩) rfl rfl | exact S_store rfl rfl rfl rfl rfl rfl)
    | (apply dm rfl; case h => first | exact S_load_rptr rfl rfl h1 rfl | exact S_load_rptr rfl rfl h2 rfl | exact S_storeM (f := Vec.cells) (a := vat us (j - 1)) rfl rfl g1 rfl rfl (.inr ⟨rfl, inferInstance⟩) rfl rfl | exact S_storeM (f := Vec.cells) (a := vat us j) rfl rfl g2 rfl rfl (.inr ⟨rfl, inferInstance⟩) rfl rfl | exact M_d rfl | exact S_alloc 2001 rfl | exact S_alloc 2002 rfl | exact S_alloc 2003 rfl | exact S_alloc 2004 rfl | exact S_alloc 2005 rfl)
    | fail)
        refine loopS_again (j - 1, swp us j (j - 1)) ⟨by simp only; omega, by simp only; omega, hs⟩ (by simp only; omega) ?_
        have hsw : (us.set ((j : Int)).toNat (vat us (j - 1))).set ((j : Int) - 1).toNat (vat us j) = swp us j (j - 1) := by
          rw [Int.toNat_natCast, show ((j : Int) - 1).toNat = j - 1 by omega]
          with_unfolding_all rfl
        rw [← hsw, ← e2]
        exact ⟨rfl, by first | exact fun _ => rfl | exact fun _ => by with_unfolding_all rfl | exact mem_one | exact mem_two | exact mem_three, by repeat' (first | exact slots_nil | exact .inl rfl | exact .inr (.inl ⟨_, rfl, rfl⟩) | apply slots_cons)⟩
      · have hz := hI.stop haj hji (by omega) (.inr hlt2)
        repeat' (first
    | refine DWS_seq ?_
    | refine DWS_region ?_
    | refine DWS_draw ?_
    | refine dnilP ?_
    | refine dnilD (by kernel_rfl) ?_
    | refine then_normal ?_
    | refine then_exit ?_
    | refine then_ret ?_
    | refine DWS_block ?_
    | refine blk_normal ?_
    | refine blk_ret ?_
    | refine blk_hit rfl ?_
    | refine blk_miss rfl ?_
    | refine loopS_exit ?_
    | refine loopS_ret ?_
    | refine DWS_ret ?_
    | refine DWS_exit ?_
    | refine DWS_skip ?_
    | refine DWS_cond_t rfl ?_
    | refine DWS_cond_f rfl ?_
    | (apply dpC rfl; case h => first | exact S_callv rfl rfl hc | (apply Pu.ok; repeat' (first | rfl | exact .inK (by simp only [InK]; omega) | exact .inK (by simp only [InK]; simp at hg; omega) | exact .wr | constructor | decide | omega)))
    | refine dpOff rfl rfl ?_
    | ((first | apply dp rfl | apply dpOn rfl rfl | apply dpMay rfl rfl (by first | exact fun _ => trivial | exact fun h => ⟨h, trivial⟩ | exact fun h => ⟨h, h, trivial⟩ | exact fun h => ⟨h, h, h, trivial⟩)); case h => ((try intro hg); first | exact as_bool (S_gtr rfl rfl) (decide_eq_true (by omega : (a : Int) < (j : Int))) | exact S_ixO rfl rfl rfl (by omega) (by omega) | exact S_load_rptr rfl rfl h1 rfl | exact S_load_rptr rfl rfl h2 rfl | exact as_bool (S_lss rfl rfl) (decide_eq_false hlt2) | exact S_callv rfl rfl hc | (apply Pu.ok; repeat' (first | rfl | exact .inK (by simp only [InK]; omega) | exact .inK (by simp only [InK]; simp at hg; omega) | exact .wr | constructor | decide | omega))))
    | refine dpickAnd rfl rfl rfl rfl rfl ?_ | refine dpickOr rfl rfl rfl rfl rfl ?_
    | (apply dt rfl; case h => first | exact S_load_rptr rfl rfl h1 rfl | exact S_load_rptr rfl rfl h2 rfl | exact S_alloc _ rfl | exact S_box _ rfl rfl)
    | (apply ds; case h => first | exact S_load_rptr rfl rfl h1 rfl | exact S_load_rptr rfl rfl h2 rfl | exact S_store rfl rfl rfl rfl rfl rfl)
    | (apply dm rfl; case h => first | exact S_load_rptr rfl rfl h1 rfl | exact S_load_rptr rfl rfl h2 rfl | exact M_d rfl | exact S_alloc 2001 rfl | exact S_alloc 2002 rfl | exact S_alloc 2003 rfl | exact S_alloc 2004 rfl | exact S_alloc 2005 rfl)
    | fail)
        refine loopS_again (i + 1) ⟨by omega, by omega⟩ (by omega) ?_
        rw [← hz]
        exact ⟨rfl, by first | exact fun _ => rfl | exact fun _ => by with_unfolding_all rfl | exact mem_one | exact mem_two | exact mem_three, by repeat' (first | exact slots_nil | exact .inl rfl | exact .inr (.inl ⟨_, rfl, rfl⟩) | apply slots_cons)⟩
    · have hz := hI.stop haj hji (by omega) (.inl (by omega))
      repeat' (first
    | refine DWS_seq ?_
    | refine DWS_region ?_
    | refine DWS_draw ?_
    | refine dnilP ?_
    | refine dnilD (by kernel_rfl) ?_
    | refine then_normal ?_
    | refine then_exit ?_
    | refine then_ret ?_
    | refine DWS_block ?_
    | refine blk_normal ?_
    | refine blk_ret ?_
    | refine blk_hit rfl ?_
    | refine blk_miss rfl ?_
    | refine loopS_exit ?_
    | refine loopS_ret ?_
    | refine DWS_ret ?_
    | refine DWS_exit ?_
    | refine DWS_skip ?_
    | refine DWS_cond_t rfl ?_
    | refine DWS_cond_f rfl ?_
    | (apply dpC rfl; case h => first | (apply Pu.ok; repeat' (first | rfl | exact .inK (by simp only [InK]; omega) | exact .inK (by simp only [InK]; simp at hg; omega) | exact .wr | constructor | decide | omega)))
    | refine dpOff rfl rfl ?_
    | ((first | apply dp rfl | apply dpOn rfl rfl | apply dpMay rfl rfl (by first | exact fun _ => trivial | exact fun h => ⟨h, trivial⟩ | exact fun h => ⟨h, h, trivial⟩ | exact fun h => ⟨h, h, h, trivial⟩)); case h => ((try intro hg); first | exact as_bool (S_gtr rfl rfl) (decide_eq_false (by omega : ¬ (a : Int) < (j : Int))) | (apply Pu.ok; repeat' (first | rfl | exact .inK (by simp only [InK]; omega) | exact .inK (by simp only [InK]; simp at hg; omega) | exact .wr | constructor | decide | omega))))
    | refine dpickAnd rfl rfl rfl rfl rfl ?_ | refine dpickOr rfl rfl rfl rfl rfl ?_
    | (apply dt rfl; case h => first | exact S_alloc _ rfl | exact S_box _ rfl rfl)
    | (apply ds; case h => first | exact S_store rfl rfl rfl rfl rfl rfl)
    | (apply dm rfl; case h => first | exact M_d rfl | exact S_alloc 2001 rfl | exact S_alloc 2002 rfl | exact S_alloc 2003 rfl | exact S_alloc 2004 rfl | exact S_alloc 2005 rfl)
    | fail)
      refine loopS_again (i + 1) ⟨by omega, by omega⟩ (by omega) ?_
      rw [← hz]
      exact ⟨rfl, by first | exact fun _ => rfl | exact fun _ => by with_unfolding_all rfl | exact mem_one | exact mem_two | exact mem_three, by repeat' (first | exact slots_nil | exact .inl rfl | exact .inr (.inl ⟨_, rfl, rfl⟩) | apply slots_cons)⟩
  · have hib' : i = b := by omega
    subst hib'
    repeat' (first
    | refine DWS_seq ?_
    | refine DWS_region ?_
    | refine DWS_draw ?_
    | refine dnilP ?_
    | refine dnilD (by kernel_rfl) ?_
    | refine then_normal ?_
    | refine then_exit ?_
    | refine then_ret ?_
    | refine DWS_block ?_
    | refine blk_normal ?_
    | refine blk_ret ?_
    | refine blk_hit rfl ?_
    | refine blk_miss rfl ?_
    | refine loopS_exit ?_
    | refine loopS_ret ?_
    | refine DWS_ret ?_
    | refine DWS_exit ?_
    | refine DWS_skip ?_
    | refine DWS_cond_t rfl ?_
    | refine DWS_cond_f rfl ?_
    | (apply dpC rfl; case h => first | (apply Pu.ok; repeat' (first | rfl | exact .inK (by simp only [InK]; omega) | exact .inK (by simp only [InK]; simp at hg; omega) | exact .wr | constructor | decide | omega)))
    | refine dpOff rfl rfl ?_
    | ((first | apply dp rfl | apply dpOn rfl rfl | apply dpMay rfl rfl (by first | exact fun _ => trivial | exact fun h => ⟨h, trivial⟩ | exact fun h => ⟨h, h, trivial⟩ | exact fun h => ⟨h, h, h, trivial⟩)); case h => ((try intro hg); first | exact as_bool (S_lss rfl rfl) (decide_eq_false (by omega : ¬ (i : Int) < (i : Int))) | (apply Pu.ok; repeat' (first | rfl | exact .inK (by simp only [InK]; omega) | exact .inK (by simp only [InK]; simp at hg; omega) | exact .wr | constructor | decide | omega))))
    | refine dpickAnd rfl rfl rfl rfl rfl ?_ | refine dpickOr rfl rfl rfl rfl rfl ?_
    | (apply dt rfl; case h => first | exact S_alloc _ rfl | exact S_box _ rfl rfl)
    | (apply ds; case h => first | exact S_store rfl rfl rfl rfl rfl rfl)
    | (apply dm rfl; case h => first | exact M_d rfl | exact S_alloc 2001 rfl | exact S_alloc 2002 rfl | exact S_alloc 2003 rfl | exact S_alloc 2004 rfl | exact S_alloc 2005 rfl)
    | fail)
    exact endI_n (by first | exact fun _ => rfl | exact mem_one | exact mem_two | exact mem_three)
end Go.Proofs.Ytkppkgahdoglpaa
