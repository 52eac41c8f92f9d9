/- Contract: slices' symMerge at vectors. -/
import Derived.Test.YtkppkgahdoglpaavdIns
namespace Go.Proofs.Ytkppkgahdoglpaa
open Go.RowKit
def normQ (s0 : St) : Exit → St → Prop
  | .normal, s => SWk s s0
  | _, _ => False
theorem norm_ok {s s0 : St} (h : SWk s s0) : normQ s0 .normal s := h
theorem DWS_join {P : Program} {Q : Exit → St → Prop} {s : St} {c d : Code} (s0 : St) (h : DWS P c (normQ s0) s) (k : DWS P d Q s0) : DWS P c (thenQ (DWS P d Q) Q) s := fun C a hh => by
  refine Code.wp_mono ?_ (h C a hh)
  rintro e a2 w2 ⟨C2, s2, e2, q2, h2, x2⟩
  cases e with
  | normal => exact ⟨C2, s2, e2, DWS_weak q2 k, h2, x2⟩
  | _ => exact q2.elim
theorem shr_half {a b : Nat} (_h : a + b < 9223372036854775808) : IntKind.u64.shrI ((a : Int) + (b : Int)) 1 = (((a + b) / 2 : Nat) : Int) := by
  have e : (2 : Int) ^ (min (1 : Int).toNat IntKind.u64.bits) = 2 := by decide
  unfold IntKind.shrI
  rw [e, Int.fdiv_eq_ediv_of_nonneg _ (by decide)]; omega
attribute [local irreducible] SStep DW DWS DOps thenQ inBlk loopQ loopQS endI normQ retQ retQG FnF FnG FnI Wk IntKind.wrap IntKind.andI IntKind.orI IntKind.xorI IntKind.andNotI IntKind.shlI IntKind.shrI swapR swp vat Vec.cmp rotL sortL sortSeg
set_option maxHeartbeats 8000000 in
theorem vec_symMerge (N : Nat) : ∀ (xs : List Vec) (a m b : Nat), b - a ≤ N → xs.length ≤ 1099511627776 → a < m → m < b → b ≤ xs.length → Srt xs a m → Srt xs m b →
    FnI Try.prog 79 [.own 1000 0 0 xs.length, .dat false (.int .i64 a), .dat false (.int .i64 m), .dat false (.int .i64 b), .dat false cmpF] [(1000, .row 0 false true 4 (xs.map Vec.cells))]
      [(1000, .row 0 false true 4 ((sortSeg xs a b).map Vec.cells))] := by
  induction N with
  | zero => intro xs a m b h1 _ h2 h3; omega
  | succ N ih =>
  intro xs a m b hN hl ham hmb hb hs1 hs2
  refine fnI_of Try.func79 rfl rfl rfl rfl ?_
  simp only [envD]
  by_cases hm1 : m - a = 1
  · repeat' (first
    | refine DWS_seq ?_
    | refine DWS_region ?_
    | refine DWS_draw ?_
    | refine dnilP ?_
    | refine dnilD (by kernel_rfl) ?_
    | refine then_normal ?_
    | refine then_exit ?_
    | refine then_ret ?_
    | refine DWS_block ?_
    | refine blk_normal ?_
    | refine blk_ret ?_
    | refine blk_hit rfl ?_
    | refine blk_miss rfl ?_
    | refine loopS_exit ?_
    | refine loopS_ret ?_
    | refine DWS_ret ?_
    | refine DWS_exit ?_
    | refine DWS_skip ?_
    | refine DWS_cond_t rfl ?_
    | refine DWS_cond_f rfl ?_
    | (apply dpC rfl; case h => first | (apply Pu.ok; repeat' (first | rfl | exact .inK (by simp only [InK]; omega) | exact .inK (by simp only [InK]; simp at hg; omega) | exact .wr | constructor | decide | omega)))
    | refine dpOff rfl rfl ?_
    | ((first | apply dp rfl | apply dpOn rfl rfl | apply dpMay rfl rfl (by first | exact fun _ => trivial | exact fun h => ⟨h, trivial⟩ | exact fun h => ⟨h, h, trivial⟩ | exact fun h => ⟨h, h, h, trivial⟩)); case h => ((try intro hg); first | exact as_bool (S_eql rfl rfl) (decide_eq_true (by omega : (m : Int) - (a : Int) = 1)) | (apply Pu.ok; repeat' (first | rfl | exact .inK (by simp only [InK]; omega) | exact .inK (by simp only [InK]; simp at hg; omega) | exact .wr | constructor | decide | omega))))
    | refine dpickAnd rfl rfl rfl rfl rfl ?_ | refine dpickOr rfl rfl rfl rfl rfl ?_
    | (apply dt rfl; case h => first | exact S_alloc _ rfl | exact S_box _ rfl rfl)
    | (apply ds; case h => first | exact S_store rfl rfl rfl rfl rfl rfl)
    | (apply dm rfl; case h => first | exact M_d rfl | exact S_alloc 2001 rfl | exact S_alloc 2002 rfl | exact S_alloc 2003 rfl | exact S_alloc 2004 rfl | exact S_alloc 2005 rfl)
    | fail)
    refine DWS_loop (fun p : Nat × Nat => ⟨[(0, .own 1000 0 0 xs.length), (1, .dat false (.int .i64 a)), (4, .dat false cmpF), (10, .dat false (.int .i64 p.1)), (11, .dat false (.int .i64 p.2))], [(1000, .row 0 false true 4 (xs.map Vec.cells))], 220⟩)
      (fun p => m ≤ p.1 ∧ p.1 ≤ p.2 ∧ p.2 ≤ b ∧ (∀ q, m ≤ q → q < p.1 → (vat xs q).cmp (vat xs a) < 0) ∧ ∀ q, p.2 ≤ q → q < b → ¬ (vat xs q).cmp (vat xs a) < 0) (fun p => p.2 - p.1) (m, b) ⟨Nat.le_refl _, Nat.le_of_lt hmb, Nat.le_refl _, fun q h1 h2 => by simp only at h2; omega, fun q h1 h2 => by simp only at h1; omega⟩
      ⟨rfl, by first | exact fun _ => rfl | exact fun _ => by with_unfolding_all rfl | exact mem_one | exact mem_two | exact mem_three, by repeat' (first | exact slots_nil | exact .inl rfl | exact .inr (.inl ⟨_, rfl, rfl⟩) | apply slots_cons)⟩ (fun p hp => ?_)
    obtain ⟨i, j⟩ := p
    obtain ⟨p1, p2, p3, p4, p5⟩ := hp
    simp only at p1 p2 p3 p4 p5
    dsimp only
    by_cases hlt : i < j
    · have hsh := shr_half (a := i) (b := j) (by omega)
      have hh1 : i ≤ (i + j) / 2 ∧ (i + j) / 2 < j := by omega
      generalize (i + j) / 2 = h at hsh hh1
      have h1 := vgetM (us := xs) (i := (h : Int)) rfl (show h < xs.length by omega)
      have h2 := vgetM (us := xs) (i := (a : Int)) rfl (show a < xs.length by omega)
      have hc := vec_Compare (vat xs h) (vat xs a)
      by_cases hlt2 : (vat xs h).cmp (vat xs a) < 0
      · repeat' (first
    | refine DWS_seq ?_
    | refine DWS_region ?_
    | refine DWS_draw ?_
    | refine dnilP ?_
    | refine dnilD (by kernel_rfl) ?_
    | refine then_normal ?_
    | refine then_exit ?_
    | refine then_ret ?_
    | refine DWS_block ?_
    | refine blk_normal ?_
    | refine blk_ret ?_
    | refine blk_hit rfl ?_
    | refine blk_miss rfl ?_
    | refine loopS_exit ?_
    | refine loopS_ret ?_
    | refine DWS_ret ?_
    | refine DWS_exit ?_
    | refine DWS_skip ?_
    | refine DWS_cond_t rfl ?_
    | refine DWS_cond_f rfl ?_
    | (apply dpC rfl; case h => first | exact S_callv rfl rfl hc | (apply Pu.ok; repeat' (first | rfl | exact .inK (by simp only [InK]; omega) | exact .inK (by simp only [InK]; simp at hg; omega) | exact .wr | constructor | decide | omega)))
    | refine dpOff rfl rfl ?_
    | ((first | apply dp rfl | apply dpOn rfl rfl | apply dpMay rfl rfl (by first | exact fun _ => trivial | exact fun h => ⟨h, trivial⟩ | exact fun h => ⟨h, h, trivial⟩ | exact fun h => ⟨h, h, h, trivial⟩)); case h => ((try intro hg); first | exact as_bool (S_lss rfl rfl) (decide_eq_true (by omega : (i : Int) < (j : Int))) | exact as_int (S_shr rfl rfl (by decide)) hsh | exact S_ixO rfl rfl rfl (by omega) (by omega) | exact S_load_rptr rfl rfl h1 rfl | exact S_load_rptr rfl rfl h2 rfl | exact as_bool (S_lss rfl rfl) (decide_eq_true hlt2) | exact S_callv rfl rfl hc | (apply Pu.ok; repeat' (first | rfl | exact .inK (by simp only [InK]; omega) | exact .inK (by simp only [InK]; simp at hg; omega) | exact .wr | constructor | decide | omega))))
    | refine dpickAnd rfl rfl rfl rfl rfl ?_ | refine dpickOr rfl rfl rfl rfl rfl ?_
    | (apply dt rfl; case h => first | exact S_load_rptr rfl rfl h1 rfl | exact S_load_rptr rfl rfl h2 rfl | exact S_alloc _ rfl | exact S_box _ rfl rfl)
    | (apply ds; case h => first | exact S_load_rptr rfl rfl h1 rfl | exact S_load_rptr rfl rfl h2 rfl | exact S_store rfl rfl rfl rfl rfl rfl)
    | (apply dm rfl; case h => first | exact S_load_rptr rfl rfl h1 rfl | exact S_load_rptr rfl rfl h2 rfl | exact M_d rfl | exact S_alloc 2001 rfl | exact S_alloc 2002 rfl | exact S_alloc 2003 rfl | exact S_alloc 2004 rfl | exact S_alloc 2005 rfl)
    | fail)
        exact loopS_again (h + 1, j) ⟨by simp only; omega, by simp only; omega, p3, fun q g1 g2 => Vec.lt_of_le (hs2.le g1 (by simp only at g2; omega) (by omega)) hlt2, p5⟩ (by simp only; omega) ⟨rfl, by first | exact fun _ => rfl | exact fun _ => by with_unfolding_all rfl | exact mem_one | exact mem_two | exact mem_three, by repeat' (first | exact slots_nil | exact .inl rfl | exact .inr (.inl ⟨_, rfl, rfl⟩) | apply slots_cons)⟩
      · repeat' (first
    | refine DWS_seq ?_
    | refine DWS_region ?_
    | refine DWS_draw ?_
    | refine dnilP ?_
    | refine dnilD (by kernel_rfl) ?_
    | refine then_normal ?_
    | refine then_exit ?_
    | refine then_ret ?_
    | refine DWS_block ?_
    | refine blk_normal ?_
    | refine blk_ret ?_
    | refine blk_hit rfl ?_
    | refine blk_miss rfl ?_
    | refine loopS_exit ?_
    | refine loopS_ret ?_
    | refine DWS_ret ?_
    | refine DWS_exit ?_
    | refine DWS_skip ?_
    | refine DWS_cond_t rfl ?_
    | refine DWS_cond_f rfl ?_
    | (apply dpC rfl; case h => first | exact S_callv rfl rfl hc | (apply Pu.ok; repeat' (first | rfl | exact .inK (by simp only [InK]; omega) | exact .inK (by simp only [InK]; simp at hg; omega) | exact .wr | constructor | decide | omega)))
    | refine dpOff rfl rfl ?_
    | ((first | apply dp rfl | apply dpOn rfl rfl | apply dpMay rfl rfl (by first | exact fun _ => trivial | exact fun h => ⟨h, trivial⟩ | exact fun h => ⟨h, h, trivial⟩ | exact fun h => ⟨h, h, h, trivial⟩)); case h => ((try intro hg); first | exact as_bool (S_lss rfl rfl) (decide_eq_true (by omega : (i : Int) < (j : Int))) | exact as_int (S_shr rfl rfl (by decide)) hsh | exact S_ixO rfl rfl rfl (by omega) (by omega) | exact S_load_rptr rfl rfl h1 rfl | exact S_load_rptr rfl rfl h2 rfl | exact as_bool (S_lss rfl rfl) (decide_eq_false hlt2) | exact S_callv rfl rfl hc | (apply Pu.ok; repeat' (first | rfl | exact .inK (by simp only [InK]; omega) | exact .inK (by simp only [InK]; simp at hg; omega) | exact .wr | constructor | decide | omega))))
    | refine dpickAnd rfl rfl rfl rfl rfl ?_ | refine dpickOr rfl rfl rfl rfl rfl ?_
    | (apply dt rfl; case h => first | exact S_load_rptr rfl rfl h1 rfl | exact S_load_rptr rfl rfl h2 rfl | exact S_alloc _ rfl | exact S_box _ rfl rfl)
    | (apply ds; case h => first | exact S_load_rptr rfl rfl h1 rfl | exact S_load_rptr rfl rfl h2 rfl | exact S_store rfl rfl rfl rfl rfl rfl)
    | (apply dm rfl; case h => first | exact S_load_rptr rfl rfl h1 rfl | exact S_load_rptr rfl rfl h2 rfl | exact M_d rfl | exact S_alloc 2001 rfl | exact S_alloc 2002 rfl | exact S_alloc 2003 rfl | exact S_alloc 2004 rfl | exact S_alloc 2005 rfl)
    | fail)
        exact loopS_again (i, h) ⟨p1, by simp only; omega, by simp only; omega, p4, fun q g1 g2 g3 => hlt2 (Vec.lt_of_le (hs2.le (by omega) g1 g2) g3)⟩ (by simp only; omega) ⟨rfl, by first | exact fun _ => rfl | exact fun _ => by with_unfolding_all rfl | exact mem_one | exact mem_two | exact mem_three, by repeat' (first | exact slots_nil | exact .inl rfl | exact .inr (.inl ⟨_, rfl, rfl⟩) | apply slots_cons)⟩
    · have hij : i = j := by omega
      subst hij
      repeat' (first
    | refine DWS_seq ?_
    | refine DWS_region ?_
    | refine DWS_draw ?_
    | refine dnilP ?_
    | refine dnilD (by kernel_rfl) ?_
    | refine then_normal ?_
    | refine then_exit ?_
    | refine then_ret ?_
    | refine DWS_block ?_
    | refine blk_normal ?_
    | refine blk_ret ?_
    | refine blk_hit rfl ?_
    | refine blk_miss rfl ?_
    | refine loopS_exit ?_
    | refine loopS_ret ?_
    | refine DWS_ret ?_
    | refine DWS_exit ?_
    | refine DWS_skip ?_
    | refine DWS_cond_t rfl ?_
    | refine DWS_cond_f rfl ?_
    | (apply dpC rfl; case h => first | (apply Pu.ok; repeat' (first | rfl | exact .inK (by simp only [InK]; omega) | exact .inK (by simp only [InK]; simp at hg; omega) | exact .wr | constructor | decide | omega)))
    | refine dpOff rfl rfl ?_
    | ((first | apply dp rfl | apply dpOn rfl rfl | apply dpMay rfl rfl (by first | exact fun _ => trivial | exact fun h => ⟨h, trivial⟩ | exact fun h => ⟨h, h, trivial⟩ | exact fun h => ⟨h, h, h, trivial⟩)); case h => ((try intro hg); first | exact as_bool (S_lss rfl rfl) (decide_eq_false (by omega : ¬ (i : Int) < (i : Int))) | (apply Pu.ok; repeat' (first | rfl | exact .inK (by simp only [InK]; omega) | exact .inK (by simp only [InK]; simp at hg; omega) | exact .wr | constructor | decide | omega))))
    | refine dpickAnd rfl rfl rfl rfl rfl ?_ | refine dpickOr rfl rfl rfl rfl rfl ?_
    | (apply dt rfl; case h => first | exact S_alloc _ rfl | exact S_box _ rfl rfl)
    | (apply ds; case h => first | exact S_store rfl rfl rfl rfl rfl rfl)
    | (apply dm rfl; case h => first | exact M_d rfl | exact S_alloc 2001 rfl | exact S_alloc 2002 rfl | exact S_alloc 2003 rfl | exact S_alloc 2004 rfl | exact S_alloc 2005 rfl)
    | fail)
      refine DWS_loop (fun q : Nat × List Vec => ⟨[(0, .own 1000 0 0 xs.length), (10, .dat false (.int .i64 i)), (13, .dat false (.int .i64 q.1))], [(1000, .row 0 false true 4 (q.2.map Vec.cells))], 220⟩)
        (fun q => a ≤ q.1 ∧ q.1 ≤ i - 1 ∧ Up xs q.2 a q.1) (fun q => i - 1 - q.1) (a, xs) ⟨Nat.le_refl _, by simp only; omega, Up.start xs a⟩
        ⟨rfl, by first | exact fun _ => rfl | exact fun _ => by with_unfolding_all rfl | exact mem_one | exact mem_two | exact mem_three, by repeat' (first | exact slots_nil | exact .inl rfl | exact .inr (.inl ⟨_, rfl, rfl⟩) | apply slots_cons)⟩ (fun q hq => ?_)
      obtain ⟨k, us⟩ := q
      obtain ⟨q1, q2, hU⟩ := hq
      simp only at q1 q2 hU
      dsimp only
      have hul := hU.p.length_eq
      by_cases hk : k < i - 1
      · have e2 : (k : Int) + 1 = ((k + 1 : Nat) : Int) := by omega
        have h1 := vgetM (us := us) (i := (k : Int)) rfl (show k < us.length by omega)
        have h2 := vgetM e2 (show k + 1 < us.length by omega)
        have g1 := vget (us := us) (i := (k : Int)) rfl (show k < us.length by omega)
        have g2 : (us.set ((k : Int)).toNat (vat us (k + 1)))[((k : Int) + 1).toNat]? = some (vat (us.set k (vat us (k + 1))) (k + 1)) := by
          rw [Int.toNat_natCast]
          exact vget e2 (by rw [List.length_set]; omega)
        have hs := hU.step q1 (by omega)
        repeat' (first
    | refine DWS_seq ?_
    | refine DWS_region ?_
    | refine DWS_draw ?_
    | refine dnilP ?_
    | refine dnilD (by kernel_rfl) ?_
    | refine then_normal ?_
    | refine then_exit ?_
    | refine then_ret ?_
    | refine DWS_block ?_
    | refine blk_normal ?_
    | refine blk_ret ?_
    | refine blk_hit rfl ?_
    | refine blk_miss rfl ?_
    | refine loopS_exit ?_
    | refine loopS_ret ?_
    | refine DWS_ret ?_
    | refine DWS_exit ?_
    | refine DWS_skip ?_
    | refine DWS_cond_t rfl ?_
    | refine DWS_cond_f rfl ?_
    | (apply dpC rfl; case h => first | (apply Pu.ok; repeat' (first | rfl | exact .inK (by simp only [InK]; omega) | exact .inK (by simp only [InK]; simp at hg; omega) | exact .wr | constructor | decide | omega)))
    | refine dpOff rfl rfl ?_
    | ((first | apply dp rfl | apply dpOn rfl rfl | apply dpMay rfl rfl (by first | exact fun _ => trivial | exact fun h => ⟨h, trivial⟩ | exact fun h => ⟨h, h, trivial⟩ | exact fun h => ⟨h, h, h, trivial⟩)); case h => ((try intro hg); first | exact as_bool (S_lss rfl rfl) (decide_eq_true (by omega : (k : Int) < (i : Int) - 1)) | exact S_ixO rfl rfl rfl (by omega) (by omega) | exact S_load_rptr rfl rfl h1 rfl | exact S_load_rptr rfl rfl h2 rfl | exact S_storeM (f := Vec.cells) (a := vat us (k + 1)) rfl rfl g1 rfl rfl (.inr ⟨rfl, inferInstance⟩) rfl rfl | exact S_storeM (f := Vec.cells) (a := vat us k) rfl rfl g2 rfl rfl (.inr ⟨rfl, inferInstance⟩) rfl rfl | (apply Pu.ok; repeat' (first | rfl | exact .inK (by simp only [InK]; omega) | exact .inK (by simp only [InK]; simp at hg; omega) | exact .wr | constructor | decide | omega))))
    | refine dpickAnd rfl rfl rfl rfl rfl ?_ | refine dpickOr rfl rfl rfl rfl rfl ?_
    | (apply dt rfl; case h => first | exact S_load_rptr rfl rfl h1 rfl | exact S_load_rptr rfl rfl h2 rfl | exact S_storeM (f := Vec.cells) (a := vat us (k + 1)) rfl rfl g1 rfl rfl (.inr ⟨rfl, inferInstance⟩) rfl rfl | exact S_storeM (f := Vec.cells) (a := vat us k) rfl rfl g2 rfl rfl (.inr ⟨rfl, inferInstance⟩) rfl rfl | exact S_alloc _ rfl | exact S_box _ rfl rfl)
    | (apply ds; case h => first | exact S_load_rptr rfl rfl h1 rfl | exact S_load_rptr rfl rfl h2 rfl | exact S_storeM (f := Vec.cells) (a := vat us (k + 1)) rfl rfl g1 rfl rfl (.inr ⟨rfl, inferInstance⟩) rfl rfl | exact S_storeM (f := Vec.cells) (a := vat us k) rfl rfl g2 rfl rfl (.inr ⟨rfl, inferInstance⟩) rfl rfl | exact S_store rfl rfl rfl rfl rfl rfl)
    | (apply dm rfl; case h => first | exact S_load_rptr rfl rfl h1 rfl | exact S_load_rptr rfl rfl h2 rfl | exact S_storeM (f := Vec.cells) (a := vat us (k + 1)) rfl rfl g1 rfl rfl (.inr ⟨rfl, inferInstance⟩) rfl rfl | exact S_storeM (f := Vec.cells) (a := vat us k) rfl rfl g2 rfl rfl (.inr ⟨rfl, inferInstance⟩) rfl rfl | exact M_d rfl | exact S_alloc 2001 rfl | exact S_alloc 2002 rfl | exact S_alloc 2003 rfl | exact S_alloc 2004 rfl | exact S_alloc 2005 rfl)
    | fail)
        refine loopS_again (k + 1, swp us k (k + 1)) ⟨by simp only; omega, by simp only; omega, hs⟩ (by simp only; omega) ?_
        have hsw : (us.set ((k : Int)).toNat (vat us (k + 1))).set ((k : Int) + 1).toNat (vat us k) = swp us k (k + 1) := by
          rw [Int.toNat_natCast, show ((k : Int) + 1).toNat = k + 1 by omega]
          with_unfolding_all rfl
        rw [← hsw]
        exact ⟨rfl, by first | exact fun _ => rfl | exact fun _ => by with_unfolding_all rfl | exact mem_one | exact mem_two | exact mem_three, by repeat' (first | exact slots_nil | exact .inl rfl | exact .inr (.inl ⟨_, rfl, rfl⟩) | apply slots_cons)⟩
      · have hki : k = i - 1 := by omega
        have hm' : m = a + 1 := by omega
        subst hki
        subst hm'
        rw [← hU.stop p1 p3 hb hs2 p4 p5]
        repeat' (first
    | refine DWS_seq ?_
    | refine DWS_region ?_
    | refine DWS_draw ?_
    | refine dnilP ?_
    | refine dnilD (by kernel_rfl) ?_
    | refine then_normal ?_
    | refine then_exit ?_
    | refine then_ret ?_
    | refine DWS_block ?_
    | refine blk_normal ?_
    | refine blk_ret ?_
    | refine blk_hit rfl ?_
    | refine blk_miss rfl ?_
    | refine loopS_exit ?_
    | refine loopS_ret ?_
    | refine DWS_ret ?_
    | refine DWS_exit ?_
    | refine DWS_skip ?_
    | refine DWS_cond_t rfl ?_
    | refine DWS_cond_f rfl ?_
    | (apply dpC rfl; case h => first | (apply Pu.ok; repeat' (first | rfl | exact .inK (by simp only [InK]; omega) | exact .inK (by simp only [InK]; simp at hg; omega) | exact .wr | constructor | decide | omega)))
    | refine dpOff rfl rfl ?_
    | ((first | apply dp rfl | apply dpOn rfl rfl | apply dpMay rfl rfl (by first | exact fun _ => trivial | exact fun h => ⟨h, trivial⟩ | exact fun h => ⟨h, h, trivial⟩ | exact fun h => ⟨h, h, h, trivial⟩)); case h => ((try intro hg); first | exact as_bool (S_lss rfl rfl) (decide_eq_false (by omega : ¬ ((i - 1 : Nat) : Int) < (i : Int) - 1)) | (apply Pu.ok; repeat' (first | rfl | exact .inK (by simp only [InK]; omega) | exact .inK (by simp only [InK]; simp at hg; omega) | exact .wr | constructor | decide | omega))))
    | refine dpickAnd rfl rfl rfl rfl rfl ?_ | refine dpickOr rfl rfl rfl rfl rfl ?_
    | (apply dt rfl; case h => first | exact S_alloc _ rfl | exact S_box _ rfl rfl)
    | (apply ds; case h => first | exact S_store rfl rfl rfl rfl rfl rfl)
    | (apply dm rfl; case h => first | exact M_d rfl | exact S_alloc 2001 rfl | exact S_alloc 2002 rfl | exact S_alloc 2003 rfl | exact S_alloc 2004 rfl | exact S_alloc 2005 rfl)
    | fail)
        exact endI_r (by first | exact fun _ => rfl | exact mem_one | exact mem_two | exact mem_three)
  by_cases hb1 : b - m = 1
  · repeat' (first
    | refine DWS_seq ?_
    | refine DWS_region ?_
    | refine DWS_draw ?_
    | refine dnilP ?_
    | refine dnilD (by kernel_rfl) ?_
    | refine then_normal ?_
    | refine then_exit ?_
    | refine then_ret ?_
    | refine DWS_block ?_
    | refine blk_normal ?_
    | refine blk_ret ?_
    | refine blk_hit rfl ?_
    | refine blk_miss rfl ?_
    | refine loopS_exit ?_
    | refine loopS_ret ?_
    | refine DWS_ret ?_
    | refine DWS_exit ?_
    | refine DWS_skip ?_
    | refine DWS_cond_t rfl ?_
    | refine DWS_cond_f rfl ?_
    | (apply dpC rfl; case h => first | (apply Pu.ok; repeat' (first | rfl | exact .inK (by simp only [InK]; omega) | exact .inK (by simp only [InK]; simp at hg; omega) | exact .wr | constructor | decide | omega)))
    | refine dpOff rfl rfl ?_
    | ((first | apply dp rfl | apply dpOn rfl rfl | apply dpMay rfl rfl (by first | exact fun _ => trivial | exact fun h => ⟨h, trivial⟩ | exact fun h => ⟨h, h, trivial⟩ | exact fun h => ⟨h, h, h, trivial⟩)); case h => ((try intro hg); first | exact as_bool (S_eql rfl rfl) (decide_eq_false (by omega : ¬ (m : Int) - (a : Int) = 1)) | exact as_bool (S_eql rfl rfl) (decide_eq_true (by omega : (b : Int) - (m : Int) = 1)) | (apply Pu.ok; repeat' (first | rfl | exact .inK (by simp only [InK]; omega) | exact .inK (by simp only [InK]; simp at hg; omega) | exact .wr | constructor | decide | omega))))
    | refine dpickAnd rfl rfl rfl rfl rfl ?_ | refine dpickOr rfl rfl rfl rfl rfl ?_
    | (apply dt rfl; case h => first | exact S_alloc _ rfl | exact S_box _ rfl rfl)
    | (apply ds; case h => first | exact S_store rfl rfl rfl rfl rfl rfl)
    | (apply dm rfl; case h => first | exact M_d rfl | exact S_alloc 2001 rfl | exact S_alloc 2002 rfl | exact S_alloc 2003 rfl | exact S_alloc 2004 rfl | exact S_alloc 2005 rfl)
    | fail)
    refine DWS_loop (fun p : Nat × Nat => ⟨[(0, .own 1000 0 0 xs.length), (2, .dat false (.int .i64 m)), (4, .dat false cmpF), (14, .dat false (.int .i64 p.1)), (15, .dat false (.int .i64 p.2))], [(1000, .row 0 false true 4 (xs.map Vec.cells))], 220⟩)
      (fun p => a ≤ p.1 ∧ p.1 ≤ p.2 ∧ p.2 ≤ m ∧ (∀ q, a ≤ q → q < p.1 → ¬ (vat xs m).cmp (vat xs q) < 0) ∧ ∀ q, p.2 ≤ q → q < m → (vat xs m).cmp (vat xs q) < 0) (fun p => p.2 - p.1) (a, m) ⟨Nat.le_refl _, Nat.le_of_lt ham, Nat.le_refl _, fun q h1 h2 => by simp only at h2; omega, fun q h1 h2 => by simp only at h1; omega⟩
      ⟨rfl, by first | exact fun _ => rfl | exact fun _ => by with_unfolding_all rfl | exact mem_one | exact mem_two | exact mem_three, by repeat' (first | exact slots_nil | exact .inl rfl | exact .inr (.inl ⟨_, rfl, rfl⟩) | apply slots_cons)⟩ (fun p hp => ?_)
    obtain ⟨i, j⟩ := p
    obtain ⟨p1, p2, p3, p4, p5⟩ := hp
    simp only at p1 p2 p3 p4 p5
    dsimp only
    by_cases hlt : i < j
    · have hsh := shr_half (a := i) (b := j) (by omega)
      have hh1 : i ≤ (i + j) / 2 ∧ (i + j) / 2 < j := by omega
      generalize (i + j) / 2 = h at hsh hh1
      have h1 := vgetM (us := xs) (i := (h : Int)) rfl (show h < xs.length by omega)
      have h2 := vgetM (us := xs) (i := (m : Int)) rfl (show m < xs.length by omega)
      have hc := vec_Compare (vat xs m) (vat xs h)
      by_cases hlt2 : (vat xs m).cmp (vat xs h) < 0
      · repeat' (first
    | refine DWS_seq ?_
    | refine DWS_region ?_
    | refine DWS_draw ?_
    | refine dnilP ?_
    | refine dnilD (by kernel_rfl) ?_
    | refine then_normal ?_
    | refine then_exit ?_
    | refine then_ret ?_
    | refine DWS_block ?_
    | refine blk_normal ?_
    | refine blk_ret ?_
    | refine blk_hit rfl ?_
    | refine blk_miss rfl ?_
    | refine loopS_exit ?_
    | refine loopS_ret ?_
    | refine DWS_ret ?_
    | refine DWS_exit ?_
    | refine DWS_skip ?_
    | refine DWS_cond_t rfl ?_
    | refine DWS_cond_f rfl ?_
    | (apply dpC rfl; case h => first | exact S_callv rfl rfl hc | (apply Pu.ok; repeat' (first | rfl | exact .inK (by simp only [InK]; omega) | exact .inK (by simp only [InK]; simp at hg; omega) | exact .wr | constructor | decide | omega)))
    | refine dpOff rfl rfl ?_
    | ((first | apply dp rfl | apply dpOn rfl rfl | apply dpMay rfl rfl (by first | exact fun _ => trivial | exact fun h => ⟨h, trivial⟩ | exact fun h => ⟨h, h, trivial⟩ | exact fun h => ⟨h, h, h, trivial⟩)); case h => ((try intro hg); first | exact as_bool (S_lss rfl rfl) (decide_eq_true (by omega : (i : Int) < (j : Int))) | exact as_int (S_shr rfl rfl (by decide)) hsh | exact S_ixO rfl rfl rfl (by omega) (by omega) | exact S_load_rptr rfl rfl h1 rfl | exact S_load_rptr rfl rfl h2 rfl | exact as_bool (S_lss rfl rfl) (decide_eq_true hlt2) | exact S_callv rfl rfl hc | (apply Pu.ok; repeat' (first | rfl | exact .inK (by simp only [InK]; omega) | exact .inK (by simp only [InK]; simp at hg; omega) | exact .wr | constructor | decide | omega))))
    | refine dpickAnd rfl rfl rfl rfl rfl ?_ | refine dpickOr rfl rfl rfl rfl rfl ?_
    | (apply dt rfl; case h => first | exact S_load_rptr rfl rfl h1 rfl | exact S_load_rptr rfl rfl h2 rfl | exact S_alloc _ rfl | exact S_box _ rfl rfl)
    | (apply ds; case h => first | exact S_load_rptr rfl rfl h1 rfl | exact S_load_rptr rfl rfl h2 rfl | exact S_store rfl rfl rfl rfl rfl rfl)
    | (apply dm rfl; case h => first | exact S_load_rptr rfl rfl h1 rfl | exact S_load_rptr rfl rfl h2 rfl | exact M_d rfl | exact S_alloc 2001 rfl | exact S_alloc 2002 rfl | exact S_alloc 2003 rfl | exact S_alloc 2004 rfl | exact S_alloc 2005 rfl)
    | fail)
        exact loopS_again (i, h) ⟨p1, by simp only; omega, by simp only; omega, p4, fun q g1 g2 => Vec.lt_of_lt hlt2 (hs1.le (by omega) g1 g2)⟩ (by simp only; omega) ⟨rfl, by first | exact fun _ => rfl | exact fun _ => by with_unfolding_all rfl | exact mem_one | exact mem_two | exact mem_three, by repeat' (first | exact slots_nil | exact .inl rfl | exact .inr (.inl ⟨_, rfl, rfl⟩) | apply slots_cons)⟩
      · repeat' (first
    | refine DWS_seq ?_
    | refine DWS_region ?_
    | refine DWS_draw ?_
    | refine dnilP ?_
    | refine dnilD (by kernel_rfl) ?_
    | refine then_normal ?_
    | refine then_exit ?_
    | refine then_ret ?_
    | refine DWS_block ?_
    | refine blk_normal ?_
    | refine blk_ret ?_
    | refine blk_hit rfl ?_
    | refine blk_miss rfl ?_
    | refine loopS_exit ?_
    | refine loopS_ret ?_
    | refine DWS_ret ?_
    | refine DWS_exit ?_
    | refine DWS_skip ?_
    | refine DWS_cond_t rfl ?_
    | refine DWS_cond_f rfl ?_
    | (apply dpC rfl; case h => first | exact S_callv rfl rfl hc | (apply Pu.ok; repeat' (first | rfl | exact .inK (by simp only [InK]; omega) | exact .inK (by simp only [InK]; simp at hg; omega) | exact .wr | constructor | decide | omega)))
    | refine dpOff rfl rfl ?_
    | ((first | apply dp rfl | apply dpOn rfl rfl | apply dpMay rfl rfl (by first | exact fun _ => trivial | exact fun h => ⟨h, trivial⟩ | exact fun h => ⟨h, h, trivial⟩ | exact fun h => ⟨h, h, h, trivial⟩)); case h => ((try intro hg); first | exact as_bool (S_lss rfl rfl) (decide_eq_true (by omega : (i : Int) < (j : Int))) | exact as_int (S_shr rfl rfl (by decide)) hsh | exact S_ixO rfl rfl rfl (by omega) (by omega) | exact S_load_rptr rfl rfl h1 rfl | exact S_load_rptr rfl rfl h2 rfl | exact as_bool (S_lss rfl rfl) (decide_eq_false hlt2) | exact S_callv rfl rfl hc | (apply Pu.ok; repeat' (first | rfl | exact .inK (by simp only [InK]; omega) | exact .inK (by simp only [InK]; simp at hg; omega) | exact .wr | constructor | decide | omega))))
    | refine dpickAnd rfl rfl rfl rfl rfl ?_ | refine dpickOr rfl rfl rfl rfl rfl ?_
    | (apply dt rfl; case h => first | exact S_load_rptr rfl rfl h1 rfl | exact S_load_rptr rfl rfl h2 rfl | exact S_alloc _ rfl | exact S_box _ rfl rfl)
    | (apply ds; case h => first | exact S_load_rptr rfl rfl h1 rfl | exact S_load_rptr rfl rfl h2 rfl | exact S_store rfl rfl rfl rfl rfl rfl)
    | (apply dm rfl; case h => first | exact S_load_rptr rfl rfl h1 rfl | exact S_load_rptr rfl rfl h2 rfl | exact M_d rfl | exact S_alloc 2001 rfl | exact S_alloc 2002 rfl | exact S_alloc 2003 rfl | exact S_alloc 2004 rfl | exact S_alloc 2005 rfl)
    | fail)
        exact loopS_again (h + 1, j) ⟨by simp only; omega, by simp only; omega, p3, fun q g1 g2 g3 => hlt2 (Vec.lt_of_lt g3 (hs1.le g1 (by simp only at g2; omega) (by omega))), p5⟩ (by simp only; omega) ⟨rfl, by first | exact fun _ => rfl | exact fun _ => by with_unfolding_all rfl | exact mem_one | exact mem_two | exact mem_three, by repeat' (first | exact slots_nil | exact .inl rfl | exact .inr (.inl ⟨_, rfl, rfl⟩) | apply slots_cons)⟩
    · have hij : i = j := by omega
      subst hij
      repeat' (first
    | refine DWS_seq ?_
    | refine DWS_region ?_
    | refine DWS_draw ?_
    | refine dnilP ?_
    | refine dnilD (by kernel_rfl) ?_
    | refine then_normal ?_
    | refine then_exit ?_
    | refine then_ret ?_
    | refine DWS_block ?_
    | refine blk_normal ?_
    | refine blk_ret ?_
    | refine blk_hit rfl ?_
    | refine blk_miss rfl ?_
    | refine loopS_exit ?_
    | refine loopS_ret ?_
    | refine DWS_ret ?_
    | refine DWS_exit ?_
    | refine DWS_skip ?_
    | refine DWS_cond_t rfl ?_
    | refine DWS_cond_f rfl ?_
    | (apply dpC rfl; case h => first | (apply Pu.ok; repeat' (first | rfl | exact .inK (by simp only [InK]; omega) | exact .inK (by simp only [InK]; simp at hg; omega) | exact .wr | constructor | decide | omega)))
    | refine dpOff rfl rfl ?_
    | ((first | apply dp rfl | apply dpOn rfl rfl | apply dpMay rfl rfl (by first | exact fun _ => trivial | exact fun h => ⟨h, trivial⟩ | exact fun h => ⟨h, h, trivial⟩ | exact fun h => ⟨h, h, h, trivial⟩)); case h => ((try intro hg); first | exact as_bool (S_lss rfl rfl) (decide_eq_false (by omega : ¬ (i : Int) < (i : Int))) | (apply Pu.ok; repeat' (first | rfl | exact .inK (by simp only [InK]; omega) | exact .inK (by simp only [InK]; simp at hg; omega) | exact .wr | constructor | decide | omega))))
    | refine dpickAnd rfl rfl rfl rfl rfl ?_ | refine dpickOr rfl rfl rfl rfl rfl ?_
    | (apply dt rfl; case h => first | exact S_alloc _ rfl | exact S_box _ rfl rfl)
    | (apply ds; case h => first | exact S_store rfl rfl rfl rfl rfl rfl)
    | (apply dm rfl; case h => first | exact M_d rfl | exact S_alloc 2001 rfl | exact S_alloc 2002 rfl | exact S_alloc 2003 rfl | exact S_alloc 2004 rfl | exact S_alloc 2005 rfl)
    | fail)
      refine DWS_loop (fun q : Nat × List Vec => ⟨[(0, .own 1000 0 0 xs.length), (14, .dat false (.int .i64 i)), (17, .dat false (.int .i64 q.1))], [(1000, .row 0 false true 4 (q.2.map Vec.cells))], 220⟩)
        (fun q => i ≤ q.1 ∧ q.1 ≤ m ∧ Dn xs q.2 m q.1) (fun q => q.1 - i) (m, xs) ⟨p3, Nat.le_refl _, Dn.start xs m⟩
        ⟨rfl, by first | exact fun _ => rfl | exact fun _ => by with_unfolding_all rfl | exact mem_one | exact mem_two | exact mem_three, by repeat' (first | exact slots_nil | exact .inl rfl | exact .inr (.inl ⟨_, rfl, rfl⟩) | apply slots_cons)⟩ (fun q hq => ?_)
      obtain ⟨k, us⟩ := q
      obtain ⟨q1, q2, hU⟩ := hq
      simp only at q1 q2 hU
      dsimp only
      have hul := hU.p.length_eq
      by_cases hk : i < k
      · have e2 : (k : Int) - 1 = ((k - 1 : Nat) : Int) := by omega
        have h1 := vgetM (us := us) (i := (k : Int)) rfl (show k < us.length by omega)
        have h2 := vgetM e2 (show k - 1 < us.length by omega)
        have g1 := vget (us := us) (i := (k : Int)) rfl (show k < us.length by omega)
        have g2 : (us.set ((k : Int)).toNat (vat us (k - 1)))[((k : Int) - 1).toNat]? = some (vat (us.set k (vat us (k - 1))) (k - 1)) := by
          rw [Int.toNat_natCast]
          exact vget e2 (by rw [List.length_set]; omega)
        have hs := hU.step (by omega) q2 (by omega)
        repeat' (first
    | refine DWS_seq ?_
    | refine DWS_region ?_
    | refine DWS_draw ?_
    | refine dnilP ?_
    | refine dnilD (by kernel_rfl) ?_
    | refine then_normal ?_
    | refine then_exit ?_
    | refine then_ret ?_
    | refine DWS_block ?_
    | refine blk_normal ?_
    | refine blk_ret ?_
    | refine blk_hit rfl ?_
    | refine blk_miss rfl ?_
    | refine loopS_exit ?_
    | refine loopS_ret ?_
    | refine DWS_ret ?_
    | refine DWS_exit ?_
    | refine DWS_skip ?_
    | refine DWS_cond_t rfl ?_
    | refine DWS_cond_f rfl ?_
    | (apply dpC rfl; case h => first | (apply Pu.ok; repeat' (first | rfl | exact .inK (by simp only [InK]; omega) | exact .inK (by simp only [InK]; simp at hg; omega) | exact .wr | constructor | decide | omega)))
    | refine dpOff rfl rfl ?_
    | ((first | apply dp rfl | apply dpOn rfl rfl | apply dpMay rfl rfl (by first | exact fun _ => trivial | exact fun h => ⟨h, trivial⟩ | exact fun h => ⟨h, h, trivial⟩ | exact fun h => ⟨h, h, h, trivial⟩)); case h => ((try intro hg); first | exact as_bool (S_gtr rfl rfl) (decide_eq_true (by omega : (i : Int) < (k : Int))) | exact S_ixO rfl rfl rfl (by omega) (by omega) | exact S_load_rptr rfl rfl h1 rfl | exact S_load_rptr rfl rfl h2 rfl | exact S_storeM (f := Vec.cells) (a := vat us (k - 1)) rfl rfl g1 rfl rfl (.inr ⟨rfl, inferInstance⟩) rfl rfl | exact S_storeM (f := Vec.cells) (a := vat us k) rfl rfl g2 rfl rfl (.inr ⟨rfl, inferInstance⟩) rfl rfl | (apply Pu.ok; repeat' (first | rfl | exact .inK (by simp only [InK]; omega) | exact .inK (by simp only [InK]; simp at hg; omega) | exact .wr | constructor | decide | omega))))
    | refine dpickAnd rfl rfl rfl rfl rfl ?_ | refine dpickOr rfl rfl rfl rfl rfl ?_
    | (apply dt rfl; case h => first | exact S_load_rptr rfl rfl h1 rfl | exact S_load_rptr rfl rfl h2 rfl | exact S_storeM (f := Vec.cells) (a := vat us (k - 1)) rfl rfl g1 rfl rfl (.inr ⟨rfl, inferInstance⟩) rfl rfl | exact S_storeM (f := Vec.cells) (a := vat us k) rfl rfl g2 rfl rfl (.inr ⟨rfl, inferInstance⟩) rfl rfl | exact S_alloc _ rfl | exact S_box _ rfl rfl)
    | (apply ds; case h => first | exact S_load_rptr rfl rfl h1 rfl | exact S_load_rptr rfl rfl h2 rfl | exact S_storeM (f := Vec.cells) (a := vat us (k - 1)) rfl rfl g1 rfl rfl (.inr ⟨rfl, inferInstance⟩) rfl rfl | exact S_storeM (f := Vec.cells) (a := vat us k) rfl rfl g2 rfl rfl (.inr ⟨rfl, inferInstance⟩) rfl rfl | exact S_store rfl rfl rfl rfl rfl rfl)
    | (apply dm rfl; case h => first | exact S_load_rptr rfl rfl h1 rfl | exact S_load_rptr rfl rfl h2 rfl | exact S_storeM (f := Vec.cells) (a := vat us (k - 1)) rfl rfl g1 rfl rfl (.inr ⟨rfl, inferInstance⟩) rfl rfl | exact S_storeM (f := Vec.cells) (a := vat us k) rfl rfl g2 rfl rfl (.inr ⟨rfl, inferInstance⟩) rfl rfl | exact M_d rfl | exact S_alloc 2001 rfl | exact S_alloc 2002 rfl | exact S_alloc 2003 rfl | exact S_alloc 2004 rfl | exact S_alloc 2005 rfl)
    | fail)
        refine loopS_again (k - 1, swp us k (k - 1)) ⟨by simp only; omega, by simp only; omega, hs⟩ (by simp only; omega) ?_
        have hsw : (us.set ((k : Int)).toNat (vat us (k - 1))).set ((k : Int) - 1).toNat (vat us k) = swp us k (k - 1) := by
          rw [Int.toNat_natCast, show ((k : Int) - 1).toNat = k - 1 by omega]
          with_unfolding_all rfl
        rw [← hsw, ← e2]
        exact ⟨rfl, by first | exact fun _ => rfl | exact fun _ => by with_unfolding_all rfl | exact mem_one | exact mem_two | exact mem_three, by repeat' (first | exact slots_nil | exact .inl rfl | exact .inr (.inl ⟨_, rfl, rfl⟩) | apply slots_cons)⟩
      · have hki : k = i := by omega
        have hm' : b = m + 1 := by omega
        subst hki
        subst hm'
        rw [← hU.stop p1 p3 (by omega) hs1 p4 p5]
        repeat' (first
    | refine DWS_seq ?_
    | refine DWS_region ?_
    | refine DWS_draw ?_
    | refine dnilP ?_
    | refine dnilD (by kernel_rfl) ?_
    | refine then_normal ?_
    | refine then_exit ?_
    | refine then_ret ?_
    | refine DWS_block ?_
    | refine blk_normal ?_
    | refine blk_ret ?_
    | refine blk_hit rfl ?_
    | refine blk_miss rfl ?_
    | refine loopS_exit ?_
    | refine loopS_ret ?_
    | refine DWS_ret ?_
    | refine DWS_exit ?_
    | refine DWS_skip ?_
    | refine DWS_cond_t rfl ?_
    | refine DWS_cond_f rfl ?_
    | (apply dpC rfl; case h => first | (apply Pu.ok; repeat' (first | rfl | exact .inK (by simp only [InK]; omega) | exact .inK (by simp only [InK]; simp at hg; omega) | exact .wr | constructor | decide | omega)))
    | refine dpOff rfl rfl ?_
    | ((first | apply dp rfl | apply dpOn rfl rfl | apply dpMay rfl rfl (by first | exact fun _ => trivial | exact fun h => ⟨h, trivial⟩ | exact fun h => ⟨h, h, trivial⟩ | exact fun h => ⟨h, h, h, trivial⟩)); case h => ((try intro hg); first | exact as_bool (S_gtr rfl rfl) (decide_eq_false (by omega : ¬ (k : Int) < (k : Int))) | (apply Pu.ok; repeat' (first | rfl | exact .inK (by simp only [InK]; omega) | exact .inK (by simp only [InK]; simp at hg; omega) | exact .wr | constructor | decide | omega))))
    | refine dpickAnd rfl rfl rfl rfl rfl ?_ | refine dpickOr rfl rfl rfl rfl rfl ?_
    | (apply dt rfl; case h => first | exact S_alloc _ rfl | exact S_box _ rfl rfl)
    | (apply ds; case h => first | exact S_store rfl rfl rfl rfl rfl rfl)
    | (apply dm rfl; case h => first | exact M_d rfl | exact S_alloc 2001 rfl | exact S_alloc 2002 rfl | exact S_alloc 2003 rfl | exact S_alloc 2004 rfl | exact S_alloc 2005 rfl)
    | fail)
        exact endI_r (by first | exact fun _ => rfl | exact mem_one | exact mem_two | exact mem_three)
  have hsh0 := shr_half (a := a) (b := b) (by omega)
  have hmid0 : a < (a + b) / 2 ∧ (a + b) / 2 < b ∧ (a + b) / 2 - a ≤ b - (a + b) / 2 ∧ b - (a + b) / 2 ≤ (a + b) / 2 - a + 1 := by omega
  generalize hmd : (a + b) / 2 = mid at hsh0 hmid0
  obtain ⟨lo, hi, hlh⟩ : ∃ lo hi : Nat, (mid < m ∧ lo = mid + m - b ∧ hi = mid) ∨ (m ≤ mid ∧ lo = a ∧ hi = m) := by
    by_cases h : mid < m
    · exact ⟨_, _, .inl ⟨h, rfl, rfl⟩⟩
    · exact ⟨_, _, .inr ⟨by omega, rfl, rfl⟩⟩
  have hlh2 : a ≤ lo ∧ lo ≤ hi ∧ hi ≤ m ∧ hi ≤ mid ∧ mid + m - lo ≤ b := by omega
  repeat' (first
    | refine DWS_seq ?_
    | refine DWS_region ?_
    | refine DWS_draw ?_
    | refine dnilP ?_
    | refine dnilD (by kernel_rfl) ?_
    | refine then_normal ?_
    | refine then_exit ?_
    | refine then_ret ?_
    | refine DWS_block ?_
    | refine blk_normal ?_
    | refine blk_ret ?_
    | refine blk_hit rfl ?_
    | refine blk_miss rfl ?_
    | refine loopS_exit ?_
    | refine loopS_ret ?_
    | refine DWS_ret ?_
    | refine DWS_exit ?_
    | refine DWS_skip ?_
    | refine DWS_cond_t rfl ?_
    | refine DWS_cond_f rfl ?_
    | (apply dpC rfl; case h => first | (apply Pu.ok; repeat' (first | rfl | exact .inK (by simp only [InK]; omega) | exact .inK (by simp only [InK]; simp at hg; omega) | exact .wr | constructor | decide | omega)))
    | refine dpOff rfl rfl ?_
    | ((first | apply dp rfl | apply dpOn rfl rfl | apply dpMay rfl rfl (by first | exact fun _ => trivial | exact fun h => ⟨h, trivial⟩ | exact fun h => ⟨h, h, trivial⟩ | exact fun h => ⟨h, h, h, trivial⟩)); case h => ((try intro hg); first | exact as_bool (S_eql rfl rfl) (decide_eq_false (by omega : ¬ (m : Int) - (a : Int) = 1)) | exact as_bool (S_eql rfl rfl) (decide_eq_false (by omega : ¬ (b : Int) - (m : Int) = 1)) | exact as_int (S_shr rfl rfl (by decide)) hsh0 | (apply Pu.ok; repeat' (first | rfl | exact .inK (by simp only [InK]; omega) | exact .inK (by simp only [InK]; simp at hg; omega) | exact .wr | constructor | decide | omega))))
    | refine dpickAnd rfl rfl rfl rfl rfl ?_ | refine dpickOr rfl rfl rfl rfl rfl ?_
    | (apply dt rfl; case h => first | exact S_alloc _ rfl | exact S_box _ rfl rfl)
    | (apply ds; case h => first | exact S_store rfl rfl rfl rfl rfl rfl)
    | (apply dm rfl; case h => first | exact M_d rfl | exact S_alloc 2001 rfl | exact S_alloc 2002 rfl | exact S_alloc 2003 rfl | exact S_alloc 2004 rfl | exact S_alloc 2005 rfl)
    | fail)
  refine DWS_join ⟨[(0, .own 1000 0 0 xs.length), (1, .dat false (.int .i64 a)), (2, .dat false (.int .i64 m)), (3, .dat false (.int .i64 b)), (4, .dat false cmpF), (18, .dat false (.int .i64 mid)), (19, .dat false (.int .i64 ((mid : Int) + (m : Int)))), (20, .dat false (.int .i64 lo)), (21, .dat false (.int .i64 hi))], [(1000, .row 0 false true 4 (xs.map Vec.cells))], 220⟩ ?_ ?_
  · rcases hlh with ⟨h1, h2, h3⟩ | ⟨h1, h2, h3⟩
    · have e : ((lo : Nat) : Int) = (mid : Int) + (m : Int) - (b : Int) := by omega
      rw [e, h3]
      repeat' (first
    | (apply DWS_true rfl; case hb => exact decide_eq_true (by omega : (mid : Int) < (m : Int)))
    | refine DWS_seq ?_
    | refine DWS_region ?_
    | refine DWS_draw ?_
    | refine dnilP ?_
    | refine dnilD (by kernel_rfl) ?_
    | refine then_normal ?_
    | refine then_exit ?_
    | refine then_ret ?_
    | refine DWS_block ?_
    | refine blk_normal ?_
    | refine blk_ret ?_
    | refine blk_hit rfl ?_
    | refine blk_miss rfl ?_
    | refine loopS_exit ?_
    | refine loopS_ret ?_
    | refine DWS_ret ?_
    | refine DWS_exit ?_
    | refine DWS_skip ?_
    | refine DWS_cond_t rfl ?_
    | refine DWS_cond_f rfl ?_
    | (apply dpC rfl; case h => first | (apply Pu.ok; repeat' (first | rfl | exact .inK (by simp only [InK]; omega) | exact .inK (by simp only [InK]; simp at hg; omega) | exact .wr | constructor | decide | omega)))
    | refine dpOff rfl rfl ?_
    | ((first | apply dp rfl | apply dpOn rfl rfl | apply dpMay rfl rfl (by first | exact fun _ => trivial | exact fun h => ⟨h, trivial⟩ | exact fun h => ⟨h, h, trivial⟩ | exact fun h => ⟨h, h, h, trivial⟩)); case h => ((try intro hg); first | (apply Pu.ok; repeat' (first | rfl | exact .inK (by simp only [InK]; omega) | exact .inK (by simp only [InK]; simp at hg; omega) | exact .wr | constructor | decide | omega))))
    | refine dpickAnd rfl rfl rfl rfl rfl ?_ | refine dpickOr rfl rfl rfl rfl rfl ?_
    | (apply dt rfl; case h => first | exact S_alloc _ rfl | exact S_box _ rfl rfl)
    | (apply ds; case h => first | exact S_store rfl rfl rfl rfl rfl rfl)
    | (apply dm rfl; case h => first | exact M_d rfl | exact S_alloc 2001 rfl | exact S_alloc 2002 rfl | exact S_alloc 2003 rfl | exact S_alloc 2004 rfl | exact S_alloc 2005 rfl)
    | fail)
      exact norm_ok ⟨rfl, by first | exact fun _ => rfl | exact fun _ => by with_unfolding_all rfl | exact mem_one | exact mem_two | exact mem_three, by repeat' (first | exact slots_nil | exact .inl rfl | exact .inr (.inl ⟨_, rfl, rfl⟩) | apply slots_cons)⟩
    · rw [h2, h3]
      repeat' (first
    | (apply DWS_false rfl; case hb => exact decide_eq_false (by omega : ¬ (mid : Int) < (m : Int)))
    | refine DWS_seq ?_
    | refine DWS_region ?_
    | refine DWS_draw ?_
    | refine dnilP ?_
    | refine dnilD (by kernel_rfl) ?_
    | refine then_normal ?_
    | refine then_exit ?_
    | refine then_ret ?_
    | refine DWS_block ?_
    | refine blk_normal ?_
    | refine blk_ret ?_
    | refine blk_hit rfl ?_
    | refine blk_miss rfl ?_
    | refine loopS_exit ?_
    | refine loopS_ret ?_
    | refine DWS_ret ?_
    | refine DWS_exit ?_
    | refine DWS_skip ?_
    | refine DWS_cond_t rfl ?_
    | refine DWS_cond_f rfl ?_
    | (apply dpC rfl; case h => first | (apply Pu.ok; repeat' (first | rfl | exact .inK (by simp only [InK]; omega) | exact .inK (by simp only [InK]; simp at hg; omega) | exact .wr | constructor | decide | omega)))
    | refine dpOff rfl rfl ?_
    | ((first | apply dp rfl | apply dpOn rfl rfl | apply dpMay rfl rfl (by first | exact fun _ => trivial | exact fun h => ⟨h, trivial⟩ | exact fun h => ⟨h, h, trivial⟩ | exact fun h => ⟨h, h, h, trivial⟩)); case h => ((try intro hg); first | (apply Pu.ok; repeat' (first | rfl | exact .inK (by simp only [InK]; omega) | exact .inK (by simp only [InK]; simp at hg; omega) | exact .wr | constructor | decide | omega))))
    | refine dpickAnd rfl rfl rfl rfl rfl ?_ | refine dpickOr rfl rfl rfl rfl rfl ?_
    | (apply dt rfl; case h => first | exact S_alloc _ rfl | exact S_box _ rfl rfl)
    | (apply ds; case h => first | exact S_store rfl rfl rfl rfl rfl rfl)
    | (apply dm rfl; case h => first | exact M_d rfl | exact S_alloc 2001 rfl | exact S_alloc 2002 rfl | exact S_alloc 2003 rfl | exact S_alloc 2004 rfl | exact S_alloc 2005 rfl)
    | fail)
      exact norm_ok ⟨rfl, by first | exact fun _ => rfl | exact fun _ => by with_unfolding_all rfl | exact mem_one | exact mem_two | exact mem_three, by repeat' (first | exact slots_nil | exact .inl rfl | exact .inr (.inl ⟨_, rfl, rfl⟩) | apply slots_cons)⟩
  repeat' (first
    | refine DWS_seq ?_
    | refine DWS_region ?_
    | refine DWS_draw ?_
    | refine dnilP ?_
    | refine dnilD (by kernel_rfl) ?_
    | refine then_normal ?_
    | refine then_exit ?_
    | refine then_ret ?_
    | refine DWS_block ?_
    | refine blk_normal ?_
    | refine blk_ret ?_
    | refine blk_hit rfl ?_
    | refine blk_miss rfl ?_
    | refine loopS_exit ?_
    | refine loopS_ret ?_
    | refine DWS_ret ?_
    | refine DWS_exit ?_
    | refine DWS_skip ?_
    | refine DWS_cond_t rfl ?_
    | refine DWS_cond_f rfl ?_
    | (apply dpC rfl; case h => first | (apply Pu.ok; repeat' (first | rfl | exact .inK (by simp only [InK]; omega) | exact .inK (by simp only [InK]; simp at hg; omega) | exact .wr | constructor | decide | omega)))
    | refine dpOff rfl rfl ?_
    | ((first | apply dp rfl | apply dpOn rfl rfl | apply dpMay rfl rfl (by first | exact fun _ => trivial | exact fun h => ⟨h, trivial⟩ | exact fun h => ⟨h, h, trivial⟩ | exact fun h => ⟨h, h, h, trivial⟩)); case h => ((try intro hg); first | (apply Pu.ok; repeat' (first | rfl | exact .inK (by simp only [InK]; omega) | exact .inK (by simp only [InK]; simp at hg; omega) | exact .wr | constructor | decide | omega))))
    | refine dpickAnd rfl rfl rfl rfl rfl ?_ | refine dpickOr rfl rfl rfl rfl rfl ?_
    | (apply dt rfl; case h => first | exact S_alloc _ rfl | exact S_box _ rfl rfl)
    | (apply ds; case h => first | exact S_store rfl rfl rfl rfl rfl rfl)
    | (apply dm rfl; case h => first | exact M_d rfl | exact S_alloc 2001 rfl | exact S_alloc 2002 rfl | exact S_alloc 2003 rfl | exact S_alloc 2004 rfl | exact S_alloc 2005 rfl)
    | fail)
  refine DWS_loop (fun p : Nat × Nat => ⟨[(0, .own 1000 0 0 xs.length), (1, .dat false (.int .i64 a)), (2, .dat false (.int .i64 m)), (3, .dat false (.int .i64 b)), (4, .dat false cmpF), (18, .dat false (.int .i64 mid)), (19, .dat false (.int .i64 ((mid : Int) + (m : Int)))), (20, .dat false (.int .i64 p.1)), (21, .dat false (.int .i64 p.2)), (22, .dat true (.int .i64 ((mid : Int) + (m : Int) - 1)))], [(1000, .row 0 false true 4 (xs.map Vec.cells))], 220⟩)
    (fun p => lo ≤ p.1 ∧ p.1 ≤ p.2 ∧ p.2 ≤ hi ∧ (∀ q, lo ≤ q → q < p.1 → (vat xs q).le (vat xs (mid + m - 1 - q)) = true) ∧ ∀ q, p.2 ≤ q → q < hi → (vat xs (mid + m - 1 - q)).cmp (vat xs q) < 0) (fun p => p.2 - p.1) (lo, hi) ⟨Nat.le_refl _, hlh2.2.1, Nat.le_refl _, fun q h1 h2 => by simp only at h2; omega, fun q h1 h2 => by simp only at h1; omega⟩
    ⟨rfl, by first | exact fun _ => rfl | exact fun _ => by with_unfolding_all rfl | exact mem_one | exact mem_two | exact mem_three, by repeat' (first | exact slots_nil | exact .inl rfl | exact .inr (.inl ⟨_, rfl, rfl⟩) | apply slots_cons)⟩ (fun p hp => ?_)
  obtain ⟨st, r⟩ := p
  obtain ⟨p1, p2, p3, p4, p5⟩ := hp
  simp only at p1 p2 p3 p4 p5
  dsimp only
  by_cases hlt : st < r
  · have hsh := shr_half (a := st) (b := r) (by omega)
    have hh1 : st ≤ (st + r) / 2 ∧ (st + r) / 2 < r := by omega
    generalize (st + r) / 2 = h at hsh hh1
    have e1 : (mid : Int) + (m : Int) - 1 - (h : Int) = ((mid + m - 1 - h : Nat) : Int) := by omega
    have hbd : m ≤ mid + m - 1 - h ∧ mid + m - 1 - h < b := by omega
    have h1 := vgetM e1 (show mid + m - 1 - h < xs.length by omega)
    have h2 := vgetM (us := xs) (i := (h : Int)) rfl (show h < xs.length by omega)
    have hc := vec_Compare (vat xs (mid + m - 1 - h)) (vat xs h)
    by_cases hlt2 : (vat xs (mid + m - 1 - h)).cmp (vat xs h) < 0
    · repeat' (first
    | refine DWS_seq ?_
    | refine DWS_region ?_
    | refine DWS_draw ?_
    | refine dnilP ?_
    | refine dnilD (by kernel_rfl) ?_
    | refine then_normal ?_
    | refine then_exit ?_
    | refine then_ret ?_
    | refine DWS_block ?_
    | refine blk_normal ?_
    | refine blk_ret ?_
    | refine blk_hit rfl ?_
    | refine blk_miss rfl ?_
    | refine loopS_exit ?_
    | refine loopS_ret ?_
    | refine DWS_ret ?_
    | refine DWS_exit ?_
    | refine DWS_skip ?_
    | refine DWS_cond_t rfl ?_
    | refine DWS_cond_f rfl ?_
    | (apply dpC rfl; case h => first | exact S_callv rfl rfl hc | (apply Pu.ok; repeat' (first | rfl | exact .inK (by simp only [InK]; omega) | exact .inK (by simp only [InK]; simp at hg; omega) | exact .wr | constructor | decide | omega)))
    | refine dpOff rfl rfl ?_
    | ((first | apply dp rfl | apply dpOn rfl rfl | apply dpMay rfl rfl (by first | exact fun _ => trivial | exact fun h => ⟨h, trivial⟩ | exact fun h => ⟨h, h, trivial⟩ | exact fun h => ⟨h, h, h, trivial⟩)); case h => ((try intro hg); first | exact as_bool (S_lss rfl rfl) (decide_eq_true (by omega : (st : Int) < (r : Int))) | exact as_int (S_shr rfl rfl (by decide)) hsh | exact S_ixO rfl rfl rfl (by omega) (by omega) | exact S_load_rptr rfl rfl h1 rfl | exact S_load_rptr rfl rfl h2 rfl | exact as_bool (S_lss rfl rfl) (decide_eq_true hlt2) | exact S_callv rfl rfl hc | (apply Pu.ok; repeat' (first | rfl | exact .inK (by simp only [InK]; omega) | exact .inK (by simp only [InK]; simp at hg; omega) | exact .wr | constructor | decide | omega))))
    | refine dpickAnd rfl rfl rfl rfl rfl ?_ | refine dpickOr rfl rfl rfl rfl rfl ?_
    | (apply dt rfl; case h => first | exact S_load_rptr rfl rfl h1 rfl | exact S_load_rptr rfl rfl h2 rfl | exact S_alloc _ rfl | exact S_box _ rfl rfl)
    | (apply ds; case h => first | exact S_load_rptr rfl rfl h1 rfl | exact S_load_rptr rfl rfl h2 rfl | exact S_store rfl rfl rfl rfl rfl rfl)
    | (apply dm rfl; case h => first | exact S_load_rptr rfl rfl h1 rfl | exact S_load_rptr rfl rfl h2 rfl | exact M_d rfl | exact S_alloc 2001 rfl | exact S_alloc 2002 rfl | exact S_alloc 2003 rfl | exact S_alloc 2004 rfl | exact S_alloc 2005 rfl)
    | fail)
      exact loopS_again (st, h) ⟨p1, by simp only; omega, by simp only; omega, p4, fun q g1 g2 => Vec.lt_of_lt (Vec.lt_of_le (hs2.le (by omega) (by simp only at g1; omega) (by omega)) hlt2) (hs1.le (by omega) g1 (by omega))⟩ (by simp only; omega) ⟨rfl, by first | exact fun _ => rfl | exact fun _ => by with_unfolding_all rfl | exact mem_one | exact mem_two | exact mem_three, by repeat' (first | exact slots_nil | exact .inl rfl | exact .inr (.inl ⟨_, rfl, rfl⟩) | apply slots_cons)⟩
    · repeat' (first
    | refine DWS_seq ?_
    | refine DWS_region ?_
    | refine DWS_draw ?_
    | refine dnilP ?_
    | refine dnilD (by kernel_rfl) ?_
    | refine then_normal ?_
    | refine then_exit ?_
    | refine then_ret ?_
    | refine DWS_block ?_
    | refine blk_normal ?_
    | refine blk_ret ?_
    | refine blk_hit rfl ?_
    | refine blk_miss rfl ?_
    | refine loopS_exit ?_
    | refine loopS_ret ?_
    | refine DWS_ret ?_
    | refine DWS_exit ?_
    | refine DWS_skip ?_
    | refine DWS_cond_t rfl ?_
    | refine DWS_cond_f rfl ?_
    | (apply dpC rfl; case h => first | exact S_callv rfl rfl hc | (apply Pu.ok; repeat' (first | rfl | exact .inK (by simp only [InK]; omega) | exact .inK (by simp only [InK]; simp at hg; omega) | exact .wr | constructor | decide | omega)))
    | refine dpOff rfl rfl ?_
    | ((first | apply dp rfl | apply dpOn rfl rfl | apply dpMay rfl rfl (by first | exact fun _ => trivial | exact fun h => ⟨h, trivial⟩ | exact fun h => ⟨h, h, trivial⟩ | exact fun h => ⟨h, h, h, trivial⟩)); case h => ((try intro hg); first | exact as_bool (S_lss rfl rfl) (decide_eq_true (by omega : (st : Int) < (r : Int))) | exact as_int (S_shr rfl rfl (by decide)) hsh | exact S_ixO rfl rfl rfl (by omega) (by omega) | exact S_load_rptr rfl rfl h1 rfl | exact S_load_rptr rfl rfl h2 rfl | exact as_bool (S_lss rfl rfl) (decide_eq_false hlt2) | exact S_callv rfl rfl hc | (apply Pu.ok; repeat' (first | rfl | exact .inK (by simp only [InK]; omega) | exact .inK (by simp only [InK]; simp at hg; omega) | exact .wr | constructor | decide | omega))))
    | refine dpickAnd rfl rfl rfl rfl rfl ?_ | refine dpickOr rfl rfl rfl rfl rfl ?_
    | (apply dt rfl; case h => first | exact S_load_rptr rfl rfl h1 rfl | exact S_load_rptr rfl rfl h2 rfl | exact S_alloc _ rfl | exact S_box _ rfl rfl)
    | (apply ds; case h => first | exact S_load_rptr rfl rfl h1 rfl | exact S_load_rptr rfl rfl h2 rfl | exact S_store rfl rfl rfl rfl rfl rfl)
    | (apply dm rfl; case h => first | exact S_load_rptr rfl rfl h1 rfl | exact S_load_rptr rfl rfl h2 rfl | exact M_d rfl | exact S_alloc 2001 rfl | exact S_alloc 2002 rfl | exact S_alloc 2003 rfl | exact S_alloc 2004 rfl | exact S_alloc 2005 rfl)
    | fail)
      exact loopS_again (h + 1, r) ⟨by simp only; omega, by simp only; omega, p3, fun q g1 g2 => Vec.le_trans (hs1.le (by omega) (by simp only at g2; omega) (by omega)) (Vec.le_trans (Vec.not_lt hlt2) (hs2.le (by omega) (by simp only at g2; omega) (by omega))), p5⟩ (by simp only; omega) ⟨rfl, by first | exact fun _ => rfl | exact fun _ => by with_unfolding_all rfl | exact mem_one | exact mem_two | exact mem_three, by repeat' (first | exact slots_nil | exact .inl rfl | exact .inr (.inl ⟨_, rfl, rfl⟩) | apply slots_cons)⟩
  · have hij : st = r := by omega
    subst hij
    have een : (mid : Int) + (m : Int) - (st : Int) = ((mid + m - st : Nat) : Int) := by omega
    obtain ⟨en, hen⟩ : ∃ en, en = mid + m - st := ⟨_, rfl⟩
    rw [← hen] at een
    have hse : a ≤ st ∧ st ≤ m ∧ m ≤ en ∧ en ≤ b ∧ st + (en - m) = mid ∧ st ≤ mid := by omega
    obtain ⟨k1, k2, k3, k4, k5, k6⟩ := hse
    have c1 : st = a ∨ en = b ∨ (vat xs (st - 1)).le (vat xs en) = true := by
      by_cases h : st = lo
      · omega
      · have := p4 (st - 1) (by omega) (by omega)
        rw [show mid + m - 1 - (st - 1) = en by omega] at this
        exact .inr (.inr this)
    have c2 : st = m ∨ en = m ∨ (vat xs (en - 1)).cmp (vat xs st) < 0 := by
      by_cases h : st = hi
      · omega
      · have := p5 st (Nat.le_refl _) (by omega)
        rw [show mid + m - 1 - st = en - 1 by omega] at this
        exact .inr (.inr this)
    obtain ⟨hfin, s1, s2, s3, s4⟩ := sym_join k1 k2 k3 k4 hb k5 hs1 hs2 c1 c2
    have hzl := (rotL_perm xs k2 k3).length_eq
    have hrot := vec_rotate xs st m en hl
    have hrid := rotL_id (xs := xs) k2 k3 (by omega)
    rw [← hfin]
    generalize rotL xs st m en = zs at s1 s2 s3 s4 hzl hrot hrid ⊢
    have hul := sortSeg_len zs (show a ≤ mid by omega)
    have ho := fun k (g : k < a ∨ mid ≤ k) => sortSeg_out (xs := zs) (show a ≤ mid by omega) (by omega) g
    have hi1 := ih zs a st mid (by omega) (by omega)
    have hd1 := fun h => sortSeg_id (xs := zs) (show a ≤ mid by omega) (by omega) h
    generalize sortSeg zs a mid = us at hul ho hi1 hd1 ⊢
    have t3 : Srt us mid en := s3.congr (fun k g1 _ => ho k (.inr g1))
    have t4 : Srt us en b := s4.congr (fun k g1 _ => ho k (.inr (by omega)))
    have hi2 := ih us mid en b (by omega) (by omega)
    have hd2 := fun h => sortSeg_id (xs := us) (show mid ≤ b by omega) (by omega) h
    generalize sortSeg us mid b = ws at hi2 hd2 ⊢
    rw [show us.length = xs.length by omega] at hi2
    rw [hzl] at hi1
    repeat' (first
    | refine DWS_seq ?_
    | refine DWS_region ?_
    | refine DWS_draw ?_
    | refine dnilP ?_
    | refine dnilD (by kernel_rfl) ?_
    | refine then_normal ?_
    | refine then_exit ?_
    | refine then_ret ?_
    | refine DWS_block ?_
    | refine blk_normal ?_
    | refine blk_ret ?_
    | refine blk_hit rfl ?_
    | refine blk_miss rfl ?_
    | refine loopS_exit ?_
    | refine loopS_ret ?_
    | refine DWS_ret ?_
    | refine DWS_exit ?_
    | refine DWS_skip ?_
    | refine DWS_cond_t rfl ?_
    | refine DWS_cond_f rfl ?_
    | (apply dpC rfl; case h => first | (apply Pu.ok; repeat' (first | rfl | exact .inK (by simp only [InK]; omega) | exact .inK (by simp only [InK]; simp at hg; omega) | exact .wr | constructor | decide | omega)))
    | refine dpOff rfl rfl ?_
    | ((first | apply dp rfl | apply dpOn rfl rfl | apply dpMay rfl rfl (by first | exact fun _ => trivial | exact fun h => ⟨h, trivial⟩ | exact fun h => ⟨h, h, trivial⟩ | exact fun h => ⟨h, h, h, trivial⟩)); case h => ((try intro hg); first | exact as_bool (S_lss rfl rfl) (decide_eq_false (by omega : ¬ (st : Int) < (st : Int))) | (apply Pu.ok; repeat' (first | rfl | exact .inK (by simp only [InK]; omega) | exact .inK (by simp only [InK]; simp at hg; omega) | exact .wr | constructor | decide | omega))))
    | refine dpickAnd rfl rfl rfl rfl rfl ?_ | refine dpickOr rfl rfl rfl rfl rfl ?_
    | (apply dt rfl; case h => first | exact S_alloc _ rfl | exact S_box _ rfl rfl)
    | (apply ds; case h => first | exact S_store rfl rfl rfl rfl rfl rfl)
    | (apply dm rfl; case h => first | exact M_d rfl | exact S_alloc 2001 rfl | exact S_alloc 2002 rfl | exact S_alloc 2003 rfl | exact S_alloc 2004 rfl | exact S_alloc 2005 rfl)
    | fail)
    refine DWS_join ⟨[(0, .own 1000 0 0 xs.length), (1, .dat false (.int .i64 a)), (2, .dat false (.int .i64 m)), (3, .dat false (.int .i64 b)), (4, .dat false cmpF), (18, .dat false (.int .i64 mid)), (20, .dat false (.int .i64 st)), (24, .dat false (.int .i64 en))], [(1000, .row 0 false true 4 (zs.map Vec.cells))], 220⟩ ?_ ?_
    · by_cases hr : st < m ∧ m < en
      · have hc := hrot hr.1 hr.2 (by omega)
        rw [← een] at hc ⊢
        repeat' (first
    | (apply DWS_true rfl; case hb => (rw [decide_eq_true (by omega : (st : Int) < (m : Int)), decide_eq_true (by omega : (m : Int) < (mid : Int) + (m : Int) - (st : Int))]; rfl))
    | refine DWS_seq ?_
    | refine DWS_region ?_
    | refine DWS_draw ?_
    | refine dnilP ?_
    | refine dnilD (by kernel_rfl) ?_
    | refine then_normal ?_
    | refine then_exit ?_
    | refine then_ret ?_
    | refine DWS_block ?_
    | refine blk_normal ?_
    | refine blk_ret ?_
    | refine blk_hit rfl ?_
    | refine blk_miss rfl ?_
    | refine loopS_exit ?_
    | refine loopS_ret ?_
    | refine DWS_ret ?_
    | refine DWS_exit ?_
    | refine DWS_skip ?_
    | refine DWS_cond_t rfl ?_
    | refine DWS_cond_f rfl ?_
    | (apply dpC rfl; case h => first | (apply Pu.ok; repeat' (first | rfl | exact .inK (by simp only [InK]; omega) | exact .inK (by simp only [InK]; simp at hg; omega) | exact .wr | constructor | decide | omega)))
    | (apply dmC rfl; case h => first | exact S_callI 1000 hc rfl rfl)
    | refine dpOff rfl rfl ?_
    | (apply dmOn rfl rfl; case h => first | exact S_callI 1000 hc rfl rfl)
    | ((first | apply dp rfl | apply dpOn rfl rfl | apply dpMay rfl rfl (by first | exact fun _ => trivial | exact fun h => ⟨h, trivial⟩ | exact fun h => ⟨h, h, trivial⟩ | exact fun h => ⟨h, h, h, trivial⟩)); case h => ((try intro hg); first | exact S_callI 1000 hc rfl rfl | (apply Pu.ok; repeat' (first | rfl | exact .inK (by simp only [InK]; omega) | exact .inK (by simp only [InK]; simp at hg; omega) | exact .wr | constructor | decide | omega))))
    | refine dpickAnd rfl rfl rfl rfl rfl ?_ | refine dpickOr rfl rfl rfl rfl rfl ?_
    | (apply dt rfl; case h => first | exact S_alloc _ rfl | exact S_box _ rfl rfl)
    | (apply ds; case h => first | exact S_store rfl rfl rfl rfl rfl rfl)
    | (apply dm rfl; case h => first | exact M_d rfl | exact S_alloc 2001 rfl | exact S_alloc 2002 rfl | exact S_alloc 2003 rfl | exact S_alloc 2004 rfl | exact S_alloc 2005 rfl)
    | fail)
        exact norm_ok ⟨rfl, by first | exact fun _ => rfl | exact fun _ => by with_unfolding_all rfl | exact mem_one | exact mem_two | exact mem_three, by repeat' (first | exact slots_nil | exact .inl rfl | exact .inr (.inl ⟨_, rfl, rfl⟩) | apply slots_cons)⟩
      · have hid := hrid (by omega)
        rw [hid, ← een]
        repeat' (first
    | (apply DWS_false rfl; case hb => (rw [Bool.and_eq_false_iff, decide_eq_false_iff_not, decide_eq_false_iff_not]; omega))
    | refine DWS_seq ?_
    | refine DWS_region ?_
    | refine DWS_draw ?_
    | refine dnilP ?_
    | refine dnilD (by kernel_rfl) ?_
    | refine then_normal ?_
    | refine then_exit ?_
    | refine then_ret ?_
    | refine DWS_block ?_
    | refine blk_normal ?_
    | refine blk_ret ?_
    | refine blk_hit rfl ?_
    | refine blk_miss rfl ?_
    | refine loopS_exit ?_
    | refine loopS_ret ?_
    | refine DWS_ret ?_
    | refine DWS_exit ?_
    | refine DWS_skip ?_
    | refine DWS_cond_t rfl ?_
    | refine DWS_cond_f rfl ?_
    | (apply dpC rfl; case h => first | (apply Pu.ok; repeat' (first | rfl | exact .inK (by simp only [InK]; omega) | exact .inK (by simp only [InK]; simp at hg; omega) | exact .wr | constructor | decide | omega)))
    | refine dpOff rfl rfl ?_
    | ((first | apply dp rfl | apply dpOn rfl rfl | apply dpMay rfl rfl (by first | exact fun _ => trivial | exact fun h => ⟨h, trivial⟩ | exact fun h => ⟨h, h, trivial⟩ | exact fun h => ⟨h, h, h, trivial⟩)); case h => ((try intro hg); first | (apply Pu.ok; repeat' (first | rfl | exact .inK (by simp only [InK]; omega) | exact .inK (by simp only [InK]; simp at hg; omega) | exact .wr | constructor | decide | omega))))
    | refine dpickAnd rfl rfl rfl rfl rfl ?_ | refine dpickOr rfl rfl rfl rfl rfl ?_
    | (apply dt rfl; case h => first | exact S_alloc _ rfl | exact S_box _ rfl rfl)
    | (apply ds; case h => first | exact S_store rfl rfl rfl rfl rfl rfl)
    | (apply dm rfl; case h => first | exact M_d rfl | exact S_alloc 2001 rfl | exact S_alloc 2002 rfl | exact S_alloc 2003 rfl | exact S_alloc 2004 rfl | exact S_alloc 2005 rfl)
    | fail)
        exact norm_ok ⟨rfl, by first | exact fun _ => rfl | exact fun _ => by with_unfolding_all rfl | exact mem_one | exact mem_two | exact mem_three, by repeat' (first | exact slots_nil | exact .inl rfl | exact .inr (.inl ⟨_, rfl, rfl⟩) | apply slots_cons)⟩
    repeat' (first
    | refine DWS_seq ?_
    | refine DWS_region ?_
    | refine DWS_draw ?_
    | refine dnilP ?_
    | refine dnilD (by kernel_rfl) ?_
    | refine then_normal ?_
    | refine then_exit ?_
    | refine then_ret ?_
    | refine DWS_block ?_
    | refine blk_normal ?_
    | refine blk_ret ?_
    | refine blk_hit rfl ?_
    | refine blk_miss rfl ?_
    | refine loopS_exit ?_
    | refine loopS_ret ?_
    | refine DWS_ret ?_
    | refine DWS_exit ?_
    | refine DWS_skip ?_
    | refine DWS_cond_t rfl ?_
    | refine DWS_cond_f rfl ?_
    | (apply dpC rfl; case h => first | (apply Pu.ok; repeat' (first | rfl | exact .inK (by simp only [InK]; omega) | exact .inK (by simp only [InK]; simp at hg; omega) | exact .wr | constructor | decide | omega)))
    | refine dpOff rfl rfl ?_
    | ((first | apply dp rfl | apply dpOn rfl rfl | apply dpMay rfl rfl (by first | exact fun _ => trivial | exact fun h => ⟨h, trivial⟩ | exact fun h => ⟨h, h, trivial⟩ | exact fun h => ⟨h, h, h, trivial⟩)); case h => ((try intro hg); first | (apply Pu.ok; repeat' (first | rfl | exact .inK (by simp only [InK]; omega) | exact .inK (by simp only [InK]; simp at hg; omega) | exact .wr | constructor | decide | omega))))
    | refine dpickAnd rfl rfl rfl rfl rfl ?_ | refine dpickOr rfl rfl rfl rfl rfl ?_
    | (apply dt rfl; case h => first | exact S_alloc _ rfl | exact S_box _ rfl rfl)
    | (apply ds; case h => first | exact S_store rfl rfl rfl rfl rfl rfl)
    | (apply dm rfl; case h => first | exact M_d rfl | exact S_alloc 2001 rfl | exact S_alloc 2002 rfl | exact S_alloc 2003 rfl | exact S_alloc 2004 rfl | exact S_alloc 2005 rfl)
    | fail)
    refine DWS_join ⟨[(0, .own 1000 0 0 xs.length), (3, .dat false (.int .i64 b)), (4, .dat false cmpF), (18, .dat false (.int .i64 mid)), (24, .dat false (.int .i64 en))], [(1000, .row 0 false true 4 (us.map Vec.cells))], 220⟩ ?_ ?_
    · by_cases hr : a < st ∧ st < mid
      · have hc := hi1 hr.1 hr.2 (by omega) s1 s2
        repeat' (first
    | (apply DWS_true rfl; case hb => (rw [decide_eq_true (by omega : (a : Int) < (st : Int)), decide_eq_true (by omega : (st : Int) < (mid : Int))]; rfl))
    | refine DWS_seq ?_
    | refine DWS_region ?_
    | refine DWS_draw ?_
    | refine dnilP ?_
    | refine dnilD (by kernel_rfl) ?_
    | refine then_normal ?_
    | refine then_exit ?_
    | refine then_ret ?_
    | refine DWS_block ?_
    | refine blk_normal ?_
    | refine blk_ret ?_
    | refine blk_hit rfl ?_
    | refine blk_miss rfl ?_
    | refine loopS_exit ?_
    | refine loopS_ret ?_
    | refine DWS_ret ?_
    | refine DWS_exit ?_
    | refine DWS_skip ?_
    | refine DWS_cond_t rfl ?_
    | refine DWS_cond_f rfl ?_
    | (apply dpC rfl; case h => first | (apply Pu.ok; repeat' (first | rfl | exact .inK (by simp only [InK]; omega) | exact .inK (by simp only [InK]; simp at hg; omega) | exact .wr | constructor | decide | omega)))
    | (apply dmC rfl; case h => first | exact S_callI 1000 hc rfl rfl)
    | refine dpOff rfl rfl ?_
    | (apply dmOn rfl rfl; case h => first | exact S_callI 1000 hc rfl rfl)
    | ((first | apply dp rfl | apply dpOn rfl rfl | apply dpMay rfl rfl (by first | exact fun _ => trivial | exact fun h => ⟨h, trivial⟩ | exact fun h => ⟨h, h, trivial⟩ | exact fun h => ⟨h, h, h, trivial⟩)); case h => ((try intro hg); first | exact S_callI 1000 hc rfl rfl | (apply Pu.ok; repeat' (first | rfl | exact .inK (by simp only [InK]; omega) | exact .inK (by simp only [InK]; simp at hg; omega) | exact .wr | constructor | decide | omega))))
    | refine dpickAnd rfl rfl rfl rfl rfl ?_ | refine dpickOr rfl rfl rfl rfl rfl ?_
    | (apply dt rfl; case h => first | exact S_alloc _ rfl | exact S_box _ rfl rfl)
    | (apply ds; case h => first | exact S_store rfl rfl rfl rfl rfl rfl)
    | (apply dm rfl; case h => first | exact M_d rfl | exact S_alloc 2001 rfl | exact S_alloc 2002 rfl | exact S_alloc 2003 rfl | exact S_alloc 2004 rfl | exact S_alloc 2005 rfl)
    | fail)
        exact norm_ok ⟨rfl, by first | exact fun _ => rfl | exact fun _ => by with_unfolding_all rfl | exact mem_one | exact mem_two | exact mem_three, by repeat' (first | exact slots_nil | exact .inl rfl | exact .inr (.inl ⟨_, rfl, rfl⟩) | apply slots_cons)⟩
      · have hid := hd1 (by
          by_cases e : st = a
          · subst e; exact s2
          · have : st = mid := by omega
            subst this; exact s1)
        rw [hid]
        repeat' (first
    | (apply DWS_false rfl; case hb => (rw [Bool.and_eq_false_iff, decide_eq_false_iff_not, decide_eq_false_iff_not]; omega))
    | refine DWS_seq ?_
    | refine DWS_region ?_
    | refine DWS_draw ?_
    | refine dnilP ?_
    | refine dnilD (by kernel_rfl) ?_
    | refine then_normal ?_
    | refine then_exit ?_
    | refine then_ret ?_
    | refine DWS_block ?_
    | refine blk_normal ?_
    | refine blk_ret ?_
    | refine blk_hit rfl ?_
    | refine blk_miss rfl ?_
    | refine loopS_exit ?_
    | refine loopS_ret ?_
    | refine DWS_ret ?_
    | refine DWS_exit ?_
    | refine DWS_skip ?_
    | refine DWS_cond_t rfl ?_
    | refine DWS_cond_f rfl ?_
    | (apply dpC rfl; case h => first | (apply Pu.ok; repeat' (first | rfl | exact .inK (by simp only [InK]; omega) | exact .inK (by simp only [InK]; simp at hg; omega) | exact .wr | constructor | decide | omega)))
    | refine dpOff rfl rfl ?_
    | ((first | apply dp rfl | apply dpOn rfl rfl | apply dpMay rfl rfl (by first | exact fun _ => trivial | exact fun h => ⟨h, trivial⟩ | exact fun h => ⟨h, h, trivial⟩ | exact fun h => ⟨h, h, h, trivial⟩)); case h => ((try intro hg); first | (apply Pu.ok; repeat' (first | rfl | exact .inK (by simp only [InK]; omega) | exact .inK (by simp only [InK]; simp at hg; omega) | exact .wr | constructor | decide | omega))))
    | refine dpickAnd rfl rfl rfl rfl rfl ?_ | refine dpickOr rfl rfl rfl rfl rfl ?_
    | (apply dt rfl; case h => first | exact S_alloc _ rfl | exact S_box _ rfl rfl)
    | (apply ds; case h => first | exact S_store rfl rfl rfl rfl rfl rfl)
    | (apply dm rfl; case h => first | exact M_d rfl | exact S_alloc 2001 rfl | exact S_alloc 2002 rfl | exact S_alloc 2003 rfl | exact S_alloc 2004 rfl | exact S_alloc 2005 rfl)
    | fail)
        exact norm_ok ⟨rfl, by first | exact fun _ => rfl | exact fun _ => by with_unfolding_all rfl | exact mem_one | exact mem_two | exact mem_three, by repeat' (first | exact slots_nil | exact .inl rfl | exact .inr (.inl ⟨_, rfl, rfl⟩) | apply slots_cons)⟩
    by_cases hr : mid < en ∧ en < b
    · have hc := hi2 hr.1 hr.2 (by omega) t3 t4
      repeat' (first
    | (apply DWS_true rfl; case hb => (rw [decide_eq_true (by omega : (mid : Int) < (en : Int)), decide_eq_true (by omega : (en : Int) < (b : Int))]; rfl))
    | refine DWS_seq ?_
    | refine DWS_region ?_
    | refine DWS_draw ?_
    | refine dnilP ?_
    | refine dnilD (by kernel_rfl) ?_
    | refine then_normal ?_
    | refine then_exit ?_
    | refine then_ret ?_
    | refine DWS_block ?_
    | refine blk_normal ?_
    | refine blk_ret ?_
    | refine blk_hit rfl ?_
    | refine blk_miss rfl ?_
    | refine loopS_exit ?_
    | refine loopS_ret ?_
    | refine DWS_ret ?_
    | refine DWS_exit ?_
    | refine DWS_skip ?_
    | refine DWS_cond_t rfl ?_
    | refine DWS_cond_f rfl ?_
    | (apply dpC rfl; case h => first | (apply Pu.ok; repeat' (first | rfl | exact .inK (by simp only [InK]; omega) | exact .inK (by simp only [InK]; simp at hg; omega) | exact .wr | constructor | decide | omega)))
    | (apply dmC rfl; case h => first | exact S_callI 1000 hc rfl rfl)
    | refine dpOff rfl rfl ?_
    | (apply dmOn rfl rfl; case h => first | exact S_callI 1000 hc rfl rfl)
    | ((first | apply dp rfl | apply dpOn rfl rfl | apply dpMay rfl rfl (by first | exact fun _ => trivial | exact fun h => ⟨h, trivial⟩ | exact fun h => ⟨h, h, trivial⟩ | exact fun h => ⟨h, h, h, trivial⟩)); case h => ((try intro hg); first | exact S_callI 1000 hc rfl rfl | (apply Pu.ok; repeat' (first | rfl | exact .inK (by simp only [InK]; omega) | exact .inK (by simp only [InK]; simp at hg; omega) | exact .wr | constructor | decide | omega))))
    | refine dpickAnd rfl rfl rfl rfl rfl ?_ | refine dpickOr rfl rfl rfl rfl rfl ?_
    | (apply dt rfl; case h => first | exact S_alloc _ rfl | exact S_box _ rfl rfl)
    | (apply ds; case h => first | exact S_store rfl rfl rfl rfl rfl rfl)
    | (apply dm rfl; case h => first | exact M_d rfl | exact S_alloc 2001 rfl | exact S_alloc 2002 rfl | exact S_alloc 2003 rfl | exact S_alloc 2004 rfl | exact S_alloc 2005 rfl)
    | fail)
      exact endI_n (by first | exact fun _ => rfl | exact mem_one | exact mem_two | exact mem_three)
    · have hid := hd2 (by
        by_cases e : en = mid
        · subst e; exact t4
        · have : en = b := by omega
          subst this; exact t3)
      rw [hid]
      repeat' (first
    | (apply DWS_false rfl; case hb => (rw [Bool.and_eq_false_iff, decide_eq_false_iff_not, decide_eq_false_iff_not]; omega))
    | refine DWS_seq ?_
    | refine DWS_region ?_
    | refine DWS_draw ?_
    | refine dnilP ?_
    | refine dnilD (by kernel_rfl) ?_
    | refine then_normal ?_
    | refine then_exit ?_
    | refine then_ret ?_
    | refine DWS_block ?_
    | refine blk_normal ?_
    | refine blk_ret ?_
    | refine blk_hit rfl ?_
    | refine blk_miss rfl ?_
    | refine loopS_exit ?_
    | refine loopS_ret ?_
    | refine DWS_ret ?_
    | refine DWS_exit ?_
    | refine DWS_skip ?_
    | refine DWS_cond_t rfl ?_
    | refine DWS_cond_f rfl ?_
    | (apply dpC rfl; case h => first | (apply Pu.ok; repeat' (first | rfl | exact .inK (by simp only [InK]; omega) | exact .inK (by simp only [InK]; simp at hg; omega) | exact .wr | constructor | decide | omega)))
    | refine dpOff rfl rfl ?_
    | ((first | apply dp rfl | apply dpOn rfl rfl | apply dpMay rfl rfl (by first | exact fun _ => trivial | exact fun h => ⟨h, trivial⟩ | exact fun h => ⟨h, h, trivial⟩ | exact fun h => ⟨h, h, h, trivial⟩)); case h => ((try intro hg); first | (apply Pu.ok; repeat' (first | rfl | exact .inK (by simp only [InK]; omega) | exact .inK (by simp only [InK]; simp at hg; omega) | exact .wr | constructor | decide | omega))))
    | refine dpickAnd rfl rfl rfl rfl rfl ?_ | refine dpickOr rfl rfl rfl rfl rfl ?_
    | (apply dt rfl; case h => first | exact S_alloc _ rfl | exact S_box _ rfl rfl)
    | (apply ds; case h => first | exact S_store rfl rfl rfl rfl rfl rfl)
    | (apply dm rfl; case h => first | exact M_d rfl | exact S_alloc 2001 rfl | exact S_alloc 2002 rfl | exact S_alloc 2003 rfl | exact S_alloc 2004 rfl | exact S_alloc 2005 rfl)
    | fail)
      exact endI_n (by first | exact fun _ => rfl | exact mem_one | exact mem_two | exact mem_three)
end Go.Proofs.Ytkppkgahdoglpaa
