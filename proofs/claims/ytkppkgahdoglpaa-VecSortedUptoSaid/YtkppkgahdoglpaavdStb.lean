/- Contracts: slices' stable sort at vectors; vec.Sorted. -/
import Derived.Test.YtkppkgahdoglpaavdSym
namespace Go.Proofs.Ytkppkgahdoglpaa
open Go.RowKit
def Runs (ys : List Vec) (bs n : Nat) : Prop := ∀ k, Srt ys (k * bs) (min (k * bs + bs) n)
structure Mrg (xs zs : List Vec) (bs n q : Nat) : Prop where
  p : zs.Perm xs
  l : ∀ k, k < q → Srt zs (k * (2 * bs)) (k * (2 * bs) + 2 * bs)
  r : ∀ k, 2 * q ≤ k → Srt zs (k * bs) (min (k * bs + bs) n)
theorem two_mul_run (q bs : Nat) : 2 * q * bs = q * (2 * bs) ∧ (2 * q + 1) * bs = q * (2 * bs) + bs ∧ (q + 1) * (2 * bs) = q * (2 * bs) + 2 * bs := by
  have h1 : 2 * q * bs = q * (2 * bs) := by rw [Nat.mul_comm 2 q, Nat.mul_assoc]
  refine ⟨h1, by rw [Nat.succ_mul, h1], by rw [Nat.succ_mul]⟩
theorem Mrg.start {xs ys : List Vec} {bs n : Nat} (hp : ys.Perm xs) (h : Runs ys bs n) : Mrg xs ys bs n 0 := ⟨hp, fun k hk => by omega, fun k _ => h k⟩
theorem Mrg.left {xs zs : List Vec} {bs n q : Nat} (h : Mrg xs zs bs n q) (hn : q * (2 * bs) + bs ≤ n) : Srt zs (q * (2 * bs)) (q * (2 * bs) + bs) := by
  have := h.r (2 * q) (Nat.le_refl _)
  rw [(two_mul_run q bs).1] at this
  exact this.mono (Nat.le_refl _) (by omega)
theorem Mrg.right {xs zs : List Vec} {bs n q b : Nat} (h : Mrg xs zs bs n q) (hb : b ≤ n) (hb2 : b ≤ q * (2 * bs) + 2 * bs) : Srt zs (q * (2 * bs) + bs) b := by
  have := h.r (2 * q + 1) (by omega)
  rw [(two_mul_run q bs).2.1] at this
  exact this.mono (Nat.le_refl _) (by omega)
theorem Mrg.step {xs zs : List Vec} {bs n q : Nat} (h : Mrg xs zs bs n q) (hn : n = xs.length) (hb : q * (2 * bs) + 2 * bs ≤ n) : Mrg xs (sortSeg zs (q * (2 * bs)) (q * (2 * bs) + 2 * bs)) bs n (q + 1) := by
  have hl := h.p.length_eq
  have ho := fun k (g : k < q * (2 * bs) ∨ q * (2 * bs) + 2 * bs ≤ k) => sortSeg_out (xs := zs) (show q * (2 * bs) ≤ q * (2 * bs) + 2 * bs by omega) (by omega) g
  refine ⟨(sortSeg_perm zs (by omega)).trans h.p, fun k hk => ?_, fun k hk => ?_⟩
  · by_cases e : k = q
    · subst e
      exact sortSeg_srt (by omega) (by omega)
    · have hle : (k + 1) * (2 * bs) ≤ q * (2 * bs) := Nat.mul_le_mul_right _ (by omega)
      rw [(two_mul_run k bs).2.2] at hle
      exact (h.l k (by omega)).congr (fun i g1 g2 => ho i (.inl (by omega)))
  · have hle : (2 * (q + 1)) * bs ≤ k * bs := Nat.mul_le_mul_right _ hk
    rw [(two_mul_run (q + 1) bs).1, (two_mul_run q bs).2.2] at hle
    exact (h.r k (by omega)).congr (fun i g1 g2 => ho i (.inr (by omega)))
theorem Mrg.stop {xs zs : List Vec} {bs n q : Nat} (h : Mrg xs zs bs n q) (hn : n = xs.length) (hq : q * (2 * bs) ≤ n) (hb : n < q * (2 * bs) + 2 * bs) (hm : q * (2 * bs) + bs < n) :
    (sortSeg zs (q * (2 * bs)) n).Perm xs ∧ Runs (sortSeg zs (q * (2 * bs)) n) (2 * bs) n := by
  have hl := h.p.length_eq
  have ho := fun k (g : k < q * (2 * bs) ∨ n ≤ k) => sortSeg_out (xs := zs) hq (by omega) g
  refine ⟨(sortSeg_perm zs hq).trans h.p, fun k => ?_⟩
  rcases Nat.lt_trichotomy k q with e | e | e
  · have hle : (k + 1) * (2 * bs) ≤ q * (2 * bs) := Nat.mul_le_mul_right _ (by omega)
    rw [(two_mul_run k bs).2.2] at hle
    exact ((h.l k e).mono (Nat.le_refl _) (by omega)).congr (fun i g1 g2 => ho i (.inl (by omega)))
  · subst e
    exact (sortSeg_srt hq (by omega)).mono (Nat.le_refl _) (by omega)
  · have hle : (q + 1) * (2 * bs) ≤ k * (2 * bs) := Nat.mul_le_mul_right _ (by omega)
    rw [(two_mul_run q bs).2.2] at hle
    intro i j h1 h2 h3
    omega
theorem Mrg.done {xs zs : List Vec} {bs n q : Nat} (h : Mrg xs zs bs n q) (hb : n < q * (2 * bs) + 2 * bs) (hm : n ≤ q * (2 * bs) + bs) : Runs zs (2 * bs) n := by
  intro k
  rcases Nat.lt_trichotomy k q with e | e | e
  · exact (h.l k e).mono (Nat.le_refl _) (by omega)
  · subst e
    have := h.r (2 * k) (Nat.le_refl _)
    rw [(two_mul_run k bs).1] at this
    exact this.mono (Nat.le_refl _) (by omega)
  · have hle : (q + 1) * (2 * bs) ≤ k * (2 * bs) := Nat.mul_le_mul_right _ (by omega)
    rw [(two_mul_run q bs).2.2] at hle
    intro i j h1 h2 h3
    omega
structure Fst (xs ys : List Vec) (q : Nat) : Prop where
  p : ys.Perm xs
  l : ∀ k, k < q → Srt ys (k * 20) (k * 20 + 20)
theorem Fst.step {xs ys : List Vec} {q : Nat} (h : Fst xs ys q) (hb : q * 20 + 20 ≤ xs.length) : Fst xs (sortSeg ys (q * 20) (q * 20 + 20)) (q + 1) := by
  have hl := h.p.length_eq
  refine ⟨(sortSeg_perm ys (by omega)).trans h.p, fun k hk => ?_⟩
  by_cases e : k = q
  · subst e; exact sortSeg_srt (by omega) (by omega)
  · exact (h.l k (by omega)).congr (fun i g1 g2 => sortSeg_out (by omega) (by omega) (.inl (by omega)))
theorem Fst.stop {xs ys : List Vec} {q n : Nat} (h : Fst xs ys q) (hn : n = xs.length) (hq : q * 20 ≤ n) (hb : n < q * 20 + 20) : (sortSeg ys (q * 20) n).Perm xs ∧ Runs (sortSeg ys (q * 20) n) 20 n := by
  have hl := h.p.length_eq
  refine ⟨(sortSeg_perm ys hq).trans h.p, fun k => ?_⟩
  rcases Nat.lt_trichotomy k q with e | e | e
  · exact ((h.l k e).mono (Nat.le_refl _) (by omega)).congr (fun i g1 g2 => sortSeg_out hq (by omega) (.inl (by omega)))
  · subst e
    exact (sortSeg_srt hq (by omega)).mono (Nat.le_refl _) (by omega)
  · intro i j h1 h2 h3
    omega
theorem runs_sorted {xs ys : List Vec} {bs : Nat} (hp : ys.Perm xs) (h : Runs ys bs xs.length) (hb : xs.length ≤ bs) : ys = sortL xs := by
  refine sortL_eq hp (Srt.pairwise ?_)
  have := h 0
  rw [Nat.zero_mul, Nat.zero_add] at this
  exact this.mono (Nat.le_refl _) (by rw [hp.length_eq]; omega)
attribute [local irreducible] SStep DW DWS DOps thenQ inBlk loopQ loopQS endI normQ retQ retQG FnF FnG FnI Wk IntKind.wrap IntKind.andI IntKind.orI IntKind.xorI IntKind.andNotI IntKind.shlI IntKind.shrI swapR swp vat Vec.cmp rotL sortL sortSeg
set_option maxHeartbeats 8000000 in
theorem vec_stable (xs : List Vec) (hl : xs.length ≤ 1099511627776) :
    FnI Try.prog 68 [.own 1000 0 0 xs.length, .dat false (.int .i64 xs.length), .dat false cmpF] [(1000, .row 0 false true 4 (xs.map Vec.cells))] [(1000, .row 0 false true 4 ((sortL xs).map Vec.cells))] := by
  refine fnI_of Try.func68 rfl rfl rfl rfl ?_
  simp only [envD]
  obtain ⟨n, hn⟩ : ∃ n, n = xs.length := ⟨_, rfl⟩
  rw [← hn]
  repeat' (first
    | refine DWS_seq ?_
    | refine DWS_region ?_
    | refine DWS_draw ?_
    | refine dnilP ?_
    | refine dnilD (by kernel_rfl) ?_
    | refine then_normal ?_
    | refine then_exit ?_
    | refine then_ret ?_
    | refine DWS_block ?_
    | refine blk_normal ?_
    | refine blk_ret ?_
    | refine blk_hit rfl ?_
    | refine blk_miss rfl ?_
    | refine loopS_exit ?_
    | refine loopS_ret ?_
    | refine DWS_ret ?_
    | refine DWS_exit ?_
    | refine DWS_skip ?_
    | refine DWS_cond_t rfl ?_
    | refine DWS_cond_f rfl ?_
    | (apply dpC rfl; case h => first | (apply Pu.ok; repeat' (first | rfl | exact .inK (by simp only [InK]; omega) | exact .inK (by simp only [InK]; simp at hg; omega) | exact .wr | constructor | decide | omega)))
    | refine dpOff rfl rfl ?_
    | ((first | apply dp rfl | apply dpOn rfl rfl | apply dpMay rfl rfl (by first | exact fun _ => trivial | exact fun h => ⟨h, trivial⟩ | exact fun h => ⟨h, h, trivial⟩ | exact fun h => ⟨h, h, h, trivial⟩)); case h => ((try intro hg); first | (apply Pu.ok; repeat' (first | rfl | exact .inK (by simp only [InK]; omega) | exact .inK (by simp only [InK]; simp at hg; omega) | exact .wr | constructor | decide | omega))))
    | refine dpickAnd rfl rfl rfl rfl rfl ?_ | refine dpickOr rfl rfl rfl rfl rfl ?_
    | (apply dt rfl; case h => first | exact S_alloc _ rfl | exact S_box _ rfl rfl)
    | (apply ds; case h => first | exact S_store rfl rfl rfl rfl rfl rfl)
    | (apply dm rfl; case h => first | exact M_d rfl | exact S_alloc 2001 rfl | exact S_alloc 2002 rfl | exact S_alloc 2003 rfl | exact S_alloc 2004 rfl | exact S_alloc 2005 rfl)
    | fail)
  refine DWS_loop (fun q : Nat × List Vec => ⟨[(0, .own 1000 0 0 n), (1, .dat false (.int .i64 n)), (2, .dat false cmpF), (6, .dat false (.int .i64 20)), (7, .dat false (.int .i64 ((q.1 * 20 : Nat) : Int))), (8, .dat false (.int .i64 ((q.1 * 20 + 20 : Nat) : Int)))], [(1000, .row 0 false true 4 (q.2.map Vec.cells))], 63⟩)
    (fun q => q.1 * 20 ≤ n ∧ Fst xs q.2 q.1) (fun q => n + 20 - q.1 * 20) (0, xs) ⟨by simp only; omega, List.Perm.refl _, fun k hk => by simp only at hk; omega⟩
    ⟨rfl, by first | exact fun _ => rfl | exact fun _ => by with_unfolding_all rfl | exact mem_one | exact mem_two | exact mem_three, by repeat' (first | exact slots_nil | exact .inl rfl | exact .inr (.inl ⟨_, rfl, rfl⟩) | apply slots_cons)⟩ (fun q hq => ?_)
  obtain ⟨q, us⟩ := q
  obtain ⟨q1, hF⟩ := hq
  simp only at q1 hF
  dsimp only
  have hul := hF.p.length_eq
  by_cases hlt : q * 20 + 20 ≤ n
  · have hc := vec_insertionSort us (q * 20) (q * 20 + 20) (by omega) (by omega) (by omega)
    rw [hul, ← hn] at hc
    have hs := hF.step (by omega)
    generalize sortSeg us (q * 20) (q * 20 + 20) = ys at hc hs
    repeat' (first
    | refine DWS_seq ?_
    | refine DWS_region ?_
    | refine DWS_draw ?_
    | refine dnilP ?_
    | refine dnilD (by kernel_rfl) ?_
    | refine then_normal ?_
    | refine then_exit ?_
    | refine then_ret ?_
    | refine DWS_block ?_
    | refine blk_normal ?_
    | refine blk_ret ?_
    | refine blk_hit rfl ?_
    | refine blk_miss rfl ?_
    | refine loopS_exit ?_
    | refine loopS_ret ?_
    | refine DWS_ret ?_
    | refine DWS_exit ?_
    | refine DWS_skip ?_
    | refine DWS_cond_t rfl ?_
    | refine DWS_cond_f rfl ?_
    | (apply dpC rfl; case h => first | (apply Pu.ok; repeat' (first | rfl | exact .inK (by simp only [InK]; omega) | exact .inK (by simp only [InK]; simp at hg; omega) | exact .wr | constructor | decide | omega)))
    | (apply dmC rfl; case h => first | exact S_callI 1000 hc rfl rfl)
    | refine dpOff rfl rfl ?_
    | (apply dmOn rfl rfl; case h => first | exact S_callI 1000 hc rfl rfl)
    | ((first | apply dp rfl | apply dpOn rfl rfl | apply dpMay rfl rfl (by first | exact fun _ => trivial | exact fun h => ⟨h, trivial⟩ | exact fun h => ⟨h, h, trivial⟩ | exact fun h => ⟨h, h, h, trivial⟩)); case h => ((try intro hg); first | exact as_bool (S_leq rfl rfl) (decide_eq_true (by omega : ((q * 20 + 20 : Nat) : Int) ≤ (n : Int))) | exact S_callI 1000 hc rfl rfl | (apply Pu.ok; repeat' (first | rfl | exact .inK (by simp only [InK]; omega) | exact .inK (by simp only [InK]; simp at hg; omega) | exact .wr | constructor | decide | omega))))
    | refine dpickAnd rfl rfl rfl rfl rfl ?_ | refine dpickOr rfl rfl rfl rfl rfl ?_
    | (apply dt rfl; case h => first | exact S_alloc _ rfl | exact S_box _ rfl rfl)
    | (apply ds; case h => first | exact S_store rfl rfl rfl rfl rfl rfl)
    | (apply dm rfl; case h => first | exact M_d rfl | exact S_alloc 2001 rfl | exact S_alloc 2002 rfl | exact S_alloc 2003 rfl | exact S_alloc 2004 rfl | exact S_alloc 2005 rfl)
    | fail)
    refine loopS_again (q + 1, ys) ⟨by simp only; omega, hs⟩ (by simp only; omega) ?_
    rw [show (((q + 1) * 20 : Nat) : Int) = ((q * 20 + 20 : Nat) : Int) by omega, show (((q + 1) * 20 + 20 : Nat) : Int) = ((q * 20 + 20 : Nat) : Int) + 20 by omega]
    exact ⟨rfl, by first | exact fun _ => rfl | exact fun _ => by with_unfolding_all rfl | exact mem_one | exact mem_two | exact mem_three, by repeat' (first | exact slots_nil | exact .inl rfl | exact .inr (.inl ⟨_, rfl, rfl⟩) | apply slots_cons)⟩
  obtain ⟨hp, hr⟩ := hF.stop hn q1 (by omega)
  have hc := vec_insertionSort us (q * 20) n (by omega) q1 (by omega)
  rw [hul, ← hn] at hc
  generalize sortSeg us (q * 20) n = ys at hc hp hr
  repeat' (first
    | refine DWS_seq ?_
    | refine DWS_region ?_
    | refine DWS_draw ?_
    | refine dnilP ?_
    | refine dnilD (by kernel_rfl) ?_
    | refine then_normal ?_
    | refine then_exit ?_
    | refine then_ret ?_
    | refine DWS_block ?_
    | refine blk_normal ?_
    | refine blk_ret ?_
    | refine blk_hit rfl ?_
    | refine blk_miss rfl ?_
    | refine loopS_exit ?_
    | refine loopS_ret ?_
    | refine DWS_ret ?_
    | refine DWS_exit ?_
    | refine DWS_skip ?_
    | refine DWS_cond_t rfl ?_
    | refine DWS_cond_f rfl ?_
    | (apply dpC rfl; case h => first | (apply Pu.ok; repeat' (first | rfl | exact .inK (by simp only [InK]; omega) | exact .inK (by simp only [InK]; simp at hg; omega) | exact .wr | constructor | decide | omega)))
    | (apply dmC rfl; case h => first | exact S_callI 1000 hc rfl rfl)
    | refine dpOff rfl rfl ?_
    | (apply dmOn rfl rfl; case h => first | exact S_callI 1000 hc rfl rfl)
    | ((first | apply dp rfl | apply dpOn rfl rfl | apply dpMay rfl rfl (by first | exact fun _ => trivial | exact fun h => ⟨h, trivial⟩ | exact fun h => ⟨h, h, trivial⟩ | exact fun h => ⟨h, h, h, trivial⟩)); case h => ((try intro hg); first | exact as_bool (S_leq rfl rfl) (decide_eq_false (by omega : ¬ ((q * 20 + 20 : Nat) : Int) ≤ (n : Int))) | exact S_callI 1000 hc rfl rfl | (apply Pu.ok; repeat' (first | rfl | exact .inK (by simp only [InK]; omega) | exact .inK (by simp only [InK]; simp at hg; omega) | exact .wr | constructor | decide | omega))))
    | refine dpickAnd rfl rfl rfl rfl rfl ?_ | refine dpickOr rfl rfl rfl rfl rfl ?_
    | (apply dt rfl; case h => first | exact S_alloc _ rfl | exact S_box _ rfl rfl)
    | (apply ds; case h => first | exact S_store rfl rfl rfl rfl rfl rfl)
    | (apply dm rfl; case h => first | exact M_d rfl | exact S_alloc 2001 rfl | exact S_alloc 2002 rfl | exact S_alloc 2003 rfl | exact S_alloc 2004 rfl | exact S_alloc 2005 rfl)
    | fail)
  refine DWS_loop (fun p : Nat × List Vec => ⟨[(0, .own 1000 0 0 n), (1, .dat false (.int .i64 n)), (2, .dat false cmpF), (6, .dat false (.int .i64 p.1))], [(1000, .row 0 false true 4 (p.2.map Vec.cells))], 63⟩)
    (fun p => 0 < p.1 ∧ p.1 ≤ 2 * n + 20 ∧ p.2.Perm xs ∧ Runs p.2 p.1 n) (fun p => 3 * n + 40 - p.1) (20, ys) ⟨by simp only; omega, by simp only; omega, hp, hr⟩
    ⟨rfl, by first | exact fun _ => rfl | exact fun _ => by with_unfolding_all rfl | exact mem_one | exact mem_two | exact mem_three, by repeat' (first | exact slots_nil | exact .inl rfl | exact .inr (.inl ⟨_, rfl, rfl⟩) | apply slots_cons)⟩ (fun p hp => ?_)
  obtain ⟨bs, vs⟩ := p
  obtain ⟨b0, b1, hp, hr⟩ := hp
  simp only at b0 b1 hp hr
  dsimp only
  have hvl := hp.length_eq
  by_cases hbn : bs < n
  case neg =>
    rw [hn] at hr
    rw [← runs_sorted hp hr (by omega)]
    repeat' (first
    | refine DWS_seq ?_
    | refine DWS_region ?_
    | refine DWS_draw ?_
    | refine dnilP ?_
    | refine dnilD (by kernel_rfl) ?_
    | refine then_normal ?_
    | refine then_exit ?_
    | refine then_ret ?_
    | refine DWS_block ?_
    | refine blk_normal ?_
    | refine blk_ret ?_
    | refine blk_hit rfl ?_
    | refine blk_miss rfl ?_
    | refine loopS_exit ?_
    | refine loopS_ret ?_
    | refine DWS_ret ?_
    | refine DWS_exit ?_
    | refine DWS_skip ?_
    | refine DWS_cond_t rfl ?_
    | refine DWS_cond_f rfl ?_
    | (apply dpC rfl; case h => first | (apply Pu.ok; repeat' (first | rfl | exact .inK (by simp only [InK]; omega) | exact .inK (by simp only [InK]; simp at hg; omega) | exact .wr | constructor | decide | omega)))
    | refine dpOff rfl rfl ?_
    | ((first | apply dp rfl | apply dpOn rfl rfl | apply dpMay rfl rfl (by first | exact fun _ => trivial | exact fun h => ⟨h, trivial⟩ | exact fun h => ⟨h, h, trivial⟩ | exact fun h => ⟨h, h, h, trivial⟩)); case h => ((try intro hg); first | exact as_bool (S_lss rfl rfl) (decide_eq_false (by omega : ¬ (bs : Int) < (n : Int))) | (apply Pu.ok; repeat' (first | rfl | exact .inK (by simp only [InK]; omega) | exact .inK (by simp only [InK]; simp at hg; omega) | exact .wr | constructor | decide | omega))))
    | refine dpickAnd rfl rfl rfl rfl rfl ?_ | refine dpickOr rfl rfl rfl rfl rfl ?_
    | (apply dt rfl; case h => first | exact S_alloc _ rfl | exact S_box _ rfl rfl)
    | (apply ds; case h => first | exact S_store rfl rfl rfl rfl rfl rfl)
    | (apply dm rfl; case h => first | exact M_d rfl | exact S_alloc 2001 rfl | exact S_alloc 2002 rfl | exact S_alloc 2003 rfl | exact S_alloc 2004 rfl | exact S_alloc 2005 rfl)
    | fail)
    exact endI_n (by first | exact fun _ => rfl | exact mem_one | exact mem_two | exact mem_three)
  have e2 : (2 : Int) * (bs : Int) = ((2 * bs : Nat) : Int) := by omega
  repeat' (first
    | refine DWS_seq ?_
    | refine DWS_region ?_
    | refine DWS_draw ?_
    | refine dnilP ?_
    | refine dnilD (by kernel_rfl) ?_
    | refine then_normal ?_
    | refine then_exit ?_
    | refine then_ret ?_
    | refine DWS_block ?_
    | refine blk_normal ?_
    | refine blk_ret ?_
    | refine blk_hit rfl ?_
    | refine blk_miss rfl ?_
    | refine loopS_exit ?_
    | refine loopS_ret ?_
    | refine DWS_ret ?_
    | refine DWS_exit ?_
    | refine DWS_skip ?_
    | refine DWS_cond_t rfl ?_
    | refine DWS_cond_f rfl ?_
    | (apply dpC rfl; case h => first | (apply Pu.ok; repeat' (first | rfl | exact .inK (by simp only [InK]; omega) | exact .inK (by simp only [InK]; simp at hg; omega) | exact .wr | constructor | decide | omega)))
    | refine dpOff rfl rfl ?_
    | ((first | apply dp rfl | apply dpOn rfl rfl | apply dpMay rfl rfl (by first | exact fun _ => trivial | exact fun h => ⟨h, trivial⟩ | exact fun h => ⟨h, h, trivial⟩ | exact fun h => ⟨h, h, h, trivial⟩)); case h => ((try intro hg); first | exact as_bool (S_lss rfl rfl) (decide_eq_true (by omega : (bs : Int) < (n : Int))) | (apply Pu.ok; repeat' (first | rfl | exact .inK (by simp only [InK]; omega) | exact .inK (by simp only [InK]; simp at hg; omega) | exact .wr | constructor | decide | omega))))
    | refine dpickAnd rfl rfl rfl rfl rfl ?_ | refine dpickOr rfl rfl rfl rfl rfl ?_
    | (apply dt rfl; case h => first | exact S_alloc _ rfl | exact S_box _ rfl rfl)
    | (apply ds; case h => first | exact S_store rfl rfl rfl rfl rfl rfl)
    | (apply dm rfl; case h => first | exact M_d rfl | exact S_alloc 2001 rfl | exact S_alloc 2002 rfl | exact S_alloc 2003 rfl | exact S_alloc 2004 rfl | exact S_alloc 2005 rfl)
    | fail)
  refine DWS_loop (fun q : Nat × List Vec => ⟨[(0, .own 1000 0 0 n), (1, .dat false (.int .i64 n)), (2, .dat false cmpF), (6, .dat false (.int .i64 bs)), (7, .dat false (.int .i64 ((q.1 * (2 * bs) : Nat) : Int))), (8, .dat false (.int .i64 ((q.1 * (2 * bs) + 2 * bs : Nat) : Int)))], [(1000, .row 0 false true 4 (q.2.map Vec.cells))], 63⟩)
    (fun q => q.1 * (2 * bs) ≤ n ∧ Mrg xs q.2 bs n q.1) (fun q => n + 2 * bs - q.1 * (2 * bs)) (0, vs) ⟨by simp only [Nat.zero_mul]; omega, Mrg.start hp hr⟩
    ?_ (fun q hq => ?_)
  · rw [show ((0 * (2 * bs) : Nat) : Int) = 0 by simp, show ((0 * (2 * bs) + 2 * bs : Nat) : Int) = 2 * (bs : Int) by simp]
    exact ⟨rfl, by first | exact fun _ => rfl | exact fun _ => by with_unfolding_all rfl | exact mem_one | exact mem_two | exact mem_three, by repeat' (first | exact slots_nil | exact .inl rfl | exact .inr (.inl ⟨_, rfl, rfl⟩) | apply slots_cons)⟩
  obtain ⟨q, ws⟩ := q
  obtain ⟨q1, hM⟩ := hq
  simp only at q1 hM
  dsimp only
  have hwl := hM.p.length_eq
  have hq1 := (two_mul_run q bs).2.2
  have hleft := hM.left
  have hright := fun b => hM.right (b := b)
  have hstep := hM.step hn
  have hstop := hM.stop hn
  have hdone := hM.done
  have hmrg := fun m b => vec_symMerge (b - q * (2 * bs)) ws (q * (2 * bs)) m b (Nat.le_refl _) (by omega)
  generalize hA : q * (2 * bs) = A at q1 hq1 hleft hright hstep hstop hdone hmrg
  by_cases hlt2 : A + 2 * bs ≤ n
  · have hc := hmrg (A + bs) (A + 2 * bs) (by omega) (by omega) (by omega) (hleft (by omega)) (hright _ hlt2 (Nat.le_refl _))
    have hs := hstep hlt2
    rw [hwl, ← hn, show ((A + bs : Nat) : Int) = (A : Int) + (bs : Int) by omega] at hc
    generalize sortSeg ws A (A + 2 * bs) = zs at hc hs
    repeat' (first
    | refine DWS_seq ?_
    | refine DWS_region ?_
    | refine DWS_draw ?_
    | refine dnilP ?_
    | refine dnilD (by kernel_rfl) ?_
    | refine then_normal ?_
    | refine then_exit ?_
    | refine then_ret ?_
    | refine DWS_block ?_
    | refine blk_normal ?_
    | refine blk_ret ?_
    | refine blk_hit rfl ?_
    | refine blk_miss rfl ?_
    | refine loopS_exit ?_
    | refine loopS_ret ?_
    | refine DWS_ret ?_
    | refine DWS_exit ?_
    | refine DWS_skip ?_
    | refine DWS_cond_t rfl ?_
    | refine DWS_cond_f rfl ?_
    | (apply dpC rfl; case h => first | (apply Pu.ok; repeat' (first | rfl | exact .inK (by simp only [InK]; omega) | exact .inK (by simp only [InK]; simp at hg; omega) | exact .wr | constructor | decide | omega)))
    | (apply dmC rfl; case h => first | exact S_callI 1000 hc rfl rfl)
    | refine dpOff rfl rfl ?_
    | (apply dmOn rfl rfl; case h => first | exact S_callI 1000 hc rfl rfl)
    | ((first | apply dp rfl | apply dpOn rfl rfl | apply dpMay rfl rfl (by first | exact fun _ => trivial | exact fun h => ⟨h, trivial⟩ | exact fun h => ⟨h, h, trivial⟩ | exact fun h => ⟨h, h, h, trivial⟩)); case h => ((try intro hg); first | exact as_bool (S_leq rfl rfl) (decide_eq_true (by omega : ((A + 2 * bs : Nat) : Int) ≤ (n : Int))) | exact S_callI 1000 hc rfl rfl | (apply Pu.ok; repeat' (first | rfl | exact .inK (by simp only [InK]; omega) | exact .inK (by simp only [InK]; simp at hg; omega) | exact .wr | constructor | decide | omega))))
    | refine dpickAnd rfl rfl rfl rfl rfl ?_ | refine dpickOr rfl rfl rfl rfl rfl ?_
    | (apply dt rfl; case h => first | exact S_alloc _ rfl | exact S_box _ rfl rfl)
    | (apply ds; case h => first | exact S_store rfl rfl rfl rfl rfl rfl)
    | (apply dm rfl; case h => first | exact M_d rfl | exact S_alloc 2001 rfl | exact S_alloc 2002 rfl | exact S_alloc 2003 rfl | exact S_alloc 2004 rfl | exact S_alloc 2005 rfl)
    | fail)
    refine loopS_again (q + 1, zs) ⟨by simp only; omega, hs⟩ (by simp only; omega) ?_
    rw [hq1, show ((A + 2 * bs + 2 * bs : Nat) : Int) = ((A + 2 * bs : Nat) : Int) + 2 * (bs : Int) by omega]
    exact ⟨rfl, by first | exact fun _ => rfl | exact fun _ => by with_unfolding_all rfl | exact mem_one | exact mem_two | exact mem_three, by repeat' (first | exact slots_nil | exact .inl rfl | exact .inr (.inl ⟨_, rfl, rfl⟩) | apply slots_cons)⟩
  · by_cases hm : A + bs < n
    · have hc := hmrg (A + bs) n (by omega) hm (by omega) (hleft (by omega)) (hright n (Nat.le_refl _) (by omega))
      obtain ⟨g1, g2⟩ := hstop q1 (by omega) hm
      rw [hwl, ← hn, show ((A + bs : Nat) : Int) = (A : Int) + (bs : Int) by omega] at hc
      generalize sortSeg ws A n = zs at hc g1 g2
      repeat' (first
    | (apply DWS_true rfl; case hb => exact decide_eq_true (by omega : (A : Int) + (bs : Int) < (n : Int)))
    | refine DWS_seq ?_
    | refine DWS_region ?_
    | refine DWS_draw ?_
    | refine dnilP ?_
    | refine dnilD (by kernel_rfl) ?_
    | refine then_normal ?_
    | refine then_exit ?_
    | refine then_ret ?_
    | refine DWS_block ?_
    | refine blk_normal ?_
    | refine blk_ret ?_
    | refine blk_hit rfl ?_
    | refine blk_miss rfl ?_
    | refine loopS_exit ?_
    | refine loopS_ret ?_
    | refine DWS_ret ?_
    | refine DWS_exit ?_
    | refine DWS_skip ?_
    | refine DWS_cond_t rfl ?_
    | refine DWS_cond_f rfl ?_
    | (apply dpC rfl; case h => first | (apply Pu.ok; repeat' (first | rfl | exact .inK (by simp only [InK]; omega) | exact .inK (by simp only [InK]; simp at hg; omega) | exact .wr | constructor | decide | omega)))
    | (apply dmC rfl; case h => first | exact S_callI 1000 hc rfl rfl)
    | refine dpOff rfl rfl ?_
    | (apply dmOn rfl rfl; case h => first | exact S_callI 1000 hc rfl rfl)
    | ((first | apply dp rfl | apply dpOn rfl rfl | apply dpMay rfl rfl (by first | exact fun _ => trivial | exact fun h => ⟨h, trivial⟩ | exact fun h => ⟨h, h, trivial⟩ | exact fun h => ⟨h, h, h, trivial⟩)); case h => ((try intro hg); first | exact as_bool (S_leq rfl rfl) (decide_eq_false (by omega : ¬ ((A + 2 * bs : Nat) : Int) ≤ (n : Int))) | exact S_callI 1000 hc rfl rfl | (apply Pu.ok; repeat' (first | rfl | exact .inK (by simp only [InK]; omega) | exact .inK (by simp only [InK]; simp at hg; omega) | exact .wr | constructor | decide | omega))))
    | refine dpickAnd rfl rfl rfl rfl rfl ?_ | refine dpickOr rfl rfl rfl rfl rfl ?_
    | (apply dt rfl; case h => first | exact S_alloc _ rfl | exact S_box _ rfl rfl)
    | (apply ds; case h => first | exact S_store rfl rfl rfl rfl rfl rfl)
    | (apply dm rfl; case h => first | exact M_d rfl | exact S_alloc 2001 rfl | exact S_alloc 2002 rfl | exact S_alloc 2003 rfl | exact S_alloc 2004 rfl | exact S_alloc 2005 rfl)
    | fail)
      refine loopS_again (2 * bs, zs) ⟨by simp only; omega, by simp only; omega, g1, g2⟩ (by simp only; omega) ?_
      rw [show ((2 * bs : Nat) : Int) = (bs : Int) * 2 by omega]
      exact ⟨rfl, by first | exact fun _ => rfl | exact fun _ => by with_unfolding_all rfl | exact mem_one | exact mem_two | exact mem_three, by repeat' (first | exact slots_nil | exact .inl rfl | exact .inr (.inl ⟨_, rfl, rfl⟩) | apply slots_cons)⟩
    · have g2 := hdone (by omega) (by omega)
      repeat' (first
    | (apply DWS_false rfl; case hb => exact decide_eq_false (by omega : ¬ (A : Int) + (bs : Int) < (n : Int)))
    | refine DWS_seq ?_
    | refine DWS_region ?_
    | refine DWS_draw ?_
    | refine dnilP ?_
    | refine dnilD (by kernel_rfl) ?_
    | refine then_normal ?_
    | refine then_exit ?_
    | refine then_ret ?_
    | refine DWS_block ?_
    | refine blk_normal ?_
    | refine blk_ret ?_
    | refine blk_hit rfl ?_
    | refine blk_miss rfl ?_
    | refine loopS_exit ?_
    | refine loopS_ret ?_
    | refine DWS_ret ?_
    | refine DWS_exit ?_
    | refine DWS_skip ?_
    | refine DWS_cond_t rfl ?_
    | refine DWS_cond_f rfl ?_
    | (apply dpC rfl; case h => first | (apply Pu.ok; repeat' (first | rfl | exact .inK (by simp only [InK]; omega) | exact .inK (by simp only [InK]; simp at hg; omega) | exact .wr | constructor | decide | omega)))
    | refine dpOff rfl rfl ?_
    | ((first | apply dp rfl | apply dpOn rfl rfl | apply dpMay rfl rfl (by first | exact fun _ => trivial | exact fun h => ⟨h, trivial⟩ | exact fun h => ⟨h, h, trivial⟩ | exact fun h => ⟨h, h, h, trivial⟩)); case h => ((try intro hg); first | exact as_bool (S_leq rfl rfl) (decide_eq_false (by omega : ¬ ((A + 2 * bs : Nat) : Int) ≤ (n : Int))) | (apply Pu.ok; repeat' (first | rfl | exact .inK (by simp only [InK]; omega) | exact .inK (by simp only [InK]; simp at hg; omega) | exact .wr | constructor | decide | omega))))
    | refine dpickAnd rfl rfl rfl rfl rfl ?_ | refine dpickOr rfl rfl rfl rfl rfl ?_
    | (apply dt rfl; case h => first | exact S_alloc _ rfl | exact S_box _ rfl rfl)
    | (apply ds; case h => first | exact S_store rfl rfl rfl rfl rfl rfl)
    | (apply dm rfl; case h => first | exact M_d rfl | exact S_alloc 2001 rfl | exact S_alloc 2002 rfl | exact S_alloc 2003 rfl | exact S_alloc 2004 rfl | exact S_alloc 2005 rfl)
    | fail)
      refine loopS_again (2 * bs, ws) ⟨by simp only; omega, by simp only; omega, hM.p, g2⟩ (by simp only; omega) ?_
      rw [show ((2 * bs : Nat) : Int) = (bs : Int) * 2 by omega]
      exact ⟨rfl, by first | exact fun _ => rfl | exact fun _ => by with_unfolding_all rfl | exact mem_one | exact mem_two | exact mem_three, by repeat' (first | exact slots_nil | exact .inl rfl | exact .inr (.inl ⟨_, rfl, rfl⟩) | apply slots_cons)⟩
theorem vec_SortStable (xs : List Vec) (hl : xs.length ≤ 1099511627776) :
    FnI Try.prog 50 [.own 1000 0 0 xs.length, .dat false cmpF] [(1000, .row 0 false true 4 (xs.map Vec.cells))] [(1000, .row 0 false true 4 ((sortL xs).map Vec.cells))] := by
  refine fnI_of Try.func50 rfl rfl rfl rfl ?_
  simp only [envD]
  have hc := vec_stable xs hl
  repeat' (first
    | refine DWS_seq ?_
    | refine DWS_region ?_
    | refine DWS_draw ?_
    | refine dnilP ?_
    | refine dnilD (by kernel_rfl) ?_
    | refine then_normal ?_
    | refine then_exit ?_
    | refine then_ret ?_
    | refine DWS_block ?_
    | refine blk_normal ?_
    | refine blk_ret ?_
    | refine blk_hit rfl ?_
    | refine blk_miss rfl ?_
    | refine loopS_exit ?_
    | refine loopS_ret ?_
    | refine DWS_ret ?_
    | refine DWS_exit ?_
    | refine DWS_skip ?_
    | refine DWS_cond_t rfl ?_
    | refine DWS_cond_f rfl ?_
    | (apply dpC rfl; case h => first | (apply Pu.ok; repeat' (first | rfl | exact .inK (by simp only [InK]; omega) | exact .inK (by simp only [InK]; simp at hg; omega) | exact .wr | constructor | decide | omega)))
    | (apply dmC rfl; case h => first | exact S_callI 1000 hc rfl rfl)
    | refine dpOff rfl rfl ?_
    | (apply dmOn rfl rfl; case h => first | exact S_callI 1000 hc rfl rfl)
    | ((first | apply dp rfl | apply dpOn rfl rfl | apply dpMay rfl rfl (by first | exact fun _ => trivial | exact fun h => ⟨h, trivial⟩ | exact fun h => ⟨h, h, trivial⟩ | exact fun h => ⟨h, h, h, trivial⟩)); case h => ((try intro hg); first | exact S_callI 1000 hc rfl rfl | (apply Pu.ok; repeat' (first | rfl | exact .inK (by simp only [InK]; omega) | exact .inK (by simp only [InK]; simp at hg; omega) | exact .wr | constructor | decide | omega))))
    | refine dpickAnd rfl rfl rfl rfl rfl ?_ | refine dpickOr rfl rfl rfl rfl rfl ?_
    | (apply dt rfl; case h => first | exact S_alloc _ rfl | exact S_box _ rfl rfl)
    | (apply ds; case h => first | exact S_store rfl rfl rfl rfl rfl rfl)
    | (apply dm rfl; case h => first | exact M_d rfl | exact S_alloc 2001 rfl | exact S_alloc 2002 rfl | exact S_alloc 2003 rfl | exact S_alloc 2004 rfl | exact S_alloc 2005 rfl)
    | fail)
  exact endI_n (by first | exact fun _ => rfl | exact mem_one | exact mem_two | exact mem_three)
theorem clone_vecs (l : List Vec) (hl : l.length ≤ 1099511627776) : FnG Try.prog 38 [.dat false (.slice (l.map Vec.cells))] [] (.own 1000 0 0 l.length) [(1000, .row 0 false true 4 (l.map Vec.cells))] := by
  refine fnG_of Try.func38 rfl rfl rfl ?_
  simp only [envD]
  repeat' (first
    | refine DW_isnil rfl rfl rfl (fun h0 => ?_) ?_
    | (apply dt rfl; case h => exact S_litO (els := []) _ rfl rfl rfl rfl rfl)
    | (apply Stp.go; case a => constructor)
    | refine blk_hit rfl ?_ | refine blk_miss rfl ?_ | refine dnilD (by kernel_rfl) ?_ | refine DW_cond_t rfl ?_ | refine DW_cond_f rfl ?_
    | refine dpOff rfl rfl ?_
    | ((first | apply dX rfl | apply dXon rfl rfl | apply dpMay rfl rfl (by intro h; first | trivial | exact ⟨h, trivial⟩ | exact ⟨h, h, trivial⟩ | exact ⟨h, h, h, trivial⟩)); (case h => ((try intro hg); first | exact S_appM (f := Vec.cells) (us := []) (bs := l) rfl rfl (.dat _ _) rfl rfl (.inr ⟨rfl, inferInstance⟩) rfl (by simp only [List.length_nil]; omega) | exact S_al rfl | exact S_bx rfl rfl | exact S_store rfl rfl rfl rfl rfl rfl | (apply Pu.ok; repeat' (first | rfl | exact .inK (by simp only [InK]; omega) | exact .inK (by simp only [InK]; simp at hg; omega) | exact .wr | constructor | decide | omega)))); (try case hp => constructor))
    | refine dpickAnd rfl rfl rfl rfl rfl ?_ | refine dpickOr rfl rfl rfl rfl rfl ?_
    | fail)
  · have hl0 : l = [] := List.map_eq_nil_iff.1 h0
    subst hl0
    exact gOwn (Wk_g (fun g => none) rfl rfl (by (repeat' (first | exact trivial | rfl | exact listLe_map _ | exact ⟨_, rfl, .inl rfl⟩ | exact ⟨_, rfl, .inr (.inl rfl)⟩ | exact ⟨_, rfl, .inr (.inr rfl)⟩ | refine ⟨_, _, rfl, rfl, ?_⟩ | exact ⟨_, rfl, rfl⟩ | exact ⟨_, _, _, _, rfl, rfl, rfl⟩ | exact ⟨_, rfl⟩ | exact ⟨_, _, rfl⟩ | refine ⟨_, (rfl : D.fnd _ _ = D.fnd _ _), ?_⟩ | apply And.intro))))
  · exact gOwn (Wk_g (fun g => if g = 1000 then some 5 else none) rfl rfl (by (repeat' (first | exact trivial | rfl | exact listLe_map _ | exact ⟨_, rfl, .inl rfl⟩ | exact ⟨_, rfl, .inr (.inl rfl)⟩ | exact ⟨_, rfl, .inr (.inr rfl)⟩ | refine ⟨_, _, rfl, rfl, ?_⟩ | exact ⟨_, rfl, rfl⟩ | exact ⟨_, _, _, _, rfl, rfl, rfl⟩ | exact ⟨_, rfl⟩ | exact ⟨_, _, rfl⟩ | refine ⟨_, (rfl : D.fnd _ _ = D.fnd _ _), ?_⟩ | apply And.intro))))
theorem vec_Sorted (l : List Vec) (hl : l.length ≤ 1099511627776) : FnF Try.prog 26 [.slice (l.map Vec.cells)] (.slice ((sortL l).map Vec.cells)) := by
  refine fnF_of Try.func26 rfl rfl rfl ?_
  simp only [envOf]
  have hc := clone_vecs l hl
  have hs := vec_SortStable l hl
  have hsl := sortL_len l
  repeat' (first
    | (refine DW_seal 2 rfl rfl (by simp [hsl]) ?_; refine DW_ret ?_)
    | (apply Stp.go; case a => constructor)
    | refine blk_hit rfl ?_ | refine blk_miss rfl ?_ | refine dnilD (by kernel_rfl) ?_ | refine DW_cond_t rfl ?_ | refine DW_cond_f rfl ?_
    | refine dpOff rfl rfl ?_
    | (apply dt rfl; case h => first | exact S_callG0 _ hc rfl rfl (.own _ _))
    | ((first | apply dX rfl | apply dXon rfl rfl | apply dpMay rfl rfl (by intro h; first | trivial | exact ⟨h, trivial⟩ | exact ⟨h, h, trivial⟩ | exact ⟨h, h, h, trivial⟩)); (case h => ((try intro hg); first | exact S_callG0 _ hc rfl rfl (.own _ _) | exact S_callI 5 hs rfl rfl | exact S_al rfl | exact S_bx rfl rfl | exact S_store rfl rfl rfl rfl rfl rfl | (apply Pu.ok; repeat' (first | rfl | exact .inK (by simp only [InK]; omega) | exact .inK (by simp only [InK]; simp at hg; omega) | exact .wr | constructor | decide | omega)))); (try case hp => constructor))
    | refine dpickAnd rfl rfl rfl rfl rfl ?_ | refine dpickOr rfl rfl rfl rfl rfl ?_
    | fail)
  exact ret1 rfl (.inl rfl) rfl
end Go.Proofs.Ytkppkgahdoglpaa
