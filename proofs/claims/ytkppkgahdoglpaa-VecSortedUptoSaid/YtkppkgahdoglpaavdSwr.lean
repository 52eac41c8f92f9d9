/- Contracts: slices' swapRange, rotate, insertionSort at vectors. -/
import Derived.Test.YtkppkgahdoglpaavbInp
import Derived.Test.YtkppkgahdoglpaavcSrt
namespace Go.Proofs.Ytkppkgahdoglpaa
open Go.RowKit
instance : CellsI Vec.cells 4 := ⟨fun _ => rfl, fun t d h => by
  simp only [Vec.cells, List.mem_cons, List.mem_nil_iff, or_false] at h
  rcases h with rfl | rfl | rfl | rfl <;> rfl⟩
instance : FlatI Vec.cells := ⟨fun t d h => by
  simp only [Vec.cells, List.mem_cons, List.mem_nil_iff, or_false] at h
  rcases h with rfl | rfl | rfl | rfl <;> exact .int _ _⟩
theorem vget {us : List Vec} {i : Int} {k : Nat} (h : i = (k : Int)) (hk : k < us.length) : us[i.toNat]? = some (vat us k) := by
  subst h; rw [Int.toNat_natCast]; exact vat_get hk
theorem vgetM {us : List Vec} {i : Int} {k : Nat} (h : i = (k : Int)) (hk : k < us.length) : (us.map Vec.cells)[i.toNat]? = some (vat us k).cells := by
  rw [List.getElem?_map, vget h hk]; rfl
def cmpF : V := .fn 27 []
attribute [local irreducible] SStep DW DWS DOps thenQ inBlk loopQ loopQS endI retQ retQG FnF FnG FnI Wk IntKind.wrap IntKind.andI IntKind.orI IntKind.xorI IntKind.andNotI IntKind.shlI IntKind.shrI swapR swp vat Vec.cmp rotL sortL sortSeg
set_option maxHeartbeats 2000000 in
theorem vec_swapRange (xs : List Vec) (a b n : Nat) (hl : xs.length ≤ 1099511627776) (hab : a + n ≤ b) (hb : b + n ≤ xs.length) :
    FnI Try.prog 114 [.own 1000 0 0 xs.length, .dat false (.int .i64 a), .dat false (.int .i64 b), .dat false (.int .i64 n), .dat false cmpF] [(1000, .row 0 false true 4 (xs.map Vec.cells))]
      [(1000, .row 0 false true 4 ((swapR xs a b n).map Vec.cells))] := by
  refine fnI_of Try.func114 rfl rfl rfl rfl ?_
  simp only [envD]
  repeat' (first
    | refine DWS_seq ?_
    | refine DWS_region ?_
    | refine DWS_draw ?_
    | refine dnilP ?_
    | refine dnilD (by kernel_rfl) ?_
    | refine then_normal ?_
    | refine then_exit ?_
    | refine then_ret ?_
    | refine DWS_block ?_
    | refine blk_normal ?_
    | refine blk_ret ?_
    | refine blk_hit rfl ?_
    | refine blk_miss rfl ?_
    | refine loopS_exit ?_
    | refine loopS_ret ?_
    | refine DWS_ret ?_
    | refine DWS_exit ?_
    | refine DWS_skip ?_
    | refine DWS_cond_t rfl ?_
    | refine DWS_cond_f rfl ?_
    | (apply dpC rfl; case h => first | (apply Pu.ok; repeat' (first | rfl | exact .inK (by simp only [InK]; omega) | exact .inK (by simp only [InK]; simp at hg; omega) | exact .wr | constructor | decide | omega)))
    | refine dpOff rfl rfl ?_
    | ((first | apply dp rfl | apply dpOn rfl rfl | apply dpMay rfl rfl (by first | exact fun _ => trivial | exact fun h => ⟨h, trivial⟩ | exact fun h => ⟨h, h, trivial⟩ | exact fun h => ⟨h, h, h, trivial⟩)); case h => ((try intro hg); first | (apply Pu.ok; repeat' (first | rfl | exact .inK (by simp only [InK]; omega) | exact .inK (by simp only [InK]; simp at hg; omega) | exact .wr | constructor | decide | omega))))
    | refine dpickAnd rfl rfl rfl rfl rfl ?_ | refine dpickOr rfl rfl rfl rfl rfl ?_
    | (apply dt rfl; case h => first | exact S_alloc _ rfl | exact S_box _ rfl rfl)
    | (apply ds; case h => first | exact S_store rfl rfl rfl rfl rfl rfl)
    | (apply dm rfl; case h => first | exact M_d rfl | exact S_alloc 2001 rfl | exact S_alloc 2002 rfl | exact S_alloc 2003 rfl | exact S_alloc 2004 rfl | exact S_alloc 2005 rfl)
    | fail)
  refine DWS_loop (fun k : Nat => ⟨[(0, .own 1000 0 0 xs.length), (1, .dat false (.int .i64 a)), (2, .dat false (.int .i64 b)), (3, .dat false (.int .i64 n)), (10, .dat true (.int .i64 k))], [(1000, .row 0 false true 4 ((swapR xs a b k).map Vec.cells))], 38⟩)
    (fun k => k ≤ n) (fun k => n - k) 0 (Nat.zero_le _)
    (by with_unfolding_all exact ⟨rfl, by first | exact fun _ => rfl | exact fun _ => by with_unfolding_all rfl | exact mem_one | exact mem_two | exact mem_three, by repeat' (first | exact slots_nil | exact .inl rfl | exact .inr (.inl ⟨_, rfl, rfl⟩) | apply slots_cons)⟩) (fun k hk => ?_)
  have hul := swapR_len xs a b k
  have hnx : swapR xs a b (k + 1) = swp (swapR xs a b k) (a + k) (b + k) := by with_unfolding_all rfl
  generalize hus : swapR xs a b k = us at hul hnx ⊢
  by_cases hlt : k < n
  · have e1 : (a : Int) + (k : Int) = ((a + k : Nat) : Int) := by omega
    have e2 : (b : Int) + (k : Int) = ((b + k : Nat) : Int) := by omega
    have h1 := vgetM e1 (show a + k < us.length by omega)
    have h2 := vgetM e2 (show b + k < us.length by omega)
    have g1 := vget e1 (show a + k < us.length by omega)
    have g2 : (us.set ((a : Int) + (k : Int)).toNat (vat us (b + k)))[((b : Int) + (k : Int)).toNat]? = some (vat (us.set (a + k) (vat us (b + k))) (b + k)) := by
      rw [show ((a : Int) + (k : Int)).toNat = a + k by omega]
      exact vget e2 (by rw [List.length_set]; omega)
    repeat' (first
    | refine DWS_seq ?_
    | refine DWS_region ?_
    | refine DWS_draw ?_
    | refine dnilP ?_
    | refine dnilD (by kernel_rfl) ?_
    | refine then_normal ?_
    | refine then_exit ?_
    | refine then_ret ?_
    | refine DWS_block ?_
    | refine blk_normal ?_
    | refine blk_ret ?_
    | refine blk_hit rfl ?_
    | refine blk_miss rfl ?_
    | refine loopS_exit ?_
    | refine loopS_ret ?_
    | refine DWS_ret ?_
    | refine DWS_exit ?_
    | refine DWS_skip ?_
    | refine DWS_cond_t rfl ?_
    | refine DWS_cond_f rfl ?_
    | (apply dpC rfl; case h => first | (apply Pu.ok; repeat' (first | rfl | exact .inK (by simp only [InK]; omega) | exact .inK (by simp only [InK]; simp at hg; omega) | exact .wr | constructor | decide | omega)))
    | refine dpOff rfl rfl ?_
    | ((first | apply dp rfl | apply dpOn rfl rfl | apply dpMay rfl rfl (by first | exact fun _ => trivial | exact fun h => ⟨h, trivial⟩ | exact fun h => ⟨h, h, trivial⟩ | exact fun h => ⟨h, h, h, trivial⟩)); case h => ((try intro hg); first | exact as_bool (S_lss rfl rfl) (decide_eq_true (by omega : (k : Int) < (n : Int))) | exact S_ixO rfl rfl rfl (by omega) (by omega) | exact S_load_rptr rfl rfl h1 rfl | exact S_load_rptr rfl rfl h2 rfl | exact S_storeM (f := Vec.cells) (a := vat us (b + k)) rfl rfl g1 rfl rfl (.inr ⟨rfl, inferInstance⟩) rfl rfl | exact S_storeM (f := Vec.cells) (a := vat us (a + k)) rfl rfl g2 rfl rfl (.inr ⟨rfl, inferInstance⟩) rfl rfl | (apply Pu.ok; repeat' (first | rfl | exact .inK (by simp only [InK]; omega) | exact .inK (by simp only [InK]; simp at hg; omega) | exact .wr | constructor | decide | omega))))
    | refine dpickAnd rfl rfl rfl rfl rfl ?_ | refine dpickOr rfl rfl rfl rfl rfl ?_
    | (apply dt rfl; case h => first | exact S_load_rptr rfl rfl h1 rfl | exact S_load_rptr rfl rfl h2 rfl | exact S_storeM (f := Vec.cells) (a := vat us (b + k)) rfl rfl g1 rfl rfl (.inr ⟨rfl, inferInstance⟩) rfl rfl | exact S_storeM (f := Vec.cells) (a := vat us (a + k)) rfl rfl g2 rfl rfl (.inr ⟨rfl, inferInstance⟩) rfl rfl | exact S_alloc _ rfl | exact S_box _ rfl rfl)
    | (apply ds; case h => first | exact S_load_rptr rfl rfl h1 rfl | exact S_load_rptr rfl rfl h2 rfl | exact S_storeM (f := Vec.cells) (a := vat us (b + k)) rfl rfl g1 rfl rfl (.inr ⟨rfl, inferInstance⟩) rfl rfl | exact S_storeM (f := Vec.cells) (a := vat us (a + k)) rfl rfl g2 rfl rfl (.inr ⟨rfl, inferInstance⟩) rfl rfl | exact S_store rfl rfl rfl rfl rfl rfl)
    | (apply dm rfl; case h => first | exact S_load_rptr rfl rfl h1 rfl | exact S_load_rptr rfl rfl h2 rfl | exact S_storeM (f := Vec.cells) (a := vat us (b + k)) rfl rfl g1 rfl rfl (.inr ⟨rfl, inferInstance⟩) rfl rfl | exact S_storeM (f := Vec.cells) (a := vat us (a + k)) rfl rfl g2 rfl rfl (.inr ⟨rfl, inferInstance⟩) rfl rfl | exact M_d rfl | exact S_alloc 2001 rfl | exact S_alloc 2002 rfl | exact S_alloc 2003 rfl | exact S_alloc 2004 rfl | exact S_alloc 2005 rfl)
    | fail)
    refine loopS_again (k + 1) hlt (by omega) ?_
    have hsw : (us.set ((a : Int) + (k : Int)).toNat (vat us (b + k))).set ((b : Int) + (k : Int)).toNat (vat us (a + k)) = swapR xs a b (k + 1) := by
      rw [hnx, show ((a : Int) + (k : Int)).toNat = a + k by omega, show ((b : Int) + (k : Int)).toNat = b + k by omega]
      with_unfolding_all rfl
    rw [← hsw]
    exact ⟨rfl, by first | exact fun _ => rfl | exact fun _ => by with_unfolding_all rfl | exact mem_one | exact mem_two | exact mem_three, by repeat' (first | exact slots_nil | exact .inl rfl | exact .inr (.inl ⟨_, rfl, rfl⟩) | apply slots_cons)⟩
  · have hkn : k = n := by omega
    subst hkn
    rw [hus]
    repeat' (first
    | refine DWS_seq ?_
    | refine DWS_region ?_
    | refine DWS_draw ?_
    | refine dnilP ?_
    | refine dnilD (by kernel_rfl) ?_
    | refine then_normal ?_
    | refine then_exit ?_
    | refine then_ret ?_
    | refine DWS_block ?_
    | refine blk_normal ?_
    | refine blk_ret ?_
    | refine blk_hit rfl ?_
    | refine blk_miss rfl ?_
    | refine loopS_exit ?_
    | refine loopS_ret ?_
    | refine DWS_ret ?_
    | refine DWS_exit ?_
    | refine DWS_skip ?_
    | refine DWS_cond_t rfl ?_
    | refine DWS_cond_f rfl ?_
    | (apply dpC rfl; case h => first | (apply Pu.ok; repeat' (first | rfl | exact .inK (by simp only [InK]; omega) | exact .inK (by simp only [InK]; simp at hg; omega) | exact .wr | constructor | decide | omega)))
    | refine dpOff rfl rfl ?_
    | ((first | apply dp rfl | apply dpOn rfl rfl | apply dpMay rfl rfl (by first | exact fun _ => trivial | exact fun h => ⟨h, trivial⟩ | exact fun h => ⟨h, h, trivial⟩ | exact fun h => ⟨h, h, h, trivial⟩)); case h => ((try intro hg); first | exact as_bool (S_lss rfl rfl) (decide_eq_false (by omega : ¬ (k : Int) < (k : Int))) | (apply Pu.ok; repeat' (first | rfl | exact .inK (by simp only [InK]; omega) | exact .inK (by simp only [InK]; simp at hg; omega) | exact .wr | constructor | decide | omega))))
    | refine dpickAnd rfl rfl rfl rfl rfl ?_ | refine dpickOr rfl rfl rfl rfl rfl ?_
    | (apply dt rfl; case h => first | exact S_alloc _ rfl | exact S_box _ rfl rfl)
    | (apply ds; case h => first | exact S_store rfl rfl rfl rfl rfl rfl)
    | (apply dm rfl; case h => first | exact M_d rfl | exact S_alloc 2001 rfl | exact S_alloc 2002 rfl | exact S_alloc 2003 rfl | exact S_alloc 2004 rfl | exact S_alloc 2005 rfl)
    | fail)
    exact endI_n (by first | exact fun _ => rfl | exact mem_one | exact mem_two | exact mem_three)
structure Rot (T ys : List Vec) (m i j : Nat) : Prop where
  p : ys.Perm T
  o : ∀ k, k < m - i ∨ m + j ≤ k → vat ys k = vat T k
  l : ∀ t, t < i → vat ys (m - i + t) = vat T (m - i + j + t)
  r : ∀ t, t < j → vat ys (m + t) = vat T (m - i + t)
theorem Rot.start {xs : List Vec} {a m b : Nat} (h1 : a ≤ m) (h2 : m ≤ b) (hb : b ≤ xs.length) : Rot (rotL xs a m b) xs m (m - a) (b - m) := by
  have hat := rotL_at h1 h2 hb
  refine ⟨(rotL_perm xs h1 h2).symm, fun k hk => ?_, fun t ht => ?_, fun t ht => ?_⟩
  · rw [hat]
    rcases hk with hk | hk
    · rw [if_pos (by omega)]
    · rw [if_neg (by omega), if_neg (by omega), if_neg (by omega)]
  · rw [hat, if_neg (by omega), if_neg (by omega), if_pos (by omega)]
    congr 1; omega
  · rw [hat, if_neg (by omega), if_pos (by omega)]
    congr 1; omega
theorem Rot.left {T ys : List Vec} {m i j : Nat} (h : Rot T ys m i j) (hm : i ≤ m) (hj : j < i) (hl : m + j ≤ ys.length) : Rot T (swapR ys (m - i) m j) m (i - j) j := by
  have hat := swapR_at (xs := ys) (a := m - i) (b := m) (n := j) (by omega) (by omega)
  refine ⟨(swapR_perm (by omega) (by omega)).trans h.p, fun k hk => ?_, fun t ht => ?_, fun t ht => ?_⟩
  · rw [hat]
    by_cases c1 : m - i ≤ k ∧ k < m - i + j
    · rw [if_pos c1]
      have := h.r (k - (m - i)) (by omega)
      rw [this]; congr 1; omega
    · rw [if_neg c1, if_neg (by omega)]
      exact h.o k (by omega)
  · rw [hat, if_neg (by omega), if_neg (by omega)]
    have := h.l (j + t) (by omega)
    rw [show m - (i - j) + t = m - i + (j + t) by omega, this]; congr 1; omega
  · rw [hat, if_neg (by omega), if_pos (by omega)]
    have := h.l t (by omega)
    rw [show m - i + (m + t - m) = m - i + t by omega, this]; congr 1; omega
theorem Rot.right {T ys : List Vec} {m i j : Nat} (h : Rot T ys m i j) (hm : i ≤ m) (hj : i ≤ j) (hl : m + j ≤ ys.length) : Rot T (swapR ys (m - i) (m + j - i) i) m i (j - i) := by
  have hat := swapR_at (xs := ys) (a := m - i) (b := m + j - i) (n := i) (by omega) (by omega)
  refine ⟨(swapR_perm (by omega) (by omega)).trans h.p, fun k hk => ?_, fun t ht => ?_, fun t ht => ?_⟩
  · rw [hat]
    by_cases c0 : m - i ≤ k ∧ k < m - i + i
    · omega
    · rw [if_neg c0]
      by_cases c1 : m + j - i ≤ k ∧ k < m + j - i + i
      · rw [if_pos c1]
        have := h.l (k - (m + j - i)) (by omega)
        rw [this]; congr 1; omega
      · rw [if_neg c1]
        exact h.o k (by omega)
  · rw [hat, if_pos (by omega)]
    have := h.r (j - i + t) (by omega)
    rw [show m + j - i + (m - i + t - (m - i)) = m + (j - i + t) by omega, this]; congr 1; omega
  · rw [hat, if_neg (by omega), if_neg (by omega)]
    exact h.r t (by omega)
theorem Rot.zero {T ys : List Vec} {m i : Nat} (h : Rot T ys m i 0) : ys = T := by
  refine vat_ext h.p.length_eq (fun k _ => ?_)
  by_cases c : k < m - i ∨ m + 0 ≤ k
  · exact h.o k c
  · have := h.l (k - (m - i)) (by omega)
    rw [show m - i + (k - (m - i)) = k by omega, show m - i + 0 + (k - (m - i)) = k by omega] at this
    exact this
set_option maxHeartbeats 2000000 in
theorem vec_rotate (xs : List Vec) (a m b : Nat) (hl : xs.length ≤ 1099511627776) (ham : a < m) (hmb : m < b) (hb : b ≤ xs.length) :
    FnI Try.prog 94 [.own 1000 0 0 xs.length, .dat false (.int .i64 a), .dat false (.int .i64 m), .dat false (.int .i64 b), .dat false cmpF] [(1000, .row 0 false true 4 (xs.map Vec.cells))]
      [(1000, .row 0 false true 4 ((rotL xs a m b).map Vec.cells))] := by
  refine fnI_of Try.func94 rfl rfl rfl rfl ?_
  simp only [envD]
  have hst := Rot.start (Nat.le_of_lt ham) (Nat.le_of_lt hmb) hb
  generalize rotL xs a m b = T at hst
  repeat' (first
    | refine DWS_seq ?_
    | refine DWS_region ?_
    | refine DWS_draw ?_
    | refine dnilP ?_
    | refine dnilD (by kernel_rfl) ?_
    | refine then_normal ?_
    | refine then_exit ?_
    | refine then_ret ?_
    | refine DWS_block ?_
    | refine blk_normal ?_
    | refine blk_ret ?_
    | refine blk_hit rfl ?_
    | refine blk_miss rfl ?_
    | refine loopS_exit ?_
    | refine loopS_ret ?_
    | refine DWS_ret ?_
    | refine DWS_exit ?_
    | refine DWS_skip ?_
    | refine DWS_cond_t rfl ?_
    | refine DWS_cond_f rfl ?_
    | (apply dpC rfl; case h => first | (apply Pu.ok; repeat' (first | rfl | exact .inK (by simp only [InK]; omega) | exact .inK (by simp only [InK]; simp at hg; omega) | exact .wr | constructor | decide | omega)))
    | refine dpOff rfl rfl ?_
    | ((first | apply dp rfl | apply dpOn rfl rfl | apply dpMay rfl rfl (by first | exact fun _ => trivial | exact fun h => ⟨h, trivial⟩ | exact fun h => ⟨h, h, trivial⟩ | exact fun h => ⟨h, h, h, trivial⟩)); case h => ((try intro hg); first | (apply Pu.ok; repeat' (first | rfl | exact .inK (by simp only [InK]; omega) | exact .inK (by simp only [InK]; simp at hg; omega) | exact .wr | constructor | decide | omega))))
    | refine dpickAnd rfl rfl rfl rfl rfl ?_ | refine dpickOr rfl rfl rfl rfl rfl ?_
    | (apply dt rfl; case h => first | exact S_alloc _ rfl | exact S_box _ rfl rfl)
    | (apply ds; case h => first | exact S_store rfl rfl rfl rfl rfl rfl)
    | (apply dm rfl; case h => first | exact M_d rfl | exact S_alloc 2001 rfl | exact S_alloc 2002 rfl | exact S_alloc 2003 rfl | exact S_alloc 2004 rfl | exact S_alloc 2005 rfl)
    | fail)
  refine DWS_loop (fun q : Nat × Nat × List Vec => ⟨[(0, .own 1000 0 0 xs.length), (2, .dat false (.int .i64 m)), (4, .dat false cmpF), (10, .dat true (.int .i64 q.1)), (11, .dat true (.int .i64 q.2.1))], [(1000, .row 0 false true 4 (q.2.2.map Vec.cells))], 58⟩)
    (fun q => q.2.2.length = xs.length ∧ 0 < q.1 ∧ 0 < q.2.1 ∧ q.1 ≤ m ∧ m + q.2.1 ≤ xs.length ∧ Rot T q.2.2 m q.1 q.2.1) (fun q => q.1 + q.2.1) (m - a, b - m, xs) ⟨rfl, by simp only; omega, by simp only; omega, by simp only; omega, by simp only; omega, hst⟩
    ?_ (fun q hq => ?_)
  · rw [show ((m - a : Nat) : Int) = (m : Int) - (a : Int) by omega, show ((b - m : Nat) : Int) = (b : Int) - (m : Int) by omega]
    exact ⟨rfl, by first | exact fun _ => rfl | exact fun _ => by with_unfolding_all rfl | exact mem_one | exact mem_two | exact mem_three, by repeat' (first | exact slots_nil | exact .inl rfl | exact .inr (.inl ⟨_, rfl, rfl⟩) | apply slots_cons)⟩
  obtain ⟨i, j, us⟩ := q
  obtain ⟨hul, hi0, hj0, him, hmj, hr⟩ := hq
  simp only at hul hi0 hj0 him hmj hr
  dsimp only
  have ei : (m : Int) - (i : Int) = ((m - i : Nat) : Int) := by omega
  by_cases hij : i = j
  · subst hij
    have hz := hr.right him (Nat.le_refl _) (by omega)
    rw [Nat.sub_self] at hz
    have hz' := hz.zero
    have hc := vec_swapRange us (m - i) m i (by omega) (by omega) (by omega)
    rw [show m + i - i = m by omega] at hz'
    rw [hz', hul, ← ei] at hc
    repeat' (first
    | refine DWS_seq ?_
    | refine DWS_region ?_
    | refine DWS_draw ?_
    | refine dnilP ?_
    | refine dnilD (by kernel_rfl) ?_
    | refine then_normal ?_
    | refine then_exit ?_
    | refine then_ret ?_
    | refine DWS_block ?_
    | refine blk_normal ?_
    | refine blk_ret ?_
    | refine blk_hit rfl ?_
    | refine blk_miss rfl ?_
    | refine loopS_exit ?_
    | refine loopS_ret ?_
    | refine DWS_ret ?_
    | refine DWS_exit ?_
    | refine DWS_skip ?_
    | refine DWS_cond_t rfl ?_
    | refine DWS_cond_f rfl ?_
    | (apply dpC rfl; case h => first | (apply Pu.ok; repeat' (first | rfl | exact .inK (by simp only [InK]; omega) | exact .inK (by simp only [InK]; simp at hg; omega) | exact .wr | constructor | decide | omega)))
    | (apply dmC rfl; case h => first | exact S_callI 1000 hc rfl rfl)
    | refine dpOff rfl rfl ?_
    | (apply dmOn rfl rfl; case h => first | exact S_callI 1000 hc rfl rfl)
    | ((first | apply dp rfl | apply dpOn rfl rfl | apply dpMay rfl rfl (by first | exact fun _ => trivial | exact fun h => ⟨h, trivial⟩ | exact fun h => ⟨h, h, trivial⟩ | exact fun h => ⟨h, h, h, trivial⟩)); case h => ((try intro hg); first | exact as_bool (S_neq rfl rfl) (decide_eq_false (fun h => h rfl)) | exact S_callI 1000 hc rfl rfl | (apply Pu.ok; repeat' (first | rfl | exact .inK (by simp only [InK]; omega) | exact .inK (by simp only [InK]; simp at hg; omega) | exact .wr | constructor | decide | omega))))
    | refine dpickAnd rfl rfl rfl rfl rfl ?_ | refine dpickOr rfl rfl rfl rfl rfl ?_
    | (apply dt rfl; case h => first | exact S_alloc _ rfl | exact S_box _ rfl rfl)
    | (apply ds; case h => first | exact S_store rfl rfl rfl rfl rfl rfl)
    | (apply dm rfl; case h => first | exact M_d rfl | exact S_alloc 2001 rfl | exact S_alloc 2002 rfl | exact S_alloc 2003 rfl | exact S_alloc 2004 rfl | exact S_alloc 2005 rfl)
    | fail)
    exact endI_n (by first | exact fun _ => rfl | exact mem_one | exact mem_two | exact mem_three)
  · have hne : ¬ (i : Int) = (j : Int) := by omega
    by_cases hgt : j < i
    · have hc := vec_swapRange us (m - i) m j (by omega) (by omega) (by omega)
      have hr' := hr.left him hgt (by omega)
      have hsl := swapR_len us (m - i) m j
      rw [hul, ← ei] at hc
      generalize swapR us (m - i) m j = ys at hc hr' hsl
      repeat' (first
    | refine DWS_seq ?_
    | refine DWS_region ?_
    | refine DWS_draw ?_
    | refine dnilP ?_
    | refine dnilD (by kernel_rfl) ?_
    | refine then_normal ?_
    | refine then_exit ?_
    | refine then_ret ?_
    | refine DWS_block ?_
    | refine blk_normal ?_
    | refine blk_ret ?_
    | refine blk_hit rfl ?_
    | refine blk_miss rfl ?_
    | refine loopS_exit ?_
    | refine loopS_ret ?_
    | refine DWS_ret ?_
    | refine DWS_exit ?_
    | refine DWS_skip ?_
    | refine DWS_cond_t rfl ?_
    | refine DWS_cond_f rfl ?_
    | (apply dpC rfl; case h => first | (apply Pu.ok; repeat' (first | rfl | exact .inK (by simp only [InK]; omega) | exact .inK (by simp only [InK]; simp at hg; omega) | exact .wr | constructor | decide | omega)))
    | (apply dmC rfl; case h => first | exact S_callI 1000 hc rfl rfl)
    | refine dpOff rfl rfl ?_
    | (apply dmOn rfl rfl; case h => first | exact S_callI 1000 hc rfl rfl)
    | ((first | apply dp rfl | apply dpOn rfl rfl | apply dpMay rfl rfl (by first | exact fun _ => trivial | exact fun h => ⟨h, trivial⟩ | exact fun h => ⟨h, h, trivial⟩ | exact fun h => ⟨h, h, h, trivial⟩)); case h => ((try intro hg); first | exact as_bool (S_neq rfl rfl) (decide_eq_true hne) | exact as_bool (S_gtr rfl rfl) (decide_eq_true (by omega : (j : Int) < (i : Int))) | exact S_callI 1000 hc rfl rfl | (apply Pu.ok; repeat' (first | rfl | exact .inK (by simp only [InK]; omega) | exact .inK (by simp only [InK]; simp at hg; omega) | exact .wr | constructor | decide | omega))))
    | refine dpickAnd rfl rfl rfl rfl rfl ?_ | refine dpickOr rfl rfl rfl rfl rfl ?_
    | (apply dt rfl; case h => first | exact S_alloc _ rfl | exact S_box _ rfl rfl)
    | (apply ds; case h => first | exact S_store rfl rfl rfl rfl rfl rfl)
    | (apply dm rfl; case h => first | exact M_d rfl | exact S_alloc 2001 rfl | exact S_alloc 2002 rfl | exact S_alloc 2003 rfl | exact S_alloc 2004 rfl | exact S_alloc 2005 rfl)
    | fail)
      refine loopS_again (i - j, j, ys) ⟨by simp only; omega, by simp only; omega, hj0, by simp only; omega, hmj, hr'⟩ (by simp only; omega) ?_
      rw [show ((i - j : Nat) : Int) = (i : Int) - (j : Int) by omega]
      exact ⟨rfl, by first | exact fun _ => rfl | exact fun _ => by with_unfolding_all rfl | exact mem_one | exact mem_two | exact mem_three, by repeat' (first | exact slots_nil | exact .inl rfl | exact .inr (.inl ⟨_, rfl, rfl⟩) | apply slots_cons)⟩
    · have hc := vec_swapRange us (m - i) (m + j - i) i (by omega) (by omega) (by omega)
      have hr' := hr.right him (by omega) (by omega)
      have hsl := swapR_len us (m - i) (m + j - i) i
      have ej : (m : Int) + (j : Int) - (i : Int) = ((m + j - i : Nat) : Int) := by omega
      rw [hul, ← ei, ← ej] at hc
      generalize swapR us (m - i) (m + j - i) i = ys at hc hr' hsl
      repeat' (first
    | refine DWS_seq ?_
    | refine DWS_region ?_
    | refine DWS_draw ?_
    | refine dnilP ?_
    | refine dnilD (by kernel_rfl) ?_
    | refine then_normal ?_
    | refine then_exit ?_
    | refine then_ret ?_
    | refine DWS_block ?_
    | refine blk_normal ?_
    | refine blk_ret ?_
    | refine blk_hit rfl ?_
    | refine blk_miss rfl ?_
    | refine loopS_exit ?_
    | refine loopS_ret ?_
    | refine DWS_ret ?_
    | refine DWS_exit ?_
    | refine DWS_skip ?_
    | refine DWS_cond_t rfl ?_
    | refine DWS_cond_f rfl ?_
    | (apply dpC rfl; case h => first | (apply Pu.ok; repeat' (first | rfl | exact .inK (by simp only [InK]; omega) | exact .inK (by simp only [InK]; simp at hg; omega) | exact .wr | constructor | decide | omega)))
    | (apply dmC rfl; case h => first | exact S_callI 1000 hc rfl rfl)
    | refine dpOff rfl rfl ?_
    | (apply dmOn rfl rfl; case h => first | exact S_callI 1000 hc rfl rfl)
    | ((first | apply dp rfl | apply dpOn rfl rfl | apply dpMay rfl rfl (by first | exact fun _ => trivial | exact fun h => ⟨h, trivial⟩ | exact fun h => ⟨h, h, trivial⟩ | exact fun h => ⟨h, h, h, trivial⟩)); case h => ((try intro hg); first | exact as_bool (S_neq rfl rfl) (decide_eq_true hne) | exact as_bool (S_gtr rfl rfl) (decide_eq_false (by omega : ¬ (j : Int) < (i : Int))) | exact S_callI 1000 hc rfl rfl | (apply Pu.ok; repeat' (first | rfl | exact .inK (by simp only [InK]; omega) | exact .inK (by simp only [InK]; simp at hg; omega) | exact .wr | constructor | decide | omega))))
    | refine dpickAnd rfl rfl rfl rfl rfl ?_ | refine dpickOr rfl rfl rfl rfl rfl ?_
    | (apply dt rfl; case h => first | exact S_alloc _ rfl | exact S_box _ rfl rfl)
    | (apply ds; case h => first | exact S_store rfl rfl rfl rfl rfl rfl)
    | (apply dm rfl; case h => first | exact M_d rfl | exact S_alloc 2001 rfl | exact S_alloc 2002 rfl | exact S_alloc 2003 rfl | exact S_alloc 2004 rfl | exact S_alloc 2005 rfl)
    | fail)
      refine loopS_again (i, j - i, ys) ⟨by simp only; omega, hi0, by simp only; omega, him, by simp only; omega, hr'⟩ (by simp only; omega) ?_
      rw [show ((j - i : Nat) : Int) = (j : Int) - (i : Int) by omega]
      exact ⟨rfl, by first | exact fun _ => rfl | exact fun _ => by with_unfolding_all rfl | exact mem_one | exact mem_two | exact mem_three, by repeat' (first | exact slots_nil | exact .inl rfl | exact .inr (.inl ⟨_, rfl, rfl⟩) | apply slots_cons)⟩
end Go.Proofs.Ytkppkgahdoglpaa
