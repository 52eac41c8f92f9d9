/- MD5: a block. -/
import Derived.Test.YtfmaehhloffabaaycMd5
namespace Go.Proofs.Ytfmaehhloffabaa
open Go.RowKit
theorem wrap_u32 (a : Int) : IntKind.u32.wrap a = a % 4294967296 := by
  simp [IntKind.wrap, IntKind.bits, IntKind.signed]
theorem shl_u32 (a : Int) (k : Nat) (hk : k ≤ 32) (h0 : 0 ≤ a) (h1 : a * 2 ^ k < 4294967296) : IntKind.u32.shlI a (k : Int) = a * 2 ^ k := by
  unfold IntKind.shlI
  have hb : IntKind.u32.bits = 32 := rfl
  rw [hb, Int.toNat_natCast, Nat.min_eq_left hk, wrap_u32]
  have : 0 ≤ a * 2 ^ k := Int.mul_nonneg h0 (Int.pow_nonneg (by decide))
  omega
theorem or_u32 (a b : Int) (k : Nat) (h0 : 0 ≤ a) (h1 : a < 2 ^ k) (hb0 : 0 ≤ b) (h : a + b * 2 ^ k < 4294967296) : IntKind.u32.orI a (b * 2 ^ k) = a + b * 2 ^ k := by
  have hp : (0 : Int) < 2 ^ k := Int.pow_pos (by decide)
  have hb2 : 0 ≤ b * 2 ^ k := Int.mul_nonneg hb0 (Int.le_of_lt hp)
  obtain ⟨x, rfl⟩ := Int.eq_ofNat_of_zero_le h0
  obtain ⟨y, rfl⟩ := Int.eq_ofNat_of_zero_le hb0
  have e : ((y : Int) * 2 ^ k) = ((y * 2 ^ k : Nat) : Int) := by simp
  rw [e] at h hb2 ⊢
  have h1' : x < 2 ^ k := by
    have : ((2 : Int) ^ k) = ((2 ^ k : Nat) : Int) := by simp
    rw [this] at h1
    exact Int.ofNat_lt.1 h1
  unfold IntKind.orI
  have hb : IntKind.u32.bits = 32 := rfl
  have e1 : (BitVec.ofInt 32 (x : Int) ||| BitVec.ofInt 32 ((y * 2 ^ k : Nat) : Int)).toNat = x ||| (y * 2 ^ k) := by
    rw [BitVec.toNat_or]
    congr 1
    · simp []; omega
    · rw [BitVec.toNat_ofInt]; omega
  rw [hb, e1, Nat.or_comm, ← Nat.shiftLeft_eq, ← Nat.shiftLeft_add_eq_or_of_lt h1', Nat.shiftLeft_eq, wrap_u32]
  omega
theorem word_or {c0 c1 c2 c3 : UInt8} : IntKind.u32.shlI (c1.toNat : Int) 8 = c1.toNat * 256 ∧ IntKind.u32.shlI (c2.toNat : Int) 16 = c2.toNat * 65536 ∧ IntKind.u32.shlI (c3.toNat : Int) 24 = c3.toNat * 16777216 ∧
    IntKind.u32.orI (c0.toNat : Int) (c1.toNat * 256) = c0.toNat + c1.toNat * 256 ∧ IntKind.u32.orI (c0.toNat + c1.toNat * 256 : Int) (c2.toNat * 65536) = c0.toNat + c1.toNat * 256 + c2.toNat * 65536 ∧
    IntKind.u32.orI (c0.toNat + c1.toNat * 256 + c2.toNat * 65536 : Int) (c3.toNat * 16777216) = c0.toNat + c1.toNat * 256 + c2.toNat * 65536 + c3.toNat * 16777216 := by
  have h0 := c0.toNat_lt
  have h1 := c1.toNat_lt
  have h2 := c2.toNat_lt
  have h3 := c3.toNat_lt
  have p8 : (2 : Int) ^ 8 = 256 := by decide
  have p16 : (2 : Int) ^ 16 = 65536 := by decide
  have p24 : (2 : Int) ^ 24 = 16777216 := by decide
  have a1 := shl_u32 c1.toNat 8 (by decide) (by omega) (by rw [p8]; omega)
  have a2 := shl_u32 c2.toNat 16 (by decide) (by omega) (by rw [p16]; omega)
  have a3 := shl_u32 c3.toNat 24 (by decide) (by omega) (by rw [p24]; omega)
  have b1 := or_u32 c0.toNat c1.toNat 8 (by omega) (by rw [p8]; omega) (by omega) (by rw [p8]; omega)
  have b2 := or_u32 (c0.toNat + c1.toNat * 256) c2.toNat 16 (by omega) (by rw [p16]; omega) (by omega) (by rw [p16]; omega)
  have b3 := or_u32 (c0.toNat + c1.toNat * 256 + c2.toNat * 65536) c3.toNat 24 (by omega) (by rw [p24]; omega) (by omega) (by rw [p24]; omega)
  rw [p8] at a1 b1
  rw [p16] at a2 b2
  rw [p24] at a3 b3
  exact ⟨a1, a2, a3, b1, b2, b3⟩
theorem getD_some {l : List UInt8} {k : Nat} {c : UInt8} (h : l[k]? = some c) : byteN l k = c.toNat := by
  unfold byteN
  rw [List.getD_eq_getElem?_getD, h]; rfl
theorem md5R_ok : ∀ j, j < 16 → 0 ≤ md5R.getD j 0 ∧ md5R.getD j 0 < 32 := by decide
theorem some_at {α : Type} {b : List α} {k : Nat} (h : k < b.length) : ∃ x, b[k]? = some x := ⟨_, List.getElem?_eq_getElem h⟩
theorem getD_map {f : Int → D} {l : List Int} {k : Nat} (h : k < l.length) : (l.map f)[k]? = some (f (l.getD k 0)) := by
  rw [List.getElem?_map, List.getElem?_eq_getElem h, List.getD_eq_getElem?_getD, List.getElem?_eq_getElem h]; rfl
def st4D (v : St4) : List D := [u32D v.1, u32D v.2.1, u32D v.2.2.1, u32D v.2.2.2]
def st4V (v : St4) : V := .agg [u32C v.1, u32C v.2.1, u32C v.2.2.1, u32C v.2.2.2]
attribute [local irreducible] SStep DW DWin DOps thenQ inBlk loopQ retQ retQG FnF FnG Wk IntKind.wrap IntKind.andI IntKind.orI IntKind.xorI IntKind.andNotI IntKind.shlI IntKind.shrI rot wordAt
set_option maxRecDepth 10000 in
set_option maxHeartbeats 4000000 in
theorem md5_block (v : St4) (l : List UInt8) (hl : l.length = 64) : FnF Try.prog 98 [st4V v, .slice (l.map byteV)] (st4V (md5Block l 0 v)) := by
  refine fnF_of Try.func98 rfl rfl rfl ?_
  simp only [envOf]
  repeat' (first | (apply Wa; constructor) | refine Wb rfl ?_ | refine Wc rfl ?_ | refine Wd (by kernel_rfl) ?_ | refine We rfl ?_ | refine Wf rfl ?_ | refine Wi rfl rfl ?_ | ((first | apply dX rfl | apply Da rfl rfl | apply Db rfl rfl (by intro h; first | trivial | exact ⟨h, trivial⟩ | exact ⟨h, h, trivial⟩)); (focus ((try intro hg); first | exact S_al rfl | exact S_bx rfl rfl | exact S_store rfl rfl rfl rfl rfl rfl | (apply Pu.ok; repeat' (first | rfl | exact .inK (by simp only [InK]; omega) | exact .wr | constructor | decide | omega)))); constructor) | refine Pa rfl rfl rfl rfl rfl ?_ | refine Po rfl rfl rfl rfl rfl ?_ | fail)
  refine DW_loop (fun p : Nat × List Int => ⟨[(1, .dat false (.slice (l.map byteV))), (2, .ptr 2 0), (4, .ptr 4 0), (5, .ptr 5 0), (18, .dat true (.int .i64 p.1))],
      [(2, .cells false true (st4D v)), (4, .cells false true (st4D (0, 0, 0, 0))), (5, .cells false true (p.2.map u32D))], 162⟩)
    (fun p => p.1 ≤ 16 ∧ p.2.length = 16 ∧ ∀ j, j < p.1 → p.2[j]? = some (wordAt l (4 * j))) (fun p => 16 - p.1) (0, List.replicate 16 0) ⟨by decide, rfl, fun j h => by cases h⟩
    (Wk_g some rfl rfl (by (repeat' (first | exact trivial | rfl | exact listLe_map _ | exact ⟨_, rfl, .inl rfl⟩ | exact ⟨_, rfl, .inr (.inl rfl)⟩ | exact ⟨_, rfl, .inr (.inr rfl)⟩ | refine ⟨_, _, rfl, rfl, ?_⟩ | exact ⟨_, rfl, rfl⟩ | exact ⟨_, _, _, _, rfl, rfl, rfl⟩ | exact ⟨_, rfl⟩ | exact ⟨_, _, rfl⟩ | apply And.intro)))) (fun p hR => ?_)
  obtain ⟨k, ms⟩ := p
  obtain ⟨hk, hml, hms⟩ := hR
  simp only at hk hml hms
  dsimp only
  by_cases hlt : k < 16
  · obtain ⟨c0, h0⟩ := some_at (b := l) (k := 4 * k) (by omega)
    obtain ⟨c1, h1⟩ := some_at (b := l) (k := 4 * k + 1) (by omega)
    obtain ⟨c2, h2⟩ := some_at (b := l) (k := 4 * k + 2) (by omega)
    obtain ⟨c3, h3⟩ := some_at (b := l) (k := 4 * k + 3) (by omega)
    have i0 : l[(4 * (k : Int)).toNat]? = some c0 := by rw [← h0]; congr 1
    have i1 : l[(4 * (k : Int) + 1).toNat]? = some c1 := by rw [← h1]; congr 1
    have i2 : l[(4 * (k : Int) + 2).toNat]? = some c2 := by rw [← h2]; congr 1
    have i3 : l[(4 * (k : Int) + 3).toNat]? = some c3 := by rw [← h3]; congr 1
    have g0 := c0.toNat_lt
    have g1 := c1.toNat_lt
    have g2 := c2.toNat_lt
    have g3 := c3.toNat_lt
    obtain ⟨s1, s2, s3, o1, o2, o3⟩ := @word_or c0 c1 c2 c3
    have hidx : 0 + (k : Int).toNat * 1 = k := by simp
    repeat' (first | (apply Wa; constructor) | refine Wb rfl ?_ | refine Wc rfl ?_ | refine Wd (by kernel_rfl) ?_ | refine We rfl ?_ | refine Wf rfl ?_ | refine Wi rfl rfl ?_ | ((first | apply dX rfl | apply Da rfl rfl | apply Db rfl rfl (by intro h; first | trivial | exact ⟨h, trivial⟩ | exact ⟨h, h, trivial⟩)); (focus ((try intro hg); first | exact as_bool (S_lss rfl rfl) (decide_eq_true (by omega : (k : Int) < 16)) | exact S_ixM rfl rfl (by omega) i0 | exact S_ixM rfl rfl (by omega) i1 | exact S_ixM rfl rfl (by omega) i2 | exact S_ixM rfl rfl (by omega) i3 | exact as_int (S_shl rfl rfl (by decide)) s1 | exact as_int (S_shl rfl rfl (by decide)) s2 | exact as_int (S_shl rfl rfl (by decide)) s3 | exact as_int (S_or rfl rfl) o1 | exact as_int (S_or rfl rfl) o2 | exact as_int (S_or rfl rfl) o3 | exact S_ix_arr_ptr rfl rfl (by omega) (by omega) | exact S_storeA (f := u32D) (us := ms) rfl rfl rfl rfl (by omega) | exact S_al rfl | exact S_bx rfl rfl | exact S_store rfl rfl rfl rfl rfl rfl | (apply Pu.ok; repeat' (first | rfl | exact .inK (by simp only [InK]; omega) | exact .wr | constructor | decide | omega)))); constructor) | refine Pa rfl rfl rfl rfl rfl ?_ | refine Po rfl rfl rfl rfl rfl ?_ | fail)
    refine loop_again (k + 1, ms.set (0 + (k : Int).toNat * 1) (c0.toNat + c1.toNat * 256 + c2.toNat * 65536 + c3.toNat * 16777216)) ⟨hlt, by simp only [List.length_set]; exact hml, fun j hj => ?_⟩ (by simp only; omega) (Wk_g some rfl rfl (by (repeat' (first | exact trivial | rfl | exact listLe_map _ | exact ⟨_, rfl, .inl rfl⟩ | exact ⟨_, rfl, .inr (.inl rfl)⟩ | exact ⟨_, rfl, .inr (.inr rfl)⟩ | refine ⟨_, _, rfl, rfl, ?_⟩ | exact ⟨_, rfl, rfl⟩ | exact ⟨_, _, _, _, rfl, rfl, rfl⟩ | exact ⟨_, rfl⟩ | exact ⟨_, _, rfl⟩ | apply And.intro))))
    simp only at hj ⊢
    rw [hidx, List.getElem?_set]
    by_cases hjk : k = j
    · subst hjk
      rw [if_pos rfl, if_pos (by omega)]
      unfold wordAt
      rw [getD_some h0, getD_some h1, getD_some h2, getD_some h3]
    · rw [if_neg hjk]
      exact hms j (by omega)
  · repeat' (first | (apply Wa; constructor) | refine Wb rfl ?_ | refine Wc rfl ?_ | refine Wd (by kernel_rfl) ?_ | refine We rfl ?_ | refine Wf rfl ?_ | refine Wi rfl rfl ?_ | ((first | apply dX rfl | apply Da rfl rfl | apply Db rfl rfl (by intro h; first | trivial | exact ⟨h, trivial⟩ | exact ⟨h, h, trivial⟩)); (focus ((try intro hg); first | exact as_bool (S_lss rfl rfl) (decide_eq_false (by omega : ¬ (k : Int) < 16)) | exact S_call md5_table rfl | exact S_call md5_turns rfl | exact S_al rfl | exact S_bx rfl rfl | exact S_store rfl rfl rfl rfl rfl rfl | (apply Pu.ok; repeat' (first | rfl | exact .inK (by simp only [InK]; omega) | exact .wr | constructor | decide | omega)))); constructor) | refine Pa rfl rfl rfl rfl rfl ?_ | refine Po rfl rfl rfl rfl rfl ?_ | fail)
    have hms : ∀ j, j < 16 → ms[j]? = some (wordAt l (4 * j)) := fun j hj => hms j (by omega)
    refine DW_loop (fun p : Nat × St4 => ⟨[(2, .ptr 2 0), (4, .ptr 4 0), (5, .ptr 5 0), (7, .ptr 7 0), (8, .ptr 8 0), (9, .ptr 9 0), (60, .dat true (.int .i64 p.1))],
        [(2, .cells false true (st4D v)), (4, .cells false true (st4D (0, 0, 0, 0))), (5, .cells false true (ms.map u32D)), (7, .cells false true (md5T.map u32D)), (8, .cells false true (md5R.map intD)), (9, .cells false true (st4D p.2))], 162⟩)
      (fun p => p.1 ≤ 64 ∧ p.2 = md5Steps l 0 p.1 v) (fun p => 64 - p.1) (0, v) ⟨Nat.zero_le _, rfl⟩
      (Wk_g some rfl rfl (by (repeat' (first | exact trivial | rfl | exact listLe_map _ | exact ⟨_, rfl, .inl rfl⟩ | exact ⟨_, rfl, .inr (.inl rfl)⟩ | exact ⟨_, rfl, .inr (.inr rfl)⟩ | refine ⟨_, _, rfl, rfl, ?_⟩ | exact ⟨_, rfl, rfl⟩ | exact ⟨_, _, _, _, rfl, rfl, rfl⟩ | exact ⟨_, rfl⟩ | exact ⟨_, _, rfl⟩ | apply And.intro)))) (fun p hR => ?_)
    obtain ⟨i, a, b, c, d⟩ := p
    obtain ⟨hi, hv⟩ := hR
    simp only at hi hv
    dsimp only
    by_cases hlt : i < 64
    · have hm : (i : Int).tmod 4 = ((i % 4 : Nat) : Int) := by rw [Int.tmod_eq_emod_of_nonneg (by omega)]; omega
      have hT : (md5T.map u32D)[0 + (i : Int).toNat * 1]? = some (u32D (md5T.getD i 0)) := by
        rw [show 0 + (i : Int).toNat * 1 = i by simp]
        exact getD_map (by rw [show md5T.length = 64 by with_unfolding_all rfl]; exact hlt)
      have hw' : ∀ g : Nat, g < 16 → (ms.map u32D)[0 + (g : Int).toNat * 1]? = some (u32D (wordAt l (4 * g))) := fun g hg => by
        rw [show 0 + (g : Int).toNat * 1 = g by simp, List.getElem?_map, hms g hg]; rfl
      have hR' : ∀ r : Nat, r < 4 → (md5R.map intD)[0 + (4 * (r : Int) + ((i % 4 : Nat) : Int)).toNat * 1]? = some (intD (md5R.getD (4 * r + i % 4) 0)) := fun r hr => by
        rw [show 0 + (4 * (r : Int) + ((i % 4 : Nat) : Int)).toNat * 1 = 4 * r + i % 4 by omega]
        exact getD_map (by rw [show md5R.length = 16 by with_unfolding_all rfl]; omega)
      rcases (by omega : i / 16 = 0 ∨ i / 16 = 1 ∨ i / 16 = 2 ∨ i / 16 = 3) with hr | hr | hr | hr
      · have hq : IntKind.i64.wrap ((i : Int).tdiv 16) = 0 := by rw [Int.tdiv_eq_ediv_of_nonneg (by omega), wrap_in (by simp only [InK]; omega)]; omega
        obtain ⟨g, hg⟩ : ∃ g, g = md5G 0 i := ⟨_, rfl⟩
        have hglt : g < 16 := hg ▸ md5G_lt 0 i
        have hg1 : ((i : Int) : Int).tmod 16 = (g : Int) := by rw [hg, Int.tmod_eq_emod_of_nonneg (by omega)]; simp only [md5G]; omega
        have hg2 : (g : Int).tmod 16 = (g : Int) := by rw [Int.tmod_eq_emod_of_nonneg (by omega)]; omega
        have hw := hw' g hglt
        have hR := hR' 0 (by decide)
        have hR1 := md5R_ok (4 * 0 + i % 4) (by omega)
        generalize htt : md5T.getD i 0 = tt at hT
        generalize hrr : md5R.getD (4 * 0 + i % 4) 0 = rr at hR hR1
        generalize hww : wordAt l (4 * g) = ww at hw
        repeat' (first | (apply Wa; constructor) | refine Wb rfl ?_ | refine Wc rfl ?_ | refine Wd (by kernel_rfl) ?_ | refine We rfl ?_ | refine Wf rfl ?_ | refine Wi rfl rfl ?_ | ((first | apply dX rfl | apply Da rfl rfl | apply Db rfl rfl (by intro h; first | trivial | exact ⟨h, trivial⟩ | exact ⟨h, h, trivial⟩)); (focus ((try intro hg); first | exact as_int (S_quo rfl rfl (by decide)) hq | exact as_int (S_rem rfl rfl (by decide)) hg1 | exact as_int (S_rem rfl rfl (by decide)) hg2 | exact as_int (S_rem rfl rfl (by decide)) hm | exact S_compl rfl | exact S_ix_arr_ptr rfl rfl (by omega) (by omega) | exact S_load_ptr rfl rfl hw | exact S_load_ptr rfl rfl hT | exact S_load_ptr rfl rfl hR | exact S_call (bits_rotI _ _ hR1.1 hR1.2) rfl | exact as_bool (S_lss rfl rfl) (decide_eq_true (by omega : (i : Int) < 64)) | exact S_al rfl | exact S_bx rfl rfl | exact S_store rfl rfl rfl rfl rfl rfl | (apply Pu.ok; repeat' (first | rfl | exact .inK (by simp only [InK]; omega) | exact .wr | constructor | decide | omega)))); constructor) | refine Pa rfl rfl rfl rfl rfl ?_ | refine Po rfl rfl rfl rfl rfl ?_ | fail)
        refine loop_again (i + 1, d, IntKind.u32.wrap (b + rot (IntKind.u32.wrap (IntKind.u32.wrap (IntKind.u32.wrap (a + md5F 0 b c d) + tt) + ww)) rr), b, c) ⟨hlt, ?_⟩ (by simp only; omega) (Wk_g some rfl rfl (by (repeat' (first | exact trivial | rfl | exact listLe_map _ | exact ⟨_, rfl, .inl rfl⟩ | exact ⟨_, rfl, .inr (.inl rfl)⟩ | exact ⟨_, rfl, .inr (.inr rfl)⟩ | refine ⟨_, _, rfl, rfl, ?_⟩ | exact ⟨_, rfl, rfl⟩ | exact ⟨_, _, _, _, rfl, rfl, rfl⟩ | exact ⟨_, rfl⟩ | exact ⟨_, _, rfl⟩ | apply And.intro))))
        simp only
        rw [md5Steps, ← hv, md5Step, hr, Nat.zero_add, ← hg, hww, htt, hrr]
      · have hq : IntKind.i64.wrap ((i : Int).tdiv 16) = 1 := by rw [Int.tdiv_eq_ediv_of_nonneg (by omega), wrap_in (by simp only [InK]; omega)]; omega
        obtain ⟨g, hg⟩ : ∃ g, g = md5G 1 i := ⟨_, rfl⟩
        have hglt : g < 16 := hg ▸ md5G_lt 1 i
        have hg1 : (5 * (i : Int) + 1 : Int).tmod 16 = (g : Int) := by rw [hg, Int.tmod_eq_emod_of_nonneg (by omega)]; simp only [md5G]; omega
        have hg2 : (g : Int).tmod 16 = (g : Int) := by rw [Int.tmod_eq_emod_of_nonneg (by omega)]; omega
        have hw := hw' g hglt
        have hR := hR' 1 (by decide)
        have hR1 := md5R_ok (4 * 1 + i % 4) (by omega)
        generalize htt : md5T.getD i 0 = tt at hT
        generalize hrr : md5R.getD (4 * 1 + i % 4) 0 = rr at hR hR1
        generalize hww : wordAt l (4 * g) = ww at hw
        repeat' (first | (apply Wa; constructor) | refine Wb rfl ?_ | refine Wc rfl ?_ | refine Wd (by kernel_rfl) ?_ | refine We rfl ?_ | refine Wf rfl ?_ | refine Wi rfl rfl ?_ | ((first | apply dX rfl | apply Da rfl rfl | apply Db rfl rfl (by intro h; first | trivial | exact ⟨h, trivial⟩ | exact ⟨h, h, trivial⟩)); (focus ((try intro hg); first | exact as_int (S_quo rfl rfl (by decide)) hq | exact as_int (S_rem rfl rfl (by decide)) hg1 | exact as_int (S_rem rfl rfl (by decide)) hg2 | exact as_int (S_rem rfl rfl (by decide)) hm | exact S_compl rfl | exact S_ix_arr_ptr rfl rfl (by omega) (by omega) | exact S_load_ptr rfl rfl hw | exact S_load_ptr rfl rfl hT | exact S_load_ptr rfl rfl hR | exact S_call (bits_rotI _ _ hR1.1 hR1.2) rfl | exact as_bool (S_lss rfl rfl) (decide_eq_true (by omega : (i : Int) < 64)) | exact S_al rfl | exact S_bx rfl rfl | exact S_store rfl rfl rfl rfl rfl rfl | (apply Pu.ok; repeat' (first | rfl | exact .inK (by simp only [InK]; omega) | exact .wr | constructor | decide | omega)))); constructor) | refine Pa rfl rfl rfl rfl rfl ?_ | refine Po rfl rfl rfl rfl rfl ?_ | fail)
        refine loop_again (i + 1, d, IntKind.u32.wrap (b + rot (IntKind.u32.wrap (IntKind.u32.wrap (IntKind.u32.wrap (a + md5F 1 b c d) + tt) + ww)) rr), b, c) ⟨hlt, ?_⟩ (by simp only; omega) (Wk_g some rfl rfl (by (repeat' (first | exact trivial | rfl | exact listLe_map _ | exact ⟨_, rfl, .inl rfl⟩ | exact ⟨_, rfl, .inr (.inl rfl)⟩ | exact ⟨_, rfl, .inr (.inr rfl)⟩ | refine ⟨_, _, rfl, rfl, ?_⟩ | exact ⟨_, rfl, rfl⟩ | exact ⟨_, _, _, _, rfl, rfl, rfl⟩ | exact ⟨_, rfl⟩ | exact ⟨_, _, rfl⟩ | apply And.intro))))
        simp only
        rw [md5Steps, ← hv, md5Step, hr, Nat.zero_add, ← hg, hww, htt, hrr]
      · have hq : IntKind.i64.wrap ((i : Int).tdiv 16) = 2 := by rw [Int.tdiv_eq_ediv_of_nonneg (by omega), wrap_in (by simp only [InK]; omega)]; omega
        obtain ⟨g, hg⟩ : ∃ g, g = md5G 2 i := ⟨_, rfl⟩
        have hglt : g < 16 := hg ▸ md5G_lt 2 i
        have hg1 : (3 * (i : Int) + 5 : Int).tmod 16 = (g : Int) := by rw [hg, Int.tmod_eq_emod_of_nonneg (by omega)]; simp only [md5G]; omega
        have hg2 : (g : Int).tmod 16 = (g : Int) := by rw [Int.tmod_eq_emod_of_nonneg (by omega)]; omega
        have hw := hw' g hglt
        have hR := hR' 2 (by decide)
        have hR1 := md5R_ok (4 * 2 + i % 4) (by omega)
        generalize htt : md5T.getD i 0 = tt at hT
        generalize hrr : md5R.getD (4 * 2 + i % 4) 0 = rr at hR hR1
        generalize hww : wordAt l (4 * g) = ww at hw
        repeat' (first | (apply Wa; constructor) | refine Wb rfl ?_ | refine Wc rfl ?_ | refine Wd (by kernel_rfl) ?_ | refine We rfl ?_ | refine Wf rfl ?_ | refine Wi rfl rfl ?_ | ((first | apply dX rfl | apply Da rfl rfl | apply Db rfl rfl (by intro h; first | trivial | exact ⟨h, trivial⟩ | exact ⟨h, h, trivial⟩)); (focus ((try intro hg); first | exact as_int (S_quo rfl rfl (by decide)) hq | exact as_int (S_rem rfl rfl (by decide)) hg1 | exact as_int (S_rem rfl rfl (by decide)) hg2 | exact as_int (S_rem rfl rfl (by decide)) hm | exact S_compl rfl | exact S_ix_arr_ptr rfl rfl (by omega) (by omega) | exact S_load_ptr rfl rfl hw | exact S_load_ptr rfl rfl hT | exact S_load_ptr rfl rfl hR | exact S_call (bits_rotI _ _ hR1.1 hR1.2) rfl | exact as_bool (S_lss rfl rfl) (decide_eq_true (by omega : (i : Int) < 64)) | exact S_al rfl | exact S_bx rfl rfl | exact S_store rfl rfl rfl rfl rfl rfl | (apply Pu.ok; repeat' (first | rfl | exact .inK (by simp only [InK]; omega) | exact .wr | constructor | decide | omega)))); constructor) | refine Pa rfl rfl rfl rfl rfl ?_ | refine Po rfl rfl rfl rfl rfl ?_ | fail)
        refine loop_again (i + 1, d, IntKind.u32.wrap (b + rot (IntKind.u32.wrap (IntKind.u32.wrap (IntKind.u32.wrap (a + md5F 2 b c d) + tt) + ww)) rr), b, c) ⟨hlt, ?_⟩ (by simp only; omega) (Wk_g some rfl rfl (by (repeat' (first | exact trivial | rfl | exact listLe_map _ | exact ⟨_, rfl, .inl rfl⟩ | exact ⟨_, rfl, .inr (.inl rfl)⟩ | exact ⟨_, rfl, .inr (.inr rfl)⟩ | refine ⟨_, _, rfl, rfl, ?_⟩ | exact ⟨_, rfl, rfl⟩ | exact ⟨_, _, _, _, rfl, rfl, rfl⟩ | exact ⟨_, rfl⟩ | exact ⟨_, _, rfl⟩ | apply And.intro))))
        simp only
        rw [md5Steps, ← hv, md5Step, hr, Nat.zero_add, ← hg, hww, htt, hrr]
      · have hq : IntKind.i64.wrap ((i : Int).tdiv 16) = 3 := by rw [Int.tdiv_eq_ediv_of_nonneg (by omega), wrap_in (by simp only [InK]; omega)]; omega
        obtain ⟨g, hg⟩ : ∃ g, g = md5G 3 i := ⟨_, rfl⟩
        have hglt : g < 16 := hg ▸ md5G_lt 3 i
        have hg1 : (7 * (i : Int) : Int).tmod 16 = (g : Int) := by rw [hg, Int.tmod_eq_emod_of_nonneg (by omega)]; simp only [md5G]; omega
        have hg2 : (g : Int).tmod 16 = (g : Int) := by rw [Int.tmod_eq_emod_of_nonneg (by omega)]; omega
        have hw := hw' g hglt
        have hR := hR' 3 (by decide)
        have hR1 := md5R_ok (4 * 3 + i % 4) (by omega)
        generalize htt : md5T.getD i 0 = tt at hT
        generalize hrr : md5R.getD (4 * 3 + i % 4) 0 = rr at hR hR1
        generalize hww : wordAt l (4 * g) = ww at hw
        repeat' (first | (apply Wa; constructor) | refine Wb rfl ?_ | refine Wc rfl ?_ | refine Wd (by kernel_rfl) ?_ | refine We rfl ?_ | refine Wf rfl ?_ | refine Wi rfl rfl ?_ | ((first | apply dX rfl | apply Da rfl rfl | apply Db rfl rfl (by intro h; first | trivial | exact ⟨h, trivial⟩ | exact ⟨h, h, trivial⟩)); (focus ((try intro hg); first | exact as_int (S_quo rfl rfl (by decide)) hq | exact as_int (S_rem rfl rfl (by decide)) hg1 | exact as_int (S_rem rfl rfl (by decide)) hg2 | exact as_int (S_rem rfl rfl (by decide)) hm | exact S_compl rfl | exact S_ix_arr_ptr rfl rfl (by omega) (by omega) | exact S_load_ptr rfl rfl hw | exact S_load_ptr rfl rfl hT | exact S_load_ptr rfl rfl hR | exact S_call (bits_rotI _ _ hR1.1 hR1.2) rfl | exact as_bool (S_lss rfl rfl) (decide_eq_true (by omega : (i : Int) < 64)) | exact S_al rfl | exact S_bx rfl rfl | exact S_store rfl rfl rfl rfl rfl rfl | (apply Pu.ok; repeat' (first | rfl | exact .inK (by simp only [InK]; omega) | exact .wr | constructor | decide | omega)))); constructor) | refine Pa rfl rfl rfl rfl rfl ?_ | refine Po rfl rfl rfl rfl rfl ?_ | fail)
        refine loop_again (i + 1, d, IntKind.u32.wrap (b + rot (IntKind.u32.wrap (IntKind.u32.wrap (IntKind.u32.wrap (a + md5F 3 b c d) + tt) + ww)) rr), b, c) ⟨hlt, ?_⟩ (by simp only; omega) (Wk_g some rfl rfl (by (repeat' (first | exact trivial | rfl | exact listLe_map _ | exact ⟨_, rfl, .inl rfl⟩ | exact ⟨_, rfl, .inr (.inl rfl)⟩ | exact ⟨_, rfl, .inr (.inr rfl)⟩ | refine ⟨_, _, rfl, rfl, ?_⟩ | exact ⟨_, rfl, rfl⟩ | exact ⟨_, _, _, _, rfl, rfl, rfl⟩ | exact ⟨_, rfl⟩ | exact ⟨_, _, rfl⟩ | apply And.intro))))
        simp only
        rw [md5Steps, ← hv, md5Step, hr, Nat.zero_add, ← hg, hww, htt, hrr]
    · have hi64 : i = 64 := by omega
      subst hi64
      repeat' (first | refine DW_loopU ?_ | refine DWin_step ?_ | (apply Wa; constructor) | refine Wb rfl ?_ | refine Wc rfl ?_ | refine Wd (by kernel_rfl) ?_ | refine We rfl ?_ | refine Wf rfl ?_ | refine Wi rfl rfl ?_ | ((first | apply dX rfl | apply Da rfl rfl | apply Db rfl rfl (by intro h; first | trivial | exact ⟨h, trivial⟩ | exact ⟨h, h, trivial⟩)); (focus ((try intro hg); first | exact as_bool (S_lss rfl rfl) (decide_eq_false (by omega : ¬ ((64 : Nat) : Int) < 64)) | exact S_al rfl | exact S_bx rfl rfl | exact S_store rfl rfl rfl rfl rfl rfl | exact S_alloc 2001 rfl | exact S_alloc 2002 rfl | exact S_alloc 2003 rfl | exact S_alloc 2004 rfl | exact S_alloc 2005 rfl | (apply Pu.ok; repeat' (first | rfl | exact .inK (by simp only [InK]; omega) | exact .wr | constructor | decide | omega)))); constructor) | refine Pa rfl rfl rfl rfl rfl ?_ | refine Po rfl rfl rfl rfl rfl ?_ | fail)
      refine retN (.cellA inferInstance rfl rfl rfl rfl (.inl rfl) .nil) ?_
      unfold md5Block
      rw [← hv]
      rfl
end Go.Proofs.Ytfmaehhloffabaa
