/- MD5: Sum. -/
import Derived.Test.YtfmaehhloffabaaycMd5
import Derived.Test.YtfmaehhloffabaaybFz
import Derived.Test.YtfmaehhloffabaaydMdb
namespace Go.Proofs.Ytfmaehhloffabaa
open Go.RowKit
theorem byteAt_zero {n : Int} (h0 : 0 ≤ n) : ((byteAt n 0).toNat : Int) = n % 256 := by
  rw [byteAt_v h0]; simp
end Go.Proofs.Ytfmaehhloffabaa
namespace Go.Proofs.Ytfmaehhloffabaa
open Go.RowKit
theorem byteN_chunk {q : List UInt8} {p j : Nat} (hj : j < 64) : byteN ((q.drop p).take 64) j = byteN q (p + j) := by
  unfold byteN
  rw [List.getD_eq_getElem?_getD, List.getD_eq_getElem?_getD, List.getElem?_take, if_pos hj, List.getElem?_drop]
theorem wordAt_chunk {q : List UInt8} {p j : Nat} (hj : j + 3 < 64) : wordAt ((q.drop p).take 64) (0 + j) = wordAt q (p + j) := by
  unfold wordAt
  rw [Nat.zero_add, byteN_chunk (by omega), byteN_chunk (by omega), byteN_chunk (by omega), byteN_chunk (by omega)]
  simp only [Nat.add_assoc]
theorem steps_chunk {q : List UInt8} {p : Nat} {v : St4} : ∀ i, md5Steps ((q.drop p).take 64) 0 i v = md5Steps q p i v
  | 0 => rfl
  | i + 1 => by
    have := md5G_lt (i / 16) i
    rw [md5Steps, md5Steps, steps_chunk i, md5Step, md5Step, wordAt_chunk (by omega)]
theorem block_chunk {q : List UInt8} {p : Nat} {v : St4} : md5Block ((q.drop p).take 64) 0 v = md5Block q p v := by
  unfold md5Block; rw [steps_chunk]
def St4.ok (v : St4) : Prop := 0 ≤ v.1 ∧ 0 ≤ v.2.1 ∧ 0 ≤ v.2.2.1 ∧ 0 ≤ v.2.2.2
theorem blocks_ok (q : List UInt8) : ∀ k, St4.ok (md5Blocks q k md5Iv)
  | 0 => by rw [md5Blocks]; refine ⟨?_, ?_, ?_, ?_⟩ <;> decide
  | k + 1 => by
    rw [md5Blocks, md5Block, add4]
    simp only [St4.ok, wrap_u32]
    omega
theorem le_b {x : Int} (h : 0 ≤ x) : IntKind.u8.wrap x = ((byteAt x 0).toNat : Int) ∧ IntKind.u8.wrap (IntKind.u32.shrI x 8) = ((byteAt x 1).toNat : Int) ∧ IntKind.u8.wrap (IntKind.u32.shrI x 16) = ((byteAt x 2).toNat : Int) ∧ IntKind.u8.wrap (IntKind.u32.shrI x 24) = ((byteAt x 3).toNat : Int) := by
  have hb : IntKind.u32.bits = 32 := rfl
  have key : ∀ k : Nat, k ≤ 3 → IntKind.u8.wrap (IntKind.u32.shrI x ((8 * k : Nat) : Int)) = ((byteAt x k).toNat : Int) := fun k hk => by
    unfold IntKind.shrI
    rw [hb, wrap_u8, byteAt_v h, Int.toNat_natCast, Nat.min_eq_left (by omega), Int.fdiv_eq_ediv_of_nonneg _ (Int.pow_nonneg (by decide))]
  refine ⟨?_, key 1 (by decide), key 2 (by decide), key 3 (by decide)⟩
  rw [wrap_u8, byteAt_v h]; simp
def zerosN (n : Nat) : Nat := (119 - n % 64) % 64
theorem md5Pad_eq (b : List UInt8) : md5Pad b = b ++ [128] ++ List.replicate (zerosN b.length) 0 ++ leBytes (8 * b.length) 8 := rfl
theorem md5Pad_len (b : List UInt8) : (md5Pad b).length = b.length + 9 + zerosN b.length ∧ (md5Pad b).length % 64 = 0 := by
  have e : (md5Pad b).length = b.length + 9 + zerosN b.length := by
    rw [md5Pad_eq]; simp [leBytes_len]; omega
  refine ⟨e, ?_⟩
  rw [e]; unfold zerosN; omega
attribute [local irreducible] SStep DW DWin DOps thenQ inBlk loopQ retQ retQG FnF FnG Wk IntKind.wrap IntKind.andI IntKind.orI IntKind.xorI IntKind.andNotI IntKind.shlI IntKind.shrI rot wordAt byteAt md5Block
set_option maxRecDepth 10000 in
set_option maxHeartbeats 4000000 in
theorem md5_Sum (b : List UInt8) (hb : b.length ≤ 4194304) : FnG Try.prog 91 [.dat false (.slice (b.map byteV))] [] (.own 1000 0 0 16) [(1000, .row 0 false true 1 ((md5S b).map byteV))] := by
  have hml : (b.map byteV).length = b.length := by simp
  obtain ⟨hql, hq64⟩ := md5Pad_len b
  have hz : zerosN b.length < 64 := by unfold zerosN; omega
  have hS : md5S b = md5Out (md5Blocks (md5Pad b) ((md5Pad b).length / 64) md5Iv) := rfl
  rw [hS]
  have hok := blocks_ok (md5Pad b)
  obtain ⟨q, hq⟩ : ∃ q, q = md5Pad b := ⟨_, rfl⟩
  rw [← hq] at hql hq64 hok ⊢
  refine fnG_of Try.func91 rfl rfl rfl ?_
  simp only [envD]
  repeat' (first | (apply Wa; constructor) | refine Wb rfl ?_ | refine Wc rfl ?_ | refine Wd (by kernel_rfl) ?_ | refine We rfl ?_ | refine Wf rfl ?_ | refine Wi rfl rfl ?_ | (apply dt rfl; case h => first | exact S_callG0 _ (clone_bytes b (by omega)) rfl rfl (.own _ _)) | ((first | apply dX rfl | apply Da rfl rfl | apply Db rfl rfl (by intro h; first | trivial | exact ⟨h, trivial⟩ | exact ⟨h, h, trivial⟩)); (focus ((try intro hg); first | exact S_callG0 _ (clone_bytes b (by omega)) rfl rfl (.own _ _) | exact S_appM (f := byteV) (us := b) (bs := [128]) rfl rfl (.dat _ _) rfl rfl (.inr ⟨rfl, inferInstance⟩) rfl (by simp only [List.length_cons, List.length_nil]; omega) | exact S_al rfl | exact S_bx rfl rfl | exact S_store rfl rfl rfl rfl rfl rfl | (apply Pu.ok; repeat' (first | rfl | exact .inK (by simp only [InK]; omega) | exact .wr | constructor | decide | omega)))); constructor) | refine Pa rfl rfl rfl rfl rfl ?_ | refine Po rfl rfl rfl rfl rfl ?_ | fail)
  refine DW_loop (fun p : Nat × List UInt8 => ⟨[(0, .dat false (.slice (b.map byteV))), (3, .own 10 0 0 p.2.length)], [(10, .row 0 false true 1 (p.2.map byteV))], 64⟩)
    (fun p => p.1 ≤ zerosN b.length ∧ p.2 = b ++ [128] ++ List.replicate p.1 0) (fun p => zerosN b.length - p.1) (0, b ++ [128]) ⟨Nat.zero_le _, by simp⟩
    (Wk_g some rfl rfl (by (repeat' (first | exact trivial | rfl | exact listLe_map _ | exact ⟨_, rfl, .inl rfl⟩ | exact ⟨_, rfl, .inr (.inl rfl)⟩ | exact ⟨_, rfl, .inr (.inr rfl)⟩ | refine ⟨_, _, rfl, rfl, ?_⟩ | exact ⟨_, rfl, rfl⟩ | exact ⟨_, _, _, _, rfl, rfl, rfl⟩ | exact ⟨_, rfl⟩ | exact ⟨_, _, rfl⟩ | apply And.intro)))) (fun p hR => ?_)
  obtain ⟨z, m⟩ := p
  obtain ⟨hz1, hm⟩ := hR
  simp only at hz1 hm
  dsimp only
  have hmlen : m.length = b.length + 1 + z := by rw [hm]; simp; omega
  have hrem : ((m.length : Nat) : Int).tmod 64 = ((m.length % 64 : Nat) : Int) := by rw [Int.tmod_eq_emod_of_nonneg (by omega)]; omega
  by_cases hlt : z < zerosN b.length
  · have hne : decide (((m.length % 64 : Nat) : Int) ≠ 56) = true := decide_eq_true (by unfold zerosN at hlt; omega)
    repeat' (first | (apply Wa; constructor) | refine Wb rfl ?_ | refine Wc rfl ?_ | refine Wd (by kernel_rfl) ?_ | refine We rfl ?_ | refine Wf rfl ?_ | refine Wi rfl rfl ?_ | ((first | apply dX rfl | apply Da rfl rfl | apply Db rfl rfl (by intro h; first | trivial | exact ⟨h, trivial⟩ | exact ⟨h, h, trivial⟩)); (focus ((try intro hg); first | exact as_int (S_rem rfl rfl (by decide)) hrem | exact as_bool (S_neq rfl rfl) hne | exact S_appM (f := byteV) (us := m) (bs := [0]) rfl rfl (.dat _ _) rfl rfl (.inr ⟨rfl, inferInstance⟩) rfl (by simp only [List.length_cons, List.length_nil]; omega) | exact S_al rfl | exact S_bx rfl rfl | exact S_store rfl rfl rfl rfl rfl rfl | (apply Pu.ok; repeat' (first | rfl | exact .inK (by simp only [InK]; omega) | exact .wr | constructor | decide | omega)))); constructor) | refine Pa rfl rfl rfl rfl rfl ?_ | refine Po rfl rfl rfl rfl rfl ?_ | fail)
    refine loop_again (z + 1, m ++ [0]) ⟨hlt, ?_⟩ (by simp only; omega) (Wk_g some rfl rfl (by (repeat' (first | exact trivial | rfl | exact listLe_map _ | exact ⟨_, rfl, .inl rfl⟩ | exact ⟨_, rfl, .inr (.inl rfl)⟩ | exact ⟨_, rfl, .inr (.inr rfl)⟩ | refine ⟨_, _, rfl, rfl, ?_⟩ | exact ⟨_, rfl, rfl⟩ | exact ⟨_, _, _, _, rfl, rfl, rfl⟩ | exact ⟨_, rfl⟩ | exact ⟨_, _, rfl⟩ | apply And.intro))))
    simp only
    rw [hm, List.replicate_succ', ← List.append_assoc]
  · have hze : z = zerosN b.length := by omega
    have hne : decide (((m.length % 64 : Nat) : Int) ≠ 56) = false := decide_eq_false (by unfold zerosN at hze; omega)
    have h8 : ((b.map byteV).length : Int) * 8 = 8 * b.length := by omega
    obtain ⟨n, hn⟩ : ∃ n : Int, n = 8 * b.length := ⟨_, rfl⟩
    have hn0 : 0 ≤ n := by omega
    have h8' := h8.trans hn.symm
    repeat' (first | (apply Wa; constructor) | refine Wb rfl ?_ | refine Wc rfl ?_ | refine Wd (by kernel_rfl) ?_ | refine We rfl ?_ | refine Wf rfl ?_ | refine Wi rfl rfl ?_ | ((first | apply dX rfl | apply Da rfl rfl | apply Db rfl rfl (by intro h; first | trivial | exact ⟨h, trivial⟩ | exact ⟨h, h, trivial⟩)); (focus ((try intro hg); first | exact as_int (S_rem rfl rfl (by decide)) hrem | exact as_bool (S_neq rfl rfl) hne | exact as_int (I_mul rfl rfl (by simp only [InK]; omega)) h8' | exact S_al rfl | exact S_bx rfl rfl | exact S_store rfl rfl rfl rfl rfl rfl | (apply Pu.ok; repeat' (first | rfl | exact .inK (by simp only [InK]; omega) | exact .wr | constructor | decide | omega)))); constructor) | refine Pa rfl rfl rfl rfl rfl ?_ | refine Po rfl rfl rfl rfl rfl ?_ | fail)
    refine DW_loop (fun p : Nat × List UInt8 => ⟨[(3, .own 10 0 0 p.2.length), (4, .dat true (.int .u64 (n / 256 ^ p.1))), (24, .dat true (.int .i64 p.1))], [(10, .row 0 false true 1 (p.2.map byteV))], 64⟩)
      (fun p => p.1 ≤ 8 ∧ p.2 = m ++ leBytes n p.1) (fun p => 8 - p.1) (0, m) ⟨Nat.zero_le _, by simp [leBytes]⟩
      (Wk_gen some rfl rfl (by simp only [Int.pow_zero, Int.ediv_one]; (repeat' (first | exact trivial | rfl | exact listLe_map _ | exact ⟨_, rfl, .inl rfl⟩ | exact ⟨_, rfl, .inr (.inl rfl)⟩ | exact ⟨_, rfl, .inr (.inr rfl)⟩ | refine ⟨_, _, rfl, rfl, ?_⟩ | exact ⟨_, rfl, rfl⟩ | exact ⟨_, _, _, _, rfl, rfl, rfl⟩ | exact ⟨_, rfl⟩ | exact ⟨_, _, rfl⟩ | apply And.intro))) (by simp only [Int.pow_zero, Int.ediv_one]; (repeat' (first | exact trivial | rfl | exact listLe_map _ | exact ⟨_, rfl, .inl rfl⟩ | exact ⟨_, rfl, .inr (.inl rfl)⟩ | exact ⟨_, rfl, .inr (.inr rfl)⟩ | refine ⟨_, _, rfl, rfl, ?_⟩ | exact ⟨_, rfl, rfl⟩ | exact ⟨_, _, _, _, rfl, rfl, rfl⟩ | exact ⟨_, rfl⟩ | exact ⟨_, _, rfl⟩ | apply And.intro)))) (fun p hR => ?_)
    obtain ⟨j, w⟩ := p
    obtain ⟨hj, hw⟩ := hR
    simp only at hj hw
    dsimp only
    have hwl : w.length = m.length + j := by rw [hw]; simp [leBytes_len]
    have hp : (0 : Int) < 256 ^ j := Int.pow_pos (by decide)
    have hd0 : 0 ≤ n / 256 ^ j := Int.ediv_nonneg hn0 (Int.le_of_lt hp)
    by_cases hlt : j < 8
    · have hb1 : IntKind.u8.wrap (n / 256 ^ j) = ((byteAt n j).toNat : Int) := by
        rw [← beBytes_shift n hn0, byteAt_zero hd0, wrap_u8]
      have hs1 : IntKind.u64.shrI (n / 256 ^ j) 8 = n / 256 ^ (j + 1) := by
        unfold IntKind.shrI
        have e : (2 : Int) ^ (min (8 : Int).toNat IntKind.u64.bits) = 256 := by decide
        rw [e, Int.fdiv_eq_ediv_of_nonneg _ (by decide), Int.ediv_ediv_of_nonneg (Int.le_of_lt hp), Int.pow_succ]
      repeat' (first | (apply Wa; constructor) | refine Wb rfl ?_ | refine Wc rfl ?_ | refine Wd (by kernel_rfl) ?_ | refine We rfl ?_ | refine Wf rfl ?_ | refine Wi rfl rfl ?_ | ((first | apply dX rfl | apply Da rfl rfl | apply Db rfl rfl (by intro h; first | trivial | exact ⟨h, trivial⟩ | exact ⟨h, h, trivial⟩)); (focus ((try intro hg); first | exact as_bool (S_lss rfl rfl) (decide_eq_true (by omega : (j : Int) < 8)) | exact C_toInt rfl hb1 | exact as_int (S_shr rfl rfl (by decide)) hs1 | exact S_appM (f := byteV) (us := w) (bs := [byteAt n j]) rfl rfl (.dat _ _) rfl rfl (.inr ⟨rfl, inferInstance⟩) rfl (by simp only [List.length_cons, List.length_nil]; omega) | exact S_al rfl | exact S_bx rfl rfl | exact S_store rfl rfl rfl rfl rfl rfl | (apply Pu.ok; repeat' (first | rfl | exact .inK (by simp only [InK]; omega) | exact .wr | constructor | decide | omega)))); constructor) | refine Pa rfl rfl rfl rfl rfl ?_ | refine Po rfl rfl rfl rfl rfl ?_ | fail)
      refine loop_again (j + 1, w ++ [byteAt n j]) ⟨hlt, ?_⟩ (by simp only; omega) (Wk_g some rfl rfl (by (repeat' (first | exact trivial | rfl | exact listLe_map _ | exact ⟨_, rfl, .inl rfl⟩ | exact ⟨_, rfl, .inr (.inl rfl)⟩ | exact ⟨_, rfl, .inr (.inr rfl)⟩ | refine ⟨_, _, rfl, rfl, ?_⟩ | exact ⟨_, rfl, rfl⟩ | exact ⟨_, _, _, _, rfl, rfl, rfl⟩ | exact ⟨_, rfl⟩ | exact ⟨_, _, rfl⟩ | apply And.intro))))
      simp only
      rw [hw, leBytes, ← List.append_assoc]
    · have hwq : w = q := by
        rw [hq, md5Pad_eq, hw, hm, hze, hn, show j = 8 by omega]
      subst hwq
      repeat' (first | (apply Wa; constructor) | refine Wb rfl ?_ | refine Wc rfl ?_ | refine Wd (by kernel_rfl) ?_ | refine We rfl ?_ | refine Wf rfl ?_ | refine Wi rfl rfl ?_ | ((first | apply dX rfl | apply Da rfl rfl | apply Db rfl rfl (by intro h; first | trivial | exact ⟨h, trivial⟩ | exact ⟨h, h, trivial⟩)); (focus ((try intro hg); first | exact as_bool (S_lss rfl rfl) (decide_eq_false (by omega : ¬ (j : Int) < 8)) | exact S_al rfl | exact S_bx rfl rfl | exact S_store rfl rfl rfl rfl rfl rfl | (apply Pu.ok; repeat' (first | rfl | exact .inK (by simp only [InK]; omega) | exact .wr | constructor | decide | omega)))); constructor) | refine Pa rfl rfl rfl rfl rfl ?_ | refine Po rfl rfl rfl rfl rfl ?_ | fail)
      obtain ⟨K, hK⟩ : ∃ K, w.length = 64 * K := ⟨w.length / 64, by omega⟩
      have hKd : w.length / 64 = K := by omega
      rw [hKd]
      refine DW_seal 3 rfl rfl (by simp) ?_
      refine DW_loop (fun p : Nat × List UInt8 × St4 => ⟨[(3, .dat true (.slice (p.2.1.map byteV))), (5, .ptr 5 0)], [(5, .cells false true (st4D p.2.2))], 64⟩)
        (fun p => p.1 ≤ K ∧ p.2.1 = w.drop (64 * p.1) ∧ p.2.2 = md5Blocks w p.1 md5Iv) (fun p => K - p.1) (0, w, md5Iv) ⟨Nat.zero_le _, rfl, rfl⟩
        (Wk_g some rfl rfl (by (repeat' (first | exact trivial | rfl | exact listLe_map _ | exact ⟨_, rfl, .inl rfl⟩ | exact ⟨_, rfl, .inr (.inl rfl)⟩ | exact ⟨_, rfl, .inr (.inr rfl)⟩ | refine ⟨_, _, rfl, rfl, ?_⟩ | exact ⟨_, rfl, rfl⟩ | exact ⟨_, _, _, _, rfl, rfl, rfl⟩ | exact ⟨_, rfl⟩ | exact ⟨_, _, rfl⟩ | apply And.intro)))) (fun p hR => ?_)
      obtain ⟨k, r, v⟩ := p
      obtain ⟨hk, hr, hv⟩ := hR
      simp only at hk hr hv
      dsimp only
      have hrl : r.length = 64 * (K - k) := by rw [hr]; simp; omega
      have hrm : (r.map byteV).length = r.length := by simp
      by_cases hlt : k < K
      · have hcl : (r.take 64).length = 64 := by simp; omega
        have hst : md5Block (r.take 64) 0 v = md5Blocks w (k + 1) md5Iv := by rw [md5Blocks, ← hv, hr, block_chunk]
        have hd : r.drop 64 = w.drop (64 * (k + 1)) := by rw [hr, List.drop_drop, show 64 * k + 64 = 64 * (k + 1) by omega]
        obtain ⟨ch, hch⟩ : ∃ ch, ch = r.take 64 := ⟨_, rfl⟩
        rw [← hch] at hcl hst
        have hgt : decide ((0 : Int) < ((r.map byteV).length : Int)) = true := decide_eq_true (by omega)
        repeat' (first | (apply Wa; constructor) | refine Wb rfl ?_ | refine Wc rfl ?_ | refine Wd (by kernel_rfl) ?_ | refine We rfl ?_ | refine Wf rfl ?_ | refine Wi rfl rfl ?_ | ((first | apply dX rfl | apply Da rfl rfl | apply Db rfl rfl (by intro h; first | trivial | exact ⟨h, trivial⟩ | exact ⟨h, h, trivial⟩)); (focus ((try intro hg); first | exact as_bool (S_gtr rfl rfl) hgt | exact S_slM (us := r) ch rfl (.none _) (.some _ _ _ _ 64 rfl) (by omega) (by omega) hch.symm | exact S_slM (us := r) (r.drop 64) rfl (.some _ _ _ _ 64 rfl) (.none _) (by omega) (by omega) tail_eq | exact S_call (md5_block v ch hcl) rfl | exact S_al rfl | exact S_bx rfl rfl | exact S_store rfl rfl rfl rfl rfl rfl | (apply Pu.ok; repeat' (first | rfl | exact .inK (by simp only [InK]; omega) | exact .wr | constructor | decide | omega)))); constructor) | refine Pa rfl rfl rfl rfl rfl ?_ | refine Po rfl rfl rfl rfl rfl ?_ | fail)
        refine loop_again (k + 1, r.drop 64, md5Block ch 0 v) ⟨hlt, hd, hst⟩ (by simp only; omega) (Wk_g some rfl rfl (by (repeat' (first | exact trivial | rfl | exact listLe_map _ | exact ⟨_, rfl, .inl rfl⟩ | exact ⟨_, rfl, .inr (.inl rfl)⟩ | exact ⟨_, rfl, .inr (.inr rfl)⟩ | refine ⟨_, _, rfl, rfl, ?_⟩ | exact ⟨_, rfl, rfl⟩ | exact ⟨_, _, _, _, rfl, rfl, rfl⟩ | exact ⟨_, rfl⟩ | exact ⟨_, _, rfl⟩ | apply And.intro))))
      · have hkK : k = K := by omega
        subst hkK
        rw [← hv]
        have hvok := hok k
        rw [← hv] at hvok
        obtain ⟨a, b', c, d⟩ := v
        obtain ⟨v1, v2, v3, v4⟩ := hvok
        simp only at v1 v2 v3 v4
        obtain ⟨a0, a1, a2, a3⟩ := le_b v1
        obtain ⟨b0, b1, b2, b3⟩ := le_b v2
        obtain ⟨c0, c1, c2, c3⟩ := le_b v3
        obtain ⟨d0, d1, d2, d3⟩ := le_b v4
        have hgt : decide ((0 : Int) < ((r.map byteV).length : Int)) = false := decide_eq_false (by omega)
        repeat' (first | refine DW_loopU ?_ | refine DWin_step ?_ | (apply Wa; constructor) | refine Wb rfl ?_ | refine Wc rfl ?_ | refine Wd (by kernel_rfl) ?_ | refine We rfl ?_ | refine Wf rfl ?_ | refine Wi rfl rfl ?_ | (apply dt rfl; case h => first | exact S_appNM _ (f := byteV) (nf := true) (bs := [byteAt a 0, byteAt a 1, byteAt a 2, byteAt a 3]) rfl (.dat _ _) rfl (.inr inferInstance) rfl (by simp only [List.length_cons, List.length_nil]; omega) rfl) | ((first | apply dX rfl | apply Da rfl rfl | apply Db rfl rfl (by intro h; first | trivial | exact ⟨h, trivial⟩ | exact ⟨h, h, trivial⟩)); (focus ((try intro hg); first | exact as_bool (S_gtr rfl rfl) hgt | exact C_toInt rfl a0 | exact C_toInt rfl a1 | exact C_toInt rfl a2 | exact C_toInt rfl a3 | exact C_toInt rfl b0 | exact C_toInt rfl b1 | exact C_toInt rfl b2 | exact C_toInt rfl b3 | exact C_toInt rfl c0 | exact C_toInt rfl c1 | exact C_toInt rfl c2 | exact C_toInt rfl c3 | exact C_toInt rfl d0 | exact C_toInt rfl d1 | exact C_toInt rfl d2 | exact C_toInt rfl d3 | exact S_shr rfl rfl (by decide) | exact S_appNM _ (f := byteV) (nf := true) (bs := [byteAt a 0, byteAt a 1, byteAt a 2, byteAt a 3]) rfl (.dat _ _) rfl (.inr inferInstance) rfl (by simp only [List.length_cons, List.length_nil]; omega) rfl | exact S_appM (f := byteV) (bs := [byteAt b' 0, byteAt b' 1, byteAt b' 2, byteAt b' 3]) rfl rfl (.dat _ _) rfl rfl (.inr ⟨rfl, inferInstance⟩) rfl (by simp only [List.length_append, List.length_cons, List.length_nil]; omega) | exact S_appM (f := byteV) (bs := [byteAt c 0, byteAt c 1, byteAt c 2, byteAt c 3]) rfl rfl (.dat _ _) rfl rfl (.inr ⟨rfl, inferInstance⟩) rfl (by simp only [List.length_append, List.length_cons, List.length_nil]; omega) | exact S_appM (f := byteV) (bs := [byteAt d 0, byteAt d 1, byteAt d 2, byteAt d 3]) rfl rfl (.dat _ _) rfl rfl (.inr ⟨rfl, inferInstance⟩) rfl (by simp only [List.length_append, List.length_cons, List.length_nil]; omega) | exact S_al rfl | exact S_bx rfl rfl | exact S_store rfl rfl rfl rfl rfl rfl | exact S_alloc 2001 rfl | exact S_alloc 2002 rfl | exact S_alloc 2003 rfl | exact S_alloc 2004 rfl | exact S_alloc 2005 rfl | (apply Pu.ok; repeat' (first | rfl | exact .inK (by simp only [InK]; omega) | exact .wr | constructor | decide | omega)))); constructor) | refine Pa rfl rfl rfl rfl rfl ?_ | refine Po rfl rfl rfl rfl rfl ?_ | fail)
        exact gOwn (Wk_g (fun g => if g = 1000 then some 61 else none) rfl rfl (by (repeat' (first | exact trivial | rfl | exact listLe_map _ | exact ⟨_, rfl, .inl rfl⟩ | exact ⟨_, rfl, .inr (.inl rfl)⟩ | exact ⟨_, rfl, .inr (.inr rfl)⟩ | refine ⟨_, _, rfl, rfl, ?_⟩ | exact ⟨_, rfl, rfl⟩ | exact ⟨_, _, _, _, rfl, rfl, rfl⟩ | exact ⟨_, rfl⟩ | exact ⟨_, _, rfl⟩ | apply And.intro))))
end Go.Proofs.Ytfmaehhloffabaa
