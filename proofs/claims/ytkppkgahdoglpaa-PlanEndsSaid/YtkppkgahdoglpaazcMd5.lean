/- MD5: what it is; contracts of its small parts. -/
import Derived.Test.YtkppkgahdoglpaazTy
import Derived.Test.YtkppkgahdoglpaazbRg
namespace Go.Proofs.Ytkppkgahdoglpaa
open Go.RowKit
def byteAt (n : Int) (k : Nat) : UInt8 := UInt8.ofNat ((n / 2 ^ (8 * k)).toNat % 256)
theorem byteAt_v {n : Int} (h0 : 0 ≤ n) (k : Nat) : ((byteAt n k).toNat : Int) = (n / 2 ^ (8 * k)) % 256 := by
  unfold byteAt
  have h1 : 0 ≤ n / 2 ^ (8 * k) := Int.ediv_nonneg h0 (Int.pow_nonneg (by decide))
  simp
  omega
theorem wrap_u8 (a : Int) : IntKind.u8.wrap a = a % 256 := by
  simp [IntKind.wrap, IntKind.bits, IntKind.signed]
theorem wrap_u64 (a : Int) : IntKind.u64.wrap a = a % 18446744073709551616 := by
  simp [IntKind.wrap, IntKind.bits, IntKind.signed]
theorem beBytes_shift (n : Int) (_ : 0 ≤ n) (j : Nat) : byteAt (n / 256 ^ j) 0 = byteAt n j := by
  unfold byteAt
  have : (256 : Int) ^ j = 2 ^ (8 * j) := by rw [Int.pow_mul]; rfl
  rw [this]
  simp
attribute [local irreducible] SStep DW DOps thenQ inBlk loopQ retQ retQG FnF FnG Wk IntKind.wrap IntKind.andI IntKind.orI IntKind.xorI IntKind.andNotI IntKind.shlI IntKind.shrI
theorem clone_bytes (l : List UInt8) (hl : l.length ≤ 1099511627776) : FnG Try.prog 116 [.dat false (.slice (l.map byteV))] [] (.own 1000 0 0 l.length) [(1000, .row 0 false true 1 (l.map byteV))] := by
  refine fnG_of Try.func116 rfl rfl rfl ?_
  simp only [envD]
  repeat' (first
    | refine DW_isnil rfl rfl rfl (fun h => ?_) ?_
    | (apply dt rfl; case h => exact S_litO (els := []) _ rfl rfl rfl rfl rfl)
    | (apply Stp.go; case a => constructor)
    | refine blk_hit rfl ?_ | refine blk_miss rfl ?_ | refine dnilD (by kernel_rfl) ?_ | refine DW_cond_t rfl ?_ | refine DW_cond_f rfl ?_
    | refine dpOff rfl rfl ?_
    | ((first | apply dX rfl | apply dXon rfl rfl | apply dpMay rfl rfl (by intro h; first | trivial | exact ⟨h, trivial⟩ | exact ⟨h, h, trivial⟩ | exact ⟨h, h, h, trivial⟩)); (case h => ((try intro hg); first | exact S_appM (f := byteV) (us := []) (bs := l) rfl rfl (.dat _ _) rfl rfl (.inr ⟨rfl, inferInstance⟩) rfl (by simp; omega) | exact S_al rfl | exact S_bx rfl rfl | exact S_store rfl rfl rfl rfl rfl rfl | (apply Pu.ok; repeat' (first | rfl | exact .inK (by simp only [InK]; omega) | exact .inK (by simp only [InK]; simp at hg; omega) | exact .wr | constructor | decide | omega)))); (try case hp => constructor))
    | refine dpickAnd rfl rfl rfl rfl rfl ?_ | refine dpickOr rfl rfl rfl rfl rfl ?_
    | fail)
  · have : l = [] := by simpa using h
    subst this
    exact gOwn (Wk_g (fun _ => none) rfl rfl (by (repeat' (first | exact trivial | rfl | exact listLe_map _ | exact ⟨_, rfl, .inl rfl⟩ | exact ⟨_, rfl, .inr (.inl rfl)⟩ | exact ⟨_, rfl, .inr (.inr rfl)⟩ | refine ⟨_, _, rfl, rfl, ?_⟩ | exact ⟨_, rfl, rfl⟩ | exact ⟨_, _, _, _, rfl, rfl, rfl⟩ | exact ⟨_, rfl⟩ | exact ⟨_, _, rfl⟩ | apply And.intro))))
  · exact gOwn (Wk_g (fun g => if g = 1000 then some 5 else none) rfl rfl (by (repeat' (first | exact trivial | rfl | exact listLe_map _ | exact ⟨_, rfl, .inl rfl⟩ | exact ⟨_, rfl, .inr (.inl rfl)⟩ | exact ⟨_, rfl, .inr (.inr rfl)⟩ | refine ⟨_, _, rfl, rfl, ?_⟩ | exact ⟨_, rfl, rfl⟩ | exact ⟨_, _, _, _, rfl, rfl, rfl⟩ | exact ⟨_, rfl⟩ | exact ⟨_, _, rfl⟩ | apply And.intro))))
end Go.Proofs.Ytkppkgahdoglpaa
namespace Go.Proofs.Ytkppkgahdoglpaa
open Go.RowKit
def u32V (n : Int) : List V := [.int .u32 n]
def intV (n : Int) : List V := [.int .i64 n]
instance : CellsI u32V 1 := ⟨fun _ => rfl, fun _ d h => by simp [u32V] at h; subst h; rfl⟩
instance : FlatI u32V := ⟨fun _ d h => by simp [u32V] at h; subst h; exact .int _ _⟩
instance : CellsI intV 1 := ⟨fun _ => rfl, fun _ d h => by simp [intV] at h; subst h; rfl⟩
def u32C (n : Int) : V := .int .u32 n
def u32D (n : Int) : D := .dat true (.int .u32 n)
def intD (n : Int) : D := .dat true (.int .i64 n)
instance : DatI u32D := ⟨fun _ => ⟨_, _, rfl⟩⟩
instance : DatI intD := ⟨fun _ => ⟨_, _, rfl⟩⟩
def md5T : List Int := [3614090360, 3905402710, 606105819, 3250441966, 4118548399, 1200080426, 2821735955, 4249261313,
  1770035416, 2336552879, 4294925233, 2304563134, 1804603682, 4254626195, 2792965006, 1236535329,
  4129170786, 3225465664, 643717713, 3921069994, 3593408605, 38016083, 3634488961, 3889429448,
  568446438, 3275163606, 4107603335, 1163531501, 2850285829, 4243563512, 1735328473, 2368359562,
  4294588738, 2272392833, 1839030562, 4259657740, 2763975236, 1272893353, 4139469664, 3200236656,
  681279174, 3936430074, 3572445317, 76029189, 3654602809, 3873151461, 530742520, 3299628645,
  4096336452, 1126891415, 2878612391, 4237533241, 1700485571, 2399980690, 4293915773, 2240044497,
  1873313359, 4264355552, 2734768916, 1309151649, 4149444226, 3174756917, 718787259, 3951481745]
def md5R : List Int := [7, 12, 17, 22, 5, 9, 14, 20, 4, 11, 16, 23, 6, 10, 15, 21]
def rot (x n : Int) : Int := IntKind.u32.orI (IntKind.u32.shlI x n) (IntKind.u32.shrI x (32 - n))
def n32 (a : Int) : Int := IntKind.u32.xorI 4294967295 a
def md5F (r : Nat) (x y z : Int) : Int := match r with
  | 0 => IntKind.u32.orI (IntKind.u32.andI x y) (IntKind.u32.andI (n32 x) z)
  | 1 => IntKind.u32.orI (IntKind.u32.andI x z) (IntKind.u32.andNotI y z)
  | 2 => IntKind.u32.xorI (IntKind.u32.xorI x y) z
  | _ => IntKind.u32.xorI y (IntKind.u32.orI x (n32 z))
def md5G (r k : Nat) : Nat := match r with
  | 0 => k % 16
  | 1 => (5 * k + 1) % 16
  | 2 => (3 * k + 5) % 16
  | _ => (7 * k) % 16
theorem md5G_lt (r k : Nat) : md5G r k < 16 := by unfold md5G; split <;> omega
def byteN (l : List UInt8) (p : Nat) : Nat := (l.getD p 0).toNat
def wordAt (l : List UInt8) (p : Nat) : Int := byteN l p + byteN l (p + 1) * 256 + byteN l (p + 2) * 65536 + byteN l (p + 3) * 16777216
abbrev St4 := Int × Int × Int × Int
def md5Step (l : List UInt8) (p : Nat) (i : Nat) (v : St4) : St4 :=
  (v.2.2.2, IntKind.u32.wrap (v.2.1 + rot (IntKind.u32.wrap (IntKind.u32.wrap (IntKind.u32.wrap (v.1 + md5F (i / 16) v.2.1 v.2.2.1 v.2.2.2) + md5T.getD i 0) + wordAt l (p + 4 * md5G (i / 16) i))) (md5R.getD (4 * (i / 16) + i % 4) 0)), v.2.1, v.2.2.1)
def md5Steps (l : List UInt8) (p : Nat) : Nat → St4 → St4
  | 0, v => v
  | i + 1, v => md5Step l p i (md5Steps l p i v)
def add4 (v w : St4) : St4 := (IntKind.u32.wrap (v.1 + w.1), IntKind.u32.wrap (v.2.1 + w.2.1), IntKind.u32.wrap (v.2.2.1 + w.2.2.1), IntKind.u32.wrap (v.2.2.2 + w.2.2.2))
def md5Block (l : List UInt8) (p : Nat) (v : St4) : St4 := add4 v (md5Steps l p 64 v)
def md5Blocks (l : List UInt8) : Nat → St4 → St4
  | 0, v => v
  | k + 1, v => md5Block l (64 * k) (md5Blocks l k v)
def leBytes (n : Int) : Nat → List UInt8
  | 0 => []
  | s + 1 => leBytes n s ++ [byteAt n s]
def md5Pad (b : List UInt8) : List UInt8 := b ++ [128] ++ List.replicate ((119 - b.length % 64) % 64) 0 ++ leBytes (8 * b.length) 8
def md5Iv : St4 := (1732584193, 4023233417, 2562383102, 271733878)
def md5Out (v : St4) : List UInt8 := leBytes v.1 4 ++ leBytes v.2.1 4 ++ leBytes v.2.2.1 4 ++ leBytes v.2.2.2 4
def md5S (b : List UInt8) : List UInt8 := md5Out (md5Blocks (md5Pad b) ((md5Pad b).length / 64) md5Iv)
theorem leBytes_len (n : Int) : ∀ s, (leBytes n s).length = s
  | 0 => rfl
  | s + 1 => by simp [leBytes, leBytes_len n s]
theorem md5S_len (b : List UInt8) : (md5S b).length = 16 := by simp [md5S, md5Out, leBytes_len]
attribute [local irreducible] SStep DW DWin DOps thenQ inBlk loopQ retQ retQG FnF FnG Wk IntKind.wrap IntKind.andI IntKind.orI IntKind.xorI IntKind.andNotI IntKind.shlI IntKind.shrI
theorem ref1_turn (x n : Int) (h0 : 0 ≤ n) (h1 : n ≤ 32) : FnF Try.prog 113 [.int .u32 x, .int .i64 n] (.int .u32 (rot x n)) := by
  refine fnF_of Try.func113 rfl rfl rfl ?_
  simp only [envOf]
  repeat' (first
    | (apply Stp.go; case a => constructor)
    | refine blk_hit rfl ?_ | refine blk_miss rfl ?_ | refine dnilD (by kernel_rfl) ?_ | refine DW_cond_t rfl ?_ | refine DW_cond_f rfl ?_
    | refine dpOff rfl rfl ?_
    | ((first | apply dX rfl | apply dXon rfl rfl | apply dpMay rfl rfl (by intro h; first | trivial | exact ⟨h, trivial⟩ | exact ⟨h, h, trivial⟩ | exact ⟨h, h, h, trivial⟩)); (case h => ((try intro hg); first | exact S_shl rfl rfl (by omega) | exact S_shr rfl rfl (by omega) | exact S_al rfl | exact S_bx rfl rfl | exact S_store rfl rfl rfl rfl rfl rfl | (apply Pu.ok; repeat' (first | rfl | exact .inK (by simp only [InK]; omega) | exact .inK (by simp only [InK]; simp at hg; omega) | exact .wr | constructor | decide | omega)))); (try case hp => constructor))
    | refine dpickAnd rfl rfl rfl rfl rfl ?_ | refine dpickOr rfl rfl rfl rfl rfl ?_
    | fail)
  exact ret1 rfl (.inl rfl) rfl
theorem and_31 : ∀ n : Nat, n < 32 → IntKind.u64.andI (n : Int) 31 = n := by decide +kernel
theorem bits_rot (x : Int) (n : Nat) (h : n < 32) : FnF Try.prog 123 [.int .u32 x, .int .i64 (n : Int)] (.int .u32 (rot x n)) := by
  refine fnF_of Try.func123 rfl rfl rfl ?_
  simp only [envOf]
  have ha := and_31 n h
  repeat' (first
    | (apply Stp.go; case a => constructor)
    | refine blk_hit rfl ?_ | refine blk_miss rfl ?_ | refine dnilD (by kernel_rfl) ?_ | refine DW_cond_t rfl ?_ | refine DW_cond_f rfl ?_
    | refine dpOff rfl rfl ?_
    | ((first | apply dX rfl | apply dXon rfl rfl | apply dpMay rfl rfl (by intro h; first | trivial | exact ⟨h, trivial⟩ | exact ⟨h, h, trivial⟩ | exact ⟨h, h, h, trivial⟩)); (case h => ((try intro hg); first | exact as_int (S_and rfl rfl) ha | exact S_shl rfl rfl (by omega) | exact S_shr rfl rfl (by omega) | exact S_al rfl | exact S_bx rfl rfl | exact S_store rfl rfl rfl rfl rfl rfl | (apply Pu.ok; repeat' (first | rfl | exact .inK (by simp only [InK]; omega) | exact .inK (by simp only [InK]; simp at hg; omega) | exact .wr | constructor | decide | omega)))); (try case hp => constructor))
    | refine dpickAnd rfl rfl rfl rfl rfl ?_ | refine dpickOr rfl rfl rfl rfl rfl ?_
    | fail)
  exact ret1 rfl (.inl rfl) rfl
theorem bits_rotI (x n : Int) (h0 : 0 ≤ n) (h1 : n < 32) : FnF Try.prog 123 [.int .u32 x, .int .i64 n] (.int .u32 (rot x n)) := by
  obtain ⟨k, rfl⟩ := Int.eq_ofNat_of_zero_le h0
  exact bits_rot x k (by omega)
theorem md5_turns : FnF Try.prog 122 [] (.agg (md5R.map fun n => .int .i64 n)) := by
  refine fnF_of Try.func122 rfl rfl rfl ?_
  simp only [envOf]
  repeat' (first
    | (apply Stp.go; case a => constructor)
    | refine blk_hit rfl ?_ | refine blk_miss rfl ?_ | refine dnilD (by kernel_rfl) ?_ | refine DW_cond_t rfl ?_ | refine DW_cond_f rfl ?_
    | refine dpOff rfl rfl ?_
    | ((first | apply dX rfl | apply dXon rfl rfl | apply dpMay rfl rfl (by intro h; first | trivial | exact ⟨h, trivial⟩ | exact ⟨h, h, trivial⟩ | exact ⟨h, h, h, trivial⟩)); (case h => ((try intro hg); first | exact S_al rfl | exact S_bx rfl rfl | exact S_store rfl rfl rfl rfl rfl rfl | (apply Pu.ok; repeat' (first | rfl | exact .inK (by simp only [InK]; omega) | exact .inK (by simp only [InK]; simp at hg; omega) | exact .wr | constructor | decide | omega)))); (try case hp => constructor))
    | refine dpickAnd rfl rfl rfl rfl rfl ?_ | refine dpickOr rfl rfl rfl rfl rfl ?_
    | fail)
  exact retN (.cellA inferInstance rfl rfl rfl rfl (.inl rfl) .nil) rfl
set_option maxRecDepth 10000 in
theorem md5_table : FnF Try.prog 121 [] (.agg (md5T.map fun n => .int .u32 n)) := by
  refine fnF_of Try.func121 rfl rfl rfl ?_
  simp only [envOf]
  repeat' (first
    | (apply Stp.go; case a => constructor)
    | refine blk_hit rfl ?_ | refine blk_miss rfl ?_ | refine dnilD (by kernel_rfl) ?_ | refine DW_cond_t rfl ?_ | refine DW_cond_f rfl ?_
    | refine dpOff rfl rfl ?_
    | ((first | apply dX rfl | apply dXon rfl rfl | apply dpMay rfl rfl (by intro h; first | trivial | exact ⟨h, trivial⟩ | exact ⟨h, h, trivial⟩ | exact ⟨h, h, h, trivial⟩)); (case h => ((try intro hg); first | exact S_al rfl | exact S_bx rfl rfl | exact S_store rfl rfl rfl rfl rfl rfl | (apply Pu.ok; repeat' (first | rfl | exact .inK (by simp only [InK]; omega) | exact .inK (by simp only [InK]; simp at hg; omega) | exact .wr | constructor | decide | omega)))); (try case hp => constructor))
    | refine dpickAnd rfl rfl rfl rfl rfl ?_ | refine dpickOr rfl rfl rfl rfl rfl ?_
    | fail)
  exact retN (.cellA inferInstance rfl rfl rfl rfl (.inl rfl) .nil) rfl
set_option maxRecDepth 10000 in
theorem ref1_Table : FnF Try.prog 111 [] (.slice (md5T.map u32V)) := by
  refine fnF_of Try.func111 rfl rfl rfl ?_
  simp only [envOf]
  repeat' (first
    | (apply Stp.go; case a => constructor)
    | refine blk_hit rfl ?_ | refine blk_miss rfl ?_ | refine dnilD (by kernel_rfl) ?_ | refine DW_cond_t rfl ?_ | refine DW_cond_f rfl ?_
    | refine dpOff rfl rfl ?_
    | ((first | apply dX rfl | apply dXon rfl rfl | apply dpMay rfl rfl (by intro h; first | trivial | exact ⟨h, trivial⟩ | exact ⟨h, h, trivial⟩ | exact ⟨h, h, h, trivial⟩)); (case h => ((try intro hg); first | exact S_al rfl | exact S_bx rfl rfl | exact S_store rfl rfl rfl rfl rfl rfl | (apply Pu.ok; repeat' (first | rfl | exact .inK (by simp only [InK]; omega) | exact .inK (by simp only [InK]; simp at hg; omega) | exact .wr | constructor | decide | omega)))); (try case hp => constructor))
    | refine dpickAnd rfl rfl rfl rfl rfl ?_ | refine dpickOr rfl rfl rfl rfl rfl ?_
    | fail)
  exact ret1 rfl (.inl rfl) rfl
end Go.Proofs.Ytkppkgahdoglpaa
