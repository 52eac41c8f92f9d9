/- Bytes: numbers as bytes; slices.Clone of bytes. -/
import Derived.Test.YtpdoplmnedpdaaaTy
import Derived.Test.YtpdoplmnedpdaaabNil
namespace Go.Proofs.Ytpdoplmnedpdaaa
open Go.RowKit
/-- The byte of a number that stands k bytes from the low end. -/
def byteAt (n : Int) (k : Nat) : UInt8 := UInt8.ofNat ((n / 2 ^ (8 * k)).toNat % 256)
theorem byteAt_v {n : Int} (h0 : 0 ≤ n) (k : Nat) : ((byteAt n k).toNat : Int) = (n / 2 ^ (8 * k)) % 256 := by
  unfold byteAt
  have h1 : 0 ≤ n / 2 ^ (8 * k) := Int.ediv_nonneg h0 (Int.pow_nonneg (by decide))
  simp
  omega
/-- So many bytes of a number, the high ones first. -/
def beBytes (n : Int) : Nat → List UInt8
  | 0 => []
  | s + 1 => byteAt n s :: beBytes n s
theorem beBytes_len (n : Int) : ∀ s, (beBytes n s).length = s
  | 0 => rfl
  | s + 1 => by simp [beBytes, beBytes_len n s]

theorem wrap_u8 (a : Int) : IntKind.u8.wrap a = a % 256 := by
  simp [IntKind.wrap, IntKind.bits, IntKind.signed]

/-- The number that bytes tell, the high one first (of sixty-four bits). -/
def beNum (l : List UInt8) : Int := l.foldl (fun n c => (n * 256 + c.toNat) % 18446744073709551616) 0
theorem beNum_snoc (l : List UInt8) (c : UInt8) : beNum (l ++ [c]) = (beNum l * 256 + c.toNat) % 18446744073709551616 := by simp [beNum]
theorem beNum_range (l : List UInt8) : 0 ≤ beNum l ∧ beNum l < 18446744073709551616 := by
  rcases List.eq_nil_or_concat l with rfl | ⟨l', c, rfl⟩
  · decide
  · rw [List.concat_eq_append, beNum_snoc]; omega
theorem wrap_u64 (a : Int) : IntKind.u64.wrap a = a % 18446744073709551616 := by
  simp [IntKind.wrap, IntKind.bits, IntKind.signed]
theorem ofInt_toNat64 {a : Int} (h : 0 ≤ a) (h2 : a < 18446744073709551616) : (BitVec.ofInt 64 a).toNat = a.toNat := by
  simp [BitVec.toNat_ofInt]; omega
theorem or_low {a : Int} {c : Nat} (h : 0 ≤ a) (h2 : a < 18446744073709551616) (h3 : a % 256 = 0) (hc : c < 256) :
    IntKind.u64.orI a (c : Int) = a + c := by
  unfold IntKind.orI
  have hb : IntKind.u64.bits = 64 := rfl
  have e1 : (BitVec.ofInt 64 a ||| BitVec.ofInt 64 (c : Int)).toNat = a.toNat ||| c := by
    rw [BitVec.toNat_or, ofInt_toNat64 h h2, ofInt_toNat64 (by omega) (by omega)]
    simp
  have e2 : a.toNat = (a.toNat / 256) <<< 8 := by rw [Nat.shiftLeft_eq]; omega
  rw [hb, e1, e2, ← Nat.shiftLeft_add_eq_or_of_lt (by omega : c < 2 ^ 8), ← e2, wrap_u64]
  omega
theorem or_step {n : Int} (c : UInt8) (_ : 0 ≤ n) :
    IntKind.u64.orI (IntKind.u64.shlI n 8) (c.toNat : Int) = (n * 256 + c.toNat) % 18446744073709551616 := by
  have e : (2 : Int) ^ (min (8 : Int).toNat IntKind.u64.bits) = 256 := by decide
  have hs : IntKind.u64.shlI n 8 = n * 256 % 18446744073709551616 := by unfold IntKind.shlI; rw [e, wrap_u64]
  have hc : c.toNat < 256 := c.toNat_lt
  rw [hs, or_low (by omega) (by omega) (by omega) hc]
  omega

theorem mul_step {n : Int} (c : UInt8) : IntKind.u64.wrap (IntKind.u64.wrap (256 * n) + c.toNat) = (n * 256 + c.toNat) % 18446744073709551616 := by
  rw [wrap_u64, wrap_u64]; omega
theorem slice_get {l : List UInt8} {a s k : Nat} (h : a + s ≤ l.length) (hk : k < s) : ((l.drop a).take s)[k]? = some (l[a + k]'(by omega)) := by
  rw [List.getElem?_take, if_pos hk, List.getElem?_drop, List.getElem?_eq_getElem]
theorem slice_len {l : List UInt8} {a s : Nat} (h : a + s ≤ l.length) : ((l.drop a).take s).length = s := by simp; omega
theorem map_slice {l : List UInt8} {a s : Nat} : ((l.map byteV).drop a).take s = ((l.drop a).take s).map byteV := by simp

theorem beBytes_shift (n : Int) (_ : 0 ≤ n) (j : Nat) : byteAt (n / 256 ^ j) 0 = byteAt n j := by
  unfold byteAt
  have : (256 : Int) ^ j = 2 ^ (8 * j) := by rw [Int.pow_mul]; rfl
  rw [this]
  simp
attribute [local irreducible] SStep DW DOps thenQ inBlk loopQ retQ retQG FnF FnG Wk IntKind.wrap IntKind.andI IntKind.orI IntKind.xorI IntKind.andNotI IntKind.shlI IntKind.shrI
theorem clone_bytes (l : List UInt8) (hl : l.length ≤ 1099511627776) : FnG Try.prog 75 [.dat false (.slice (l.map byteV))] [] (.own 1000 0 0 l.length) [(1000, .row 0 false true 1 (l.map byteV))] := by
  refine fnG_of Try.func75 rfl rfl rfl ?_
  simp only [envD]
  repeat' (first
    | refine DW_isnil rfl rfl rfl (fun h => ?_) ?_
    | (apply dt rfl; case h => exact S_litO (els := []) _ rfl rfl rfl rfl rfl)
    | refine DW_seq ?_
    | refine DW_region ?_
    | refine DW_draw ?_
    | refine dnilP ?_
    | refine dnilD (by kernel_rfl) ?_
    | refine then_normal ?_
    | refine then_exit ?_
    | refine then_ret ?_
    | refine DW_block ?_
    | refine blk_normal ?_
    | refine blk_ret ?_
    | refine blk_hit rfl ?_
    | refine blk_miss rfl ?_
    | refine loop_exit ?_
    | refine loop_ret ?_
    | refine DW_ret ?_
    | refine DW_exit ?_
    | refine DW_skip ?_
    | refine DW_cond_t rfl ?_
    | refine DW_cond_f rfl ?_
    | (apply dpC rfl; case h => first | (apply Pu.ok; repeat' (first | rfl | exact .inK (by simp only [InK]; omega) | exact .inK (by simp only [InK]; simp at hg; omega) | exact .wr | constructor | decide | omega)))
    | (apply dmC rfl; case h => first | exact S_appM (f := byteV) (us := []) (bs := l) rfl rfl (.dat _ _) rfl rfl (.inr ⟨rfl, inferInstance⟩) rfl (by simp; omega))
    | refine dpOff rfl rfl ?_
    | (apply dmOn rfl rfl; case h => first | exact S_appM (f := byteV) (us := []) (bs := l) rfl rfl (.dat _ _) rfl rfl (.inr ⟨rfl, inferInstance⟩) rfl (by simp; omega))
    | ((first | apply dp rfl | apply dpOn rfl rfl | apply dpMay rfl rfl (by first | exact fun _ => trivial | exact fun h => ⟨h, trivial⟩ | exact fun h => ⟨h, h, trivial⟩ | exact fun h => ⟨h, h, h, trivial⟩)); case h => ((try intro hg); first | exact S_appM (f := byteV) (us := []) (bs := l) rfl rfl (.dat _ _) rfl rfl (.inr ⟨rfl, inferInstance⟩) rfl (by simp; omega) | (apply Pu.ok; repeat' (first | rfl | exact .inK (by simp only [InK]; omega) | exact .inK (by simp only [InK]; simp at hg; omega) | exact .wr | constructor | decide | omega))))
    | refine dpickAnd rfl rfl rfl rfl rfl ?_ | refine dpickOr rfl rfl rfl rfl rfl ?_
    | (apply dt rfl; case h => first | exact S_alloc _ rfl | exact S_box _ rfl rfl)
    | (apply ds; case h => first | exact S_store rfl rfl rfl rfl rfl rfl)
    | (apply dm rfl; case h => first | exact M_d rfl | exact S_alloc 2001 rfl | exact S_alloc 2002 rfl | exact S_alloc 2003 rfl | exact S_alloc 2004 rfl | exact S_alloc 2005 rfl)
    | fail)
  · have : l = [] := by simpa using h
    subst this
    exact gOwn (Wk_gen (fun _ => none) rfl rfl (by (repeat' (first | exact trivial | rfl | exact listLe_map _ | exact ⟨_, rfl, .inl rfl⟩ | exact ⟨_, rfl, .inr (.inl rfl)⟩ | exact ⟨_, rfl, .inr (.inr rfl)⟩ | refine ⟨_, _, rfl, rfl, ?_⟩ | exact ⟨_, rfl, rfl⟩ | exact ⟨_, _, _, _, rfl, rfl, rfl⟩ | exact ⟨_, rfl⟩ | exact ⟨_, _, rfl⟩ | apply And.intro))) (by (repeat' (first | exact trivial | rfl | exact listLe_map _ | exact ⟨_, rfl, .inl rfl⟩ | exact ⟨_, rfl, .inr (.inl rfl)⟩ | exact ⟨_, rfl, .inr (.inr rfl)⟩ | refine ⟨_, _, rfl, rfl, ?_⟩ | exact ⟨_, rfl, rfl⟩ | exact ⟨_, _, _, _, rfl, rfl, rfl⟩ | exact ⟨_, rfl⟩ | exact ⟨_, _, rfl⟩ | apply And.intro))))
  · exact gOwn (Wk_gen (fun g => if g = 1000 then some 5 else none) rfl rfl (by (repeat' (first | exact trivial | rfl | exact listLe_map _ | exact ⟨_, rfl, .inl rfl⟩ | exact ⟨_, rfl, .inr (.inl rfl)⟩ | exact ⟨_, rfl, .inr (.inr rfl)⟩ | refine ⟨_, _, rfl, rfl, ?_⟩ | exact ⟨_, rfl, rfl⟩ | exact ⟨_, _, _, _, rfl, rfl, rfl⟩ | exact ⟨_, rfl⟩ | exact ⟨_, _, rfl⟩ | apply And.intro))) (by (repeat' (first | exact trivial | rfl | exact listLe_map _ | exact ⟨_, rfl, .inl rfl⟩ | exact ⟨_, rfl, .inr (.inl rfl)⟩ | exact ⟨_, rfl, .inr (.inr rfl)⟩ | refine ⟨_, _, rfl, rfl, ?_⟩ | exact ⟨_, rfl, rfl⟩ | exact ⟨_, _, _, _, rfl, rfl, rfl⟩ | exact ⟨_, rfl⟩ | exact ⟨_, _, rfl⟩ | apply And.intro))))

end Go.Proofs.Ytpdoplmnedpdaaa
