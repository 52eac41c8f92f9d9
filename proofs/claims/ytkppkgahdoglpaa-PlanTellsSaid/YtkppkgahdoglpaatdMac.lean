/- HMAC: of the program, and of the document. -/
import Derived.Test.YtkppkgahdoglpaatdMdt
namespace Go.Proofs.Ytkppkgahdoglpaa
open Go.RowKit
def macK (key : List UInt8) : List UInt8 := if 64 < key.length then md5S key else key
def baseK (key : List UInt8) : List UInt8 := key ++ List.replicate (64 - key.length) 0
def padK (key : List UInt8) (w : UInt8) : List UInt8 := (baseK key).map (· ^^^ w)
def macS (key b : List UInt8) : List UInt8 := md5S (padK (macK key) 92 ++ md5S (padK (macK key) 54 ++ b))
theorem macK_le (key : List UInt8) : (macK key).length ≤ 64 := by
  unfold macK; split
  · rw [md5S_len]; decide
  · omega
theorem baseK_len {key : List UInt8} (h : key.length ≤ 64) : (baseK key).length = 64 := by simp [baseK]; omega
theorem padK_len {key : List UInt8} (h : key.length ≤ 64) (w : UInt8) : (padK key w).length = 64 := by unfold padK; rw [List.length_map, baseK_len h]
theorem xor_u8 (c w : UInt8) : IntKind.u8.xorI (c.toNat : Int) (w.toNat : Int) = ((c ^^^ w).toNat : Int) := by
  unfold IntKind.xorI
  have hb : IntKind.u8.bits = 8 := rfl
  have hc := c.toNat_lt
  have hw := w.toNat_lt
  have e1 : (BitVec.ofInt 8 (c.toNat : Int) ^^^ BitVec.ofInt 8 (w.toNat : Int)).toNat = c.toNat ^^^ w.toNat := by
    rw [BitVec.toNat_xor]
    congr 1
    · simp []
    · simp []
  have h3 : c.toNat ^^^ w.toNat < 2 ^ 8 := Nat.xor_lt_two_pow hc hw
  rw [hb, e1, wrap_u8, UInt8.toNat_xor]
  omega
def mixK (base : List UInt8) (w : UInt8) (k : Nat) : List UInt8 := (base.take k).map (· ^^^ w) ++ base.drop k
theorem mixK_at {base : List UInt8} {w : UInt8} {k : Nat} (h : k < base.length) : (mixK base w k)[k]? = some base[k] := by
  unfold mixK
  rw [List.getElem?_append_right (by simp; omega)]
  simp [Nat.min_eq_left (Nat.le_of_lt h)]
theorem mixK_set {base : List UInt8} {w : UInt8} {k : Nat} (h : k < base.length) : (mixK base w k).set k (base[k] ^^^ w) = mixK base w (k + 1) := by
  unfold mixK
  have hl : ((base.take k).map (· ^^^ w)).length = k := by simp; omega
  rw [List.set_append_right _ _ (by omega), hl, Nat.sub_self, List.drop_eq_getElem_cons h, List.set_cons_zero, List.take_succ_eq_append_getElem h, List.map_append, List.append_assoc]
  rfl
section
variable {P : Program} {e : Operand → D} {m : Mem} {dst : Option Tmp} {ty : TypeId} {pos : String} {af : Array Edge} {gd : Option (Nat × Bool)} {x y : Operand} {t ts : TypeId}
theorem S_copyM {α : Type} {f : α → List V} {us bs : List α} {g ver len s by_ el : Nat} {agg nw n nf : Bool} {zs : List V} [hu : SlcI P t el] [ht : TyI P el agg s by_ zs] [hf : CellsI f s] [hfl : FlatI f] (hs : Nat.blt 0 s = true) (h1 : e x = .own g ver 0 len) (hmg : m.at g = .row ver false nw s (us.map f)) (hlx : len = us.length)
    (h2 : e y = .dat n (.slice (bs.map f))) (hnf : nf = nw) :
    SStep P ⟨dst, .call { callee := .builtin .copy, args := #[x, y], argTypes := #[t, ts] }, ty, pos, af, gd⟩ e m (g :: refs0 (e y)) (.dat true (.int .i64 (min bs.length len : Nat))) [(g, .row ver false nf s ((bs.take len ++ us.drop bs.length).map f))] := by
  have hs' : 0 < s := by simpa [Nat.blt_eq] using hs
  have hl : (us.map f).length = us.length := by simp
  have hb : (bs.map f).length = bs.length := by simp
  have := S_copy (P := P) (m := m) (t := t) (ts := ts) (el := el) (by_ := by_) (zs := zs) (agg := agg) (dst := dst) (ty := ty) (pos := pos) (af := af) (gd := gd) (nf := true) (n := n) (els := bs.map f) hs' h1 hmg (by rw [hl]; exact hlx)
    (by rw [h2]; exact .dat n _ s (map_len bs)) (map_el bs) (.inr (fun e he d hd => map_flat bs e he d hd)) (fun v lo l h => by rw [h2] at h; cases h)
  rw [hb, Bool.and_true, ← List.map_take, ← List.map_drop, ← List.map_append] at this
  rw [hnf]
  exact this
end
attribute [local irreducible] SStep DW DWin DOps thenQ inBlk loopQ retQ retQG FnF FnG Wk IntKind.wrap IntKind.andI IntKind.orI IntKind.xorI IntKind.andNotI IntKind.shlI IntKind.shrI md5S padK
set_option maxHeartbeats 1000000 in
theorem md5_pad (key : List UInt8) (hk : key.length ≤ 64) (w : UInt8) : FnG Try.prog 101 [.dat false (.int .u8 w.toNat), .dat false (.rp [.slice (key.map byteV)])] [] (.own 1000 0 0 64) [(1000, .row 0 false true 1 ((padK key w).map byteV))] := by
  refine fnG_of Try.func101 rfl rfl rfl ?_
  simp only [envD]
  have hbl := baseK_len hk
  have hbase : key.take 64 ++ (List.replicate 64 0).drop key.length = baseK key := by
    unfold baseK; rw [List.take_of_length_le hk, List.drop_replicate]
  repeat' (first
    | (apply dt rfl; case h => exact S_mkM (f := byteV) (l := 64) (c := 64) (0 : UInt8) _ rfl rfl rfl rfl (Nat.le_refl _) (by decide) rfl rfl)
    | (apply Stp.go; case a => constructor)
    | refine blk_hit rfl ?_ | refine blk_miss rfl ?_ | refine dnilD (by kernel_rfl) ?_ | refine DW_cond_t rfl ?_ | refine DW_cond_f rfl ?_
    | refine dpOff rfl rfl ?_
    | ((first | apply dX rfl | apply dXon rfl rfl | apply dpMay rfl rfl (by intro h; first | trivial | exact ⟨h, trivial⟩ | exact ⟨h, h, trivial⟩ | exact ⟨h, h, h, trivial⟩)); (case h => ((try intro hg); first | exact S_copyM (f := byteV) (us := List.replicate 64 0) (bs := key) rfl rfl rfl rfl rfl rfl | exact S_al rfl | exact S_bx rfl rfl | exact S_store rfl rfl rfl rfl rfl rfl | (apply Pu.ok; repeat' (first | rfl | exact .inK (by simp only [InK]; omega) | exact .inK (by simp only [InK]; simp at hg; omega) | exact .wr | constructor | decide | omega)))); (try case hp => constructor))
    | refine dpickAnd rfl rfl rfl rfl rfl ?_ | refine dpickOr rfl rfl rfl rfl rfl ?_
    | fail)
  rw [hbase]
  obtain ⟨base, hb⟩ : ∃ base, base = baseK key := ⟨_, rfl⟩
  rw [← hb] at hbl ⊢
  have hpad : padK key w = mixK base w 64 := by
    unfold padK mixK; rw [← hb, List.take_of_length_le (by omega), List.drop_eq_nil_of_le (by omega)]; simp
  rw [hpad]
  refine DW_loop (fun p : Nat × List UInt8 => ⟨[(0, .dat false (.int .u8 w.toNat)), (4, .own 6 0 0 64), (11, .dat true (.int .i64 64)), (12, .dat true (.int .i64 p.1))], [(6, .row 0 false true 1 (p.2.map byteV))], 24⟩)
    (fun p => p.1 ≤ 64 ∧ p.2 = mixK base w p.1) (fun p => 64 - p.1) (0, base) ⟨Nat.zero_le _, by simp [mixK]⟩
    (Wk_g some rfl rfl (by (repeat' (first | exact trivial | rfl | exact listLe_map _ | exact ⟨_, rfl, .inl rfl⟩ | exact ⟨_, rfl, .inr (.inl rfl)⟩ | exact ⟨_, rfl, .inr (.inr rfl)⟩ | refine ⟨_, _, rfl, rfl, ?_⟩ | exact ⟨_, rfl, rfl⟩ | exact ⟨_, _, _, _, rfl, rfl, rfl⟩ | exact ⟨_, rfl⟩ | exact ⟨_, _, rfl⟩ | apply And.intro)))) (fun p hR => ?_)
  obtain ⟨k, us⟩ := p
  obtain ⟨hk, hus⟩ := hR
  simp only at hk hus
  dsimp only
  by_cases hlt : k < 64
  · have hx0 : us[(k : Int).toNat]? = some (base[k]'(by omega)) := by rw [hus, Int.toNat_natCast]; exact mixK_at (by omega)
    have hx1 : (us.map byteV)[(k : Int).toNat]? = some (byteV (base[k]'(by omega))) := by rw [List.getElem?_map, hx0]; rfl
    have hset : us.set (k : Int).toNat (base[k]'(by omega) ^^^ w) = mixK base w (k + 1) := by rw [hus, Int.toNat_natCast]; exact mixK_set (by omega)
    generalize base[k]'(by omega) = c at hx0 hx1 hset
    repeat' (first
    | (apply Stp.go; case a => constructor)
    | refine blk_hit rfl ?_ | refine blk_miss rfl ?_ | refine dnilD (by kernel_rfl) ?_ | refine DW_cond_t rfl ?_ | refine DW_cond_f rfl ?_
    | refine dpOff rfl rfl ?_
    | ((first | apply dX rfl | apply dXon rfl rfl | apply dpMay rfl rfl (by intro h; first | trivial | exact ⟨h, trivial⟩ | exact ⟨h, h, trivial⟩ | exact ⟨h, h, h, trivial⟩)); (case h => ((try intro hg); first | exact as_bool (S_lss rfl rfl) (decide_eq_true (by omega : (k : Int) < 64)) | exact S_ixO rfl rfl rfl (by omega) (by omega) | exact S_load_rptr rfl rfl hx1 rfl | exact as_int (S_xor rfl rfl) (xor_u8 c w) | exact S_storeM (f := byteV) (a := c ^^^ w) rfl rfl hx0 rfl rfl (.inr ⟨rfl, inferInstance⟩) rfl rfl | exact S_al rfl | exact S_bx rfl rfl | exact S_store rfl rfl rfl rfl rfl rfl | (apply Pu.ok; repeat' (first | rfl | exact .inK (by simp only [InK]; omega) | exact .inK (by simp only [InK]; simp at hg; omega) | exact .wr | constructor | decide | omega)))); (try case hp => constructor))
    | refine dpickAnd rfl rfl rfl rfl rfl ?_ | refine dpickOr rfl rfl rfl rfl rfl ?_
    | fail)
    exact loop_again (k + 1, us.set (k : Int).toNat (c ^^^ w)) ⟨hlt, hset⟩ (by simp only; omega) (Wk_g some rfl rfl (by (repeat' (first | exact trivial | rfl | exact listLe_map _ | exact ⟨_, rfl, .inl rfl⟩ | exact ⟨_, rfl, .inr (.inl rfl)⟩ | exact ⟨_, rfl, .inr (.inr rfl)⟩ | refine ⟨_, _, rfl, rfl, ?_⟩ | exact ⟨_, rfl, rfl⟩ | exact ⟨_, _, _, _, rfl, rfl, rfl⟩ | exact ⟨_, rfl⟩ | exact ⟨_, _, rfl⟩ | apply And.intro))))
  · have hk64 : k = 64 := by omega
    subst hk64
    rw [← hus]
    repeat' (first
    | (apply Stp.go; case a => constructor)
    | refine blk_hit rfl ?_ | refine blk_miss rfl ?_ | refine dnilD (by kernel_rfl) ?_ | refine DW_cond_t rfl ?_ | refine DW_cond_f rfl ?_
    | refine dpOff rfl rfl ?_
    | ((first | apply dX rfl | apply dXon rfl rfl | apply dpMay rfl rfl (by intro h; first | trivial | exact ⟨h, trivial⟩ | exact ⟨h, h, trivial⟩ | exact ⟨h, h, h, trivial⟩)); (case h => ((try intro hg); first | exact as_bool (S_lss rfl rfl) (decide_eq_false (by omega : ¬ ((64 : Nat) : Int) < 64)) | exact S_al rfl | exact S_bx rfl rfl | exact S_store rfl rfl rfl rfl rfl rfl | (apply Pu.ok; repeat' (first | rfl | exact .inK (by simp only [InK]; omega) | exact .inK (by simp only [InK]; simp at hg; omega) | exact .wr | constructor | decide | omega)))); (try case hp => constructor))
    | refine dpickAnd rfl rfl rfl rfl rfl ?_ | refine dpickOr rfl rfl rfl rfl rfl ?_
    | fail)
    exact gOwn (Wk_g (fun g => if g = 1000 then some 6 else none) rfl rfl (by (repeat' (first | exact trivial | rfl | exact listLe_map _ | exact ⟨_, rfl, .inl rfl⟩ | exact ⟨_, rfl, .inr (.inl rfl)⟩ | exact ⟨_, rfl, .inr (.inr rfl)⟩ | refine ⟨_, _, rfl, rfl, ?_⟩ | exact ⟨_, rfl, rfl⟩ | exact ⟨_, _, _, _, rfl, rfl, rfl⟩ | exact ⟨_, rfl⟩ | exact ⟨_, _, rfl⟩ | apply And.intro))))
end Go.Proofs.Ytkppkgahdoglpaa
