/- HMAC: the two functions. -/
import Derived.Test.YtpgcemabkjmliaaGreatzdMdt
namespace Go.Proofs.YtpgcemabkjmliaaGreat
open Go.RowKit
def macK (key : List UInt8) : List UInt8 := if 64 < key.length then md5S key else key
def baseK (key : List UInt8) : List UInt8 := key ++ List.replicate (64 - key.length) 0
def padK (key : List UInt8) (w : UInt8) : List UInt8 := (baseK key).map (· ^^^ w)
def macS (key b : List UInt8) : List UInt8 := md5S (padK (macK key) 92 ++ md5S (padK (macK key) 54 ++ b))
theorem macK_le (key : List UInt8) : (macK key).length ≤ 64 := by
  unfold macK; split
  · rw [md5S_len]; decide
  · omega
theorem baseK_len {key : List UInt8} (h : key.length ≤ 64) : (baseK key).length = 64 := by simp [baseK]; omega
theorem padK_len {key : List UInt8} (h : key.length ≤ 64) (w : UInt8) : (padK key w).length = 64 := by unfold padK; rw [List.length_map, baseK_len h]
theorem xor_u8 (c w : UInt8) : IntKind.u8.xorI (c.toNat : Int) (w.toNat : Int) = ((c ^^^ w).toNat : Int) := by
  unfold IntKind.xorI
  have hb : IntKind.u8.bits = 8 := rfl
  have hc := c.toNat_lt
  have hw := w.toNat_lt
  have e1 : (BitVec.ofInt 8 (c.toNat : Int) ^^^ BitVec.ofInt 8 (w.toNat : Int)).toNat = c.toNat ^^^ w.toNat := by
    rw [BitVec.toNat_xor]
    congr 1
    · simp []
    · simp []
  have h3 : c.toNat ^^^ w.toNat < 2 ^ 8 := Nat.xor_lt_two_pow hc hw
  rw [hb, e1, wrap_u8, UInt8.toNat_xor]
  omega
def mixK (base : List UInt8) (w : UInt8) (k : Nat) : List UInt8 := (base.take k).map (· ^^^ w) ++ base.drop k
theorem mixK_at {base : List UInt8} {w : UInt8} {k : Nat} (h : k < base.length) : (mixK base w k)[k]? = some base[k] := by
  unfold mixK
  rw [List.getElem?_append_right (by simp; omega)]
  simp [Nat.min_eq_left (Nat.le_of_lt h)]
theorem mixK_set {base : List UInt8} {w : UInt8} {k : Nat} (h : k < base.length) : (mixK base w k).set k (base[k] ^^^ w) = mixK base w (k + 1) := by
  unfold mixK
  have hl : ((base.take k).map (· ^^^ w)).length = k := by simp; omega
  rw [List.set_append_right _ _ (by omega), hl, Nat.sub_self, List.drop_eq_getElem_cons h, List.set_cons_zero, List.take_succ_eq_append_getElem h, List.map_append, List.append_assoc]
  rfl
section
variable {P : Program} {e : Operand → D} {m : Mem} {dst : Option Tmp} {ty : TypeId} {pos : String} {af : Array Edge} {gd : Option (Nat × Bool)} {x y : Operand} {t ts : TypeId}
theorem S_copyM {α : Type} {f : α → List V} {us bs : List α} {g ver len s by_ el : Nat} {agg nw n nf : Bool} {zs : List V} [hu : SlcI P t el] [ht : TyI P el agg s by_ zs] [hf : CellsI f s] [hfl : FlatI f] (hs : Nat.blt 0 s = true) (h1 : e x = .own g ver 0 len) (hmg : m.at g = .row ver false nw s (us.map f)) (hlx : len = us.length)
    (h2 : e y = .dat n (.slice (bs.map f))) (hnf : nf = nw) :
    SStep P ⟨dst, .call { callee := .builtin .copy, args := #[x, y], argTypes := #[t, ts] }, ty, pos, af, gd⟩ e m (g :: refs0 (e y)) (.dat true (.int .i64 (min bs.length len : Nat))) [(g, .row ver false nf s ((bs.take len ++ us.drop bs.length).map f))] := by
  have hs' : 0 < s := by simpa [Nat.blt_eq] using hs
  have hl : (us.map f).length = us.length := by simp
  have hb : (bs.map f).length = bs.length := by simp
  have := S_copy (P := P) (m := m) (t := t) (ts := ts) (el := el) (by_ := by_) (zs := zs) (agg := agg) (dst := dst) (ty := ty) (pos := pos) (af := af) (gd := gd) (nf := true) (n := n) (els := bs.map f) hs' h1 hmg (by rw [hl]; exact hlx)
    (by rw [h2]; exact .dat n _ s (map_len bs)) (map_el bs) (.inr (fun e he d hd => map_flat bs e he d hd)) (fun v lo l h => by rw [h2] at h; cases h)
  rw [hb, Bool.and_true, ← List.map_take, ← List.map_drop, ← List.map_append] at this
  rw [hnf]
  exact this
end
attribute [local irreducible] SStep DW DWin DOps thenQ inBlk loopQ retQ retQG FnF FnG Wk IntKind.wrap IntKind.andI IntKind.orI IntKind.xorI IntKind.andNotI IntKind.shlI IntKind.shrI md5S padK
set_option maxHeartbeats 1000000 in
theorem md5_pad (key : List UInt8) (hk : key.length ≤ 64) (w : UInt8) : FnG Tryz.prog 114 [.dat false (.int .u8 w.toNat), .dat false (.rp [.slice (key.map byteV)])] [] (.own 1000 0 0 64) [(1000, .row 0 false true 1 ((padK key w).map byteV))] := by
  refine fnG_of Tryz.func114 rfl rfl rfl ?_
  simp only [envD]
  have hbl := baseK_len hk
  have hbase : key.take 64 ++ (List.replicate 64 0).drop key.length = baseK key := by
    unfold baseK; rw [List.take_of_length_le hk, List.drop_replicate]
  repeat' (first | (apply dt rfl; case h => exact S_mkM (f := byteV) (l := 64) (c := 64) (0 : UInt8) _ rfl rfl rfl rfl (Nat.le_refl _) (by decide) rfl rfl) | (apply Wa; constructor) | refine Wb rfl ?_ | refine Wc rfl ?_ | refine Wd (by kernel_rfl) ?_ | refine We rfl ?_ | refine Wf rfl ?_ | refine Wi rfl rfl ?_ | ((first | apply dX rfl | apply Da rfl rfl | apply Db rfl rfl (by intro h; first | trivial | exact ⟨h, trivial⟩ | exact ⟨h, h, trivial⟩)); (focus ((try intro hg); first | exact S_copyM (f := byteV) (us := List.replicate 64 0) (bs := key) rfl rfl rfl rfl rfl rfl | exact S_al rfl | exact S_bx rfl rfl | exact S_store rfl rfl rfl rfl rfl rfl | (apply Pu.ok; repeat' (first | rfl | exact .inK (by simp only [InK]; omega) | exact .wr | constructor | decide | omega)))); constructor) | refine Pa rfl rfl rfl rfl rfl ?_ | refine Po rfl rfl rfl rfl rfl ?_ | fail)
  rw [hbase]
  obtain ⟨base, hb⟩ : ∃ base, base = baseK key := ⟨_, rfl⟩
  rw [← hb] at hbl ⊢
  have hpad : padK key w = mixK base w 64 := by
    unfold padK mixK; rw [← hb, List.take_of_length_le (by omega), List.drop_eq_nil_of_le (by omega)]; simp
  rw [hpad]
  refine DW_loop (fun p : Nat × List UInt8 => ⟨[(0, .dat false (.int .u8 w.toNat)), (4, .own 6 0 0 64), (11, .dat true (.int .i64 64)), (12, .dat true (.int .i64 p.1))], [(6, .row 0 false true 1 (p.2.map byteV))], 24⟩)
    (fun p => p.1 ≤ 64 ∧ p.2 = mixK base w p.1) (fun p => 64 - p.1) (0, base) ⟨Nat.zero_le _, by simp [mixK]⟩
    (Wk_g some rfl rfl (by (repeat' (first | exact trivial | rfl | exact listLe_map _ | exact ⟨_, rfl, .inl rfl⟩ | exact ⟨_, rfl, .inr (.inl rfl)⟩ | exact ⟨_, rfl, .inr (.inr rfl)⟩ | refine ⟨_, _, rfl, rfl, ?_⟩ | exact ⟨_, rfl, rfl⟩ | exact ⟨_, _, _, _, rfl, rfl, rfl⟩ | exact ⟨_, rfl⟩ | exact ⟨_, _, rfl⟩ | apply And.intro)))) (fun p hR => ?_)
  obtain ⟨k, us⟩ := p
  obtain ⟨hk, hus⟩ := hR
  simp only at hk hus
  dsimp only
  by_cases hlt : k < 64
  · have hx0 : us[(k : Int).toNat]? = some (base[k]'(by omega)) := by rw [hus, Int.toNat_natCast]; exact mixK_at (by omega)
    have hx1 : (us.map byteV)[(k : Int).toNat]? = some (byteV (base[k]'(by omega))) := by rw [List.getElem?_map, hx0]; rfl
    have hset : us.set (k : Int).toNat (base[k]'(by omega) ^^^ w) = mixK base w (k + 1) := by rw [hus, Int.toNat_natCast]; exact mixK_set (by omega)
    generalize base[k]'(by omega) = c at hx0 hx1 hset
    repeat' (first | (apply Wa; constructor) | refine Wb rfl ?_ | refine Wc rfl ?_ | refine Wd (by kernel_rfl) ?_ | refine We rfl ?_ | refine Wf rfl ?_ | refine Wi rfl rfl ?_ | ((first | apply dX rfl | apply Da rfl rfl | apply Db rfl rfl (by intro h; first | trivial | exact ⟨h, trivial⟩ | exact ⟨h, h, trivial⟩)); (focus ((try intro hg); first | exact as_bool (S_lss rfl rfl) (decide_eq_true (by omega : (k : Int) < 64)) | exact S_ixO rfl rfl rfl (by omega) (by omega) | exact S_load_rptr rfl rfl hx1 rfl | exact as_int (S_xor rfl rfl) (xor_u8 c w) | exact S_storeM (f := byteV) (a := c ^^^ w) rfl rfl hx0 rfl rfl (.inr ⟨rfl, inferInstance⟩) rfl rfl | exact S_al rfl | exact S_bx rfl rfl | exact S_store rfl rfl rfl rfl rfl rfl | (apply Pu.ok; repeat' (first | rfl | exact .inK (by simp only [InK]; omega) | exact .wr | constructor | decide | omega)))); constructor) | refine Pa rfl rfl rfl rfl rfl ?_ | refine Po rfl rfl rfl rfl rfl ?_ | fail)
    exact loop_again (k + 1, us.set (k : Int).toNat (c ^^^ w)) ⟨hlt, hset⟩ (by simp only; omega) (Wk_g some rfl rfl (by (repeat' (first | exact trivial | rfl | exact listLe_map _ | exact ⟨_, rfl, .inl rfl⟩ | exact ⟨_, rfl, .inr (.inl rfl)⟩ | exact ⟨_, rfl, .inr (.inr rfl)⟩ | refine ⟨_, _, rfl, rfl, ?_⟩ | exact ⟨_, rfl, rfl⟩ | exact ⟨_, _, _, _, rfl, rfl, rfl⟩ | exact ⟨_, rfl⟩ | exact ⟨_, _, rfl⟩ | apply And.intro))))
  · have hk64 : k = 64 := by omega
    subst hk64
    rw [← hus]
    repeat' (first | (apply Wa; constructor) | refine Wb rfl ?_ | refine Wc rfl ?_ | refine Wd (by kernel_rfl) ?_ | refine We rfl ?_ | refine Wf rfl ?_ | refine Wi rfl rfl ?_ | ((first | apply dX rfl | apply Da rfl rfl | apply Db rfl rfl (by intro h; first | trivial | exact ⟨h, trivial⟩ | exact ⟨h, h, trivial⟩)); (focus ((try intro hg); first | exact as_bool (S_lss rfl rfl) (decide_eq_false (by omega : ¬ ((64 : Nat) : Int) < 64)) | exact S_al rfl | exact S_bx rfl rfl | exact S_store rfl rfl rfl rfl rfl rfl | (apply Pu.ok; repeat' (first | rfl | exact .inK (by simp only [InK]; omega) | exact .wr | constructor | decide | omega)))); constructor) | refine Pa rfl rfl rfl rfl rfl ?_ | refine Po rfl rfl rfl rfl rfl ?_ | fail)
    exact gOwn (Wk_g (fun g => if g = 1000 then some 6 else none) rfl rfl (by (repeat' (first | exact trivial | rfl | exact listLe_map _ | exact ⟨_, rfl, .inl rfl⟩ | exact ⟨_, rfl, .inr (.inl rfl)⟩ | exact ⟨_, rfl, .inr (.inr rfl)⟩ | refine ⟨_, _, rfl, rfl, ?_⟩ | exact ⟨_, rfl, rfl⟩ | exact ⟨_, _, _, _, rfl, rfl, rfl⟩ | exact ⟨_, rfl⟩ | exact ⟨_, _, rfl⟩ | apply And.intro))))
end Go.Proofs.YtpgcemabkjmliaaGreat
namespace Go.Proofs.YtpgcemabkjmliaaGreat
open Go.RowKit
theorem md5_SumF (b : List UInt8) (hb : b.length ≤ 4194304) : FnF Tryz.prog 113 [.slice (b.map byteV)] (.slice ((md5S b).map byteV)) :=
  fnF_own (ds := [.slice (b.map byteV)]) (md5_Sum b hb) (by rw [List.length_map, md5S_len])
theorem ref1_SumF (b : List UInt8) (hb : b.length ≤ 4194304) : FnF Tryz.prog 122 [.slice (b.map byteV)] (.slice ((md5S b).map byteV)) :=
  fnF_own (ds := [.slice (b.map byteV)]) (ref1_Sum b hb) (by rw [List.length_map, md5S_len])
attribute [local irreducible] SStep DW DWin DOps thenQ inBlk loopQ retQ retQG FnF FnG Wk IntKind.wrap IntKind.andI IntKind.orI IntKind.xorI IntKind.andNotI IntKind.shlI IntKind.shrI md5S padK
set_option maxHeartbeats 2000000 in
theorem md5_Mac (key b : List UInt8) (hk : key.length ≤ 4194304) (hb : b.length ≤ 2097152) : FnG Tryz.prog 90 [.dat false (.slice (key.map byteV)), .dat false (.slice (b.map byteV))] [] (.own 1000 0 0 16) [(1000, .row 0 false true 1 ((macS key b).map byteV))] := by
  refine fnG_of Tryz.func90 rfl rfl rfl ?_
  simp only [envD]
  have hkl := macK_le key
  have hp92 := md5_pad (macK key) hkl 92
  have hp54 := md5_pad (macK key) hkl 54
  have hl92 := padK_len hkl 92
  have hl54 := padK_len hkl 54
  have hdl := md5S_len (padK (macK key) 54 ++ b)
  have e1 := whole_eq (f := byteV) (us := padK (macK key) 54 ++ b) rfl
  have e2 := whole_eq (f := byteV) (us := padK (macK key) 92 ++ md5S (padK (macK key) 54 ++ b)) rfl
  have hs1 : FnF Tryz.prog 113 [.slice ((((padK (macK key) 54 ++ b).map byteV).drop 0).take (padK (macK key) 54 ++ b).length)] (.slice ((md5S (padK (macK key) 54 ++ b)).map byteV)) := by
    rw [e1]; exact md5_SumF _ (by rw [List.length_append]; omega)
  have hs2 : FnG Tryz.prog 113 [.dat false (.slice ((((padK (macK key) 92 ++ md5S (padK (macK key) 54 ++ b)).map byteV).drop 0).take (padK (macK key) 92 ++ md5S (padK (macK key) 54 ++ b)).length))] [] (.own 1000 0 0 16) [(1000, .row 0 false true 1 ((macS key b).map byteV))] := by
    rw [e2]; exact md5_Sum _ (by rw [List.length_append]; omega)
  have hml : (key.map byteV).length = key.length := by simp
  by_cases h64 : 64 < key.length
  · have hK : macK key = md5S key := by unfold macK; rw [if_pos h64]
    have hgt : decide ((64 : Int) < ((key.map byteV).length : Int)) = true := decide_eq_true (by omega)
    have hsk := md5_SumF key hk
    rw [← hK] at hsk
    repeat' (first | refine DW_freeze 2 (by intro kt et es h; cases (show Box.cells false _ [D.dat true _] = Box.mapb _ _ _ from h)) ?_ | (apply Wa; constructor) | refine Wb rfl ?_ | refine Wc rfl ?_ | refine Wd (by kernel_rfl) ?_ | refine We rfl ?_ | refine Wf rfl ?_ | refine Wi rfl rfl ?_ | (apply dt rfl; case h => first | exact S_callvG0 _ rfl hp92 rfl rfl (.own _ _) | exact S_callvG0 _ rfl hp54 rfl rfl (.own _ _) | exact S_frz 13 rfl rfl (S_callG0 20 hs2 rfl rfl (.own _ _))) | ((first | apply dX rfl | apply Da rfl rfl | apply Db rfl rfl (by intro h; first | trivial | exact ⟨h, trivial⟩ | exact ⟨h, h, trivial⟩)); (focus ((try intro hg); first | exact S_callvG0 _ rfl hp92 rfl rfl (.own _ _) | exact S_callvG0 _ rfl hp54 rfl rfl (.own _ _) | exact S_appM (f := byteV) (us := padK (macK key) 54) (bs := b) rfl rfl (.dat _ _) rfl hl54.symm (.inr ⟨rfl, inferInstance⟩) rfl (by omega) | exact S_frz 15 rfl rfl (S_call hs1 rfl) | exact S_appM (f := byteV) (us := padK (macK key) 92) (bs := md5S (padK (macK key) 54 ++ b)) rfl rfl (.dat _ _) rfl hl92.symm (.inr ⟨rfl, inferInstance⟩) rfl (by omega) | exact S_frz 13 rfl rfl (S_callG0 20 hs2 rfl rfl (.own _ _)) | exact as_bool (S_gtr rfl rfl) hgt | exact S_call hsk rfl | exact S_al rfl | exact S_bx rfl rfl | exact S_store rfl rfl rfl rfl rfl rfl | (apply Pu.ok; repeat' (first | rfl | exact .inK (by simp only [InK]; omega) | exact .wr | constructor | decide | omega)))); constructor) | refine Pa rfl rfl rfl rfl rfl ?_ | refine Po rfl rfl rfl rfl rfl ?_ | fail)
    exact gOwn (Wk_g (fun g => if g = 1000 then some 20 else none) rfl rfl (by (repeat' (first | exact trivial | rfl | exact listLe_map _ | exact ⟨_, rfl, .inl rfl⟩ | exact ⟨_, rfl, .inr (.inl rfl)⟩ | exact ⟨_, rfl, .inr (.inr rfl)⟩ | refine ⟨_, _, rfl, rfl, ?_⟩ | exact ⟨_, rfl, rfl⟩ | exact ⟨_, _, _, _, rfl, rfl, rfl⟩ | exact ⟨_, rfl⟩ | exact ⟨_, _, rfl⟩ | apply And.intro))))
  · have hK : macK key = key := by unfold macK; rw [if_neg h64]
    have hgt : decide ((64 : Int) < ((key.map byteV).length : Int)) = false := decide_eq_false (by omega)
    rw [hK] at hp92 hp54
    rw [hK] at hl92 hl54 hdl e1 e2 hs1 hs2
    repeat' (first | refine DW_freeze 2 (by intro kt et es h; cases (show Box.cells false _ [D.dat false _] = Box.mapb _ _ _ from h)) ?_ | (apply Wa; constructor) | refine Wb rfl ?_ | refine Wc rfl ?_ | refine Wd (by kernel_rfl) ?_ | refine We rfl ?_ | refine Wf rfl ?_ | refine Wi rfl rfl ?_ | (apply dt rfl; case h => first | exact S_callvG0 _ rfl hp92 rfl rfl (.own _ _) | exact S_callvG0 _ rfl hp54 rfl rfl (.own _ _) | exact S_frz 13 rfl rfl (S_callG0 20 hs2 rfl rfl (.own _ _))) | ((first | apply dX rfl | apply Da rfl rfl | apply Db rfl rfl (by intro h; first | trivial | exact ⟨h, trivial⟩ | exact ⟨h, h, trivial⟩)); (focus ((try intro hg); first | exact S_callvG0 _ rfl hp92 rfl rfl (.own _ _) | exact S_callvG0 _ rfl hp54 rfl rfl (.own _ _) | exact S_appM (f := byteV) (us := padK key 54) (bs := b) rfl rfl (.dat _ _) rfl hl54.symm (.inr ⟨rfl, inferInstance⟩) rfl (by omega) | exact S_frz 15 rfl rfl (S_call hs1 rfl) | exact S_appM (f := byteV) (us := padK key 92) (bs := md5S (padK key 54 ++ b)) rfl rfl (.dat _ _) rfl hl92.symm (.inr ⟨rfl, inferInstance⟩) rfl (by omega) | exact S_frz 13 rfl rfl (S_callG0 20 hs2 rfl rfl (.own _ _)) | exact as_bool (S_gtr rfl rfl) hgt | exact S_al rfl | exact S_bx rfl rfl | exact S_store rfl rfl rfl rfl rfl rfl | (apply Pu.ok; repeat' (first | rfl | exact .inK (by simp only [InK]; omega) | exact .wr | constructor | decide | omega)))); constructor) | refine Pa rfl rfl rfl rfl rfl ?_ | refine Po rfl rfl rfl rfl rfl ?_ | fail)
    exact gOwn (Wk_g (fun g => if g = 1000 then some 20 else none) rfl rfl (by (repeat' (first | exact trivial | rfl | exact listLe_map _ | exact ⟨_, rfl, .inl rfl⟩ | exact ⟨_, rfl, .inr (.inl rfl)⟩ | exact ⟨_, rfl, .inr (.inr rfl)⟩ | refine ⟨_, _, rfl, rfl, ?_⟩ | exact ⟨_, rfl, rfl⟩ | exact ⟨_, _, _, _, rfl, rfl, rfl⟩ | exact ⟨_, rfl⟩ | exact ⟨_, _, rfl⟩ | apply And.intro))))
theorem padK_at {key : List UInt8} (h : key.length ≤ 64) (w : UInt8) {i : Nat} (hi : i < 64) : (padK key w).take (i + 1) = (padK key w).take i ++ [((key[i]?).getD 0) ^^^ w] := by
  have hl := padK_len h w
  have hg : (padK key w)[i]? = some (((key[i]?).getD 0) ^^^ w) := by
    unfold padK baseK
    rw [List.getElem?_map, List.getElem?_append]
    split
    · rename_i h1
      rw [List.getElem?_eq_getElem h1]; rfl
    · rename_i h1
      rw [List.getElem?_replicate, if_pos (by omega), List.getElem?_eq_none (by omega)]; rfl
  rw [List.take_add_one, hg]; rfl
set_option maxHeartbeats 2000000 in
theorem ref1_Mac (key b : List UInt8) (hk : key.length ≤ 4194304) (hb : b.length ≤ 2097152) : FnG Tryz.prog 106 [.dat false (.slice (key.map byteV)), .dat false (.slice (b.map byteV))] [] (.own 1000 0 0 16) [(1000, .row 0 false true 1 ((macS key b).map byteV))] := by
  refine fnG_of Tryz.func106 rfl rfl rfl ?_
  simp only [envD]
  obtain ⟨k, hK⟩ : ∃ k, macK key = k := ⟨_, rfl⟩
  have hkl : k.length ≤ 64 := hK ▸ macK_le key
  have hl92 := padK_len hkl 92
  have hl54 := padK_len hkl 54
  have hdl := md5S_len (padK k 54 ++ b)
  have e1 := whole_eq (f := byteV) (us := padK k 54 ++ b) rfl
  have e2 := whole_eq (f := byteV) (us := padK k 92 ++ md5S (padK k 54 ++ b)) rfl
  have hmac : macS key b = md5S (padK k 92 ++ md5S (padK k 54 ++ b)) := by unfold macS; rw [hK]
  have hs1 : FnF Tryz.prog 122 [.slice ((((padK k 54 ++ b).map byteV).drop 0).take (padK k 54 ++ b).length)] (.slice ((md5S (padK k 54 ++ b)).map byteV)) := by
    rw [e1]; exact ref1_SumF _ (by rw [List.length_append]; omega)
  have hs2 : FnG Tryz.prog 122 [.dat false (.slice ((((padK k 92 ++ md5S (padK k 54 ++ b)).map byteV).drop 0).take (padK k 92 ++ md5S (padK k 54 ++ b)).length))] [] (.own 1000 0 0 16) [(1000, .row 0 false true 1 ((macS key b).map byteV))] := by
    rw [e2, hmac]; exact ref1_Sum _ (by rw [List.length_append]; omega)
  have hml : (key.map byteV).length = key.length := by simp
  have hkm : (k.map byteV).length = k.length := by simp
  by_cases h64 : 64 < key.length
  · have hk' : md5S key = k := by rw [← hK]; unfold macK; rw [if_pos h64]
    have hgt : decide ((64 : Int) < ((key.map byteV).length : Int)) = true := decide_eq_true (by omega)
    have hsk := ref1_SumF key hk
    rw [hk'] at hsk
    repeat' (first | (apply Wa; constructor) | refine Wb rfl ?_ | refine Wc rfl ?_ | refine Wd (by kernel_rfl) ?_ | refine We rfl ?_ | refine Wf rfl ?_ | refine Wi rfl rfl ?_ | ((first | apply dX rfl | apply Da rfl rfl | apply Db rfl rfl (by intro h; first | trivial | exact ⟨h, trivial⟩ | exact ⟨h, h, trivial⟩)); (focus ((try intro hg); first | exact as_bool (S_gtr rfl rfl) hgt | exact S_call hsk rfl | exact S_al rfl | exact S_bx rfl rfl | exact S_store rfl rfl rfl rfl rfl rfl | (apply Pu.ok; repeat' (first | rfl | exact .inK (by simp only [InK]; omega) | exact .wr | constructor | decide | omega)))); constructor) | refine Pa rfl rfl rfl rfl rfl ?_ | refine Po rfl rfl rfl rfl rfl ?_ | fail)
    refine DW_loop (fun p : Nat × List UInt8 × List UInt8 => ⟨[(0, .dat false (.slice (k.map byteV))), (1, .dat false (.slice (b.map byteV))), (5, .own 30 0 0 p.2.1.length), (6, .own 35 0 0 p.2.2.length), (7, .dat true (.int .i64 p.1))], [(30, .row 0 false true 1 (p.2.1.map byteV)), (35, .row 0 false true 1 (p.2.2.map byteV))], 43⟩)
      (fun p => p.1 ≤ 64 ∧ p.2.1 = (padK k 54).take p.1 ∧ p.2.2 = (padK k 92).take p.1) (fun p => 64 - p.1) (0, [], []) ⟨Nat.zero_le _, rfl, rfl⟩
      (Wk_g (fun g => if g = 30 then none else if g = 35 then none else some g) rfl rfl (by (repeat' (first | exact trivial | rfl | exact listLe_map _ | exact ⟨_, rfl, .inl rfl⟩ | exact ⟨_, rfl, .inr (.inl rfl)⟩ | exact ⟨_, rfl, .inr (.inr rfl)⟩ | refine ⟨_, _, rfl, rfl, ?_⟩ | exact ⟨_, rfl, rfl⟩ | exact ⟨_, _, _, _, rfl, rfl, rfl⟩ | exact ⟨_, rfl⟩ | exact ⟨_, _, rfl⟩ | apply And.intro)))) (fun p hR => ?_)
    obtain ⟨i, xi, xo⟩ := p
    obtain ⟨hi, hxi, hxo⟩ := hR
    simp only at hi hxi hxo
    dsimp only
    have hil : xi.length = i := by rw [hxi, List.length_take]; omega
    have hol : xo.length = i := by rw [hxo, List.length_take]; omega
    by_cases hlt : i < 64
    · have n54 := padK_at hkl 54 hlt
      have n92 := padK_at hkl 92 hlt
      by_cases hik : i < k.length
      · have hx : k[(i : Int).toNat]? = some k[i] := by simp [hik]
        have hg : (k[i]?).getD 0 = k[i] := by simp [hik]
        rw [hg] at n54 n92
        generalize k[i] = c at hx n54 n92
        have x54 : IntKind.u8.xorI (c.toNat : Int) 54 = ((c ^^^ 54).toNat : Int) := xor_u8 c 54
        have x92 : IntKind.u8.xorI (c.toNat : Int) 92 = ((c ^^^ 92).toNat : Int) := xor_u8 c 92
        repeat' (first | (apply Wa; constructor) | refine Wb rfl ?_ | refine Wc rfl ?_ | refine Wd (by kernel_rfl) ?_ | refine We rfl ?_ | refine Wf rfl ?_ | refine Wi rfl rfl ?_ | ((first | apply dX rfl | apply Da rfl rfl | apply Db rfl rfl (by intro h; first | trivial | exact ⟨h, trivial⟩ | exact ⟨h, h, trivial⟩)); (focus ((try intro hg); first | exact as_bool (S_lss rfl rfl) (decide_eq_true (by omega : (i : Int) < 64)) | exact as_bool (S_lss rfl rfl) (decide_eq_true (by omega : (i : Int) < ((k.map byteV).length : Int))) | exact S_ixM (f := byteV) rfl rfl (by omega) hx | exact as_int (S_xor rfl rfl) x54 | exact as_int (S_xor rfl rfl) x92 | exact S_app1 rfl rfl (.dat _ _) rfl (by omega) | exact S_al rfl | exact S_bx rfl rfl | exact S_store rfl rfl rfl rfl rfl rfl | (apply Pu.ok; repeat' (first | rfl | exact .inK (by simp only [InK]; omega) | exact .wr | constructor | decide | omega)))); constructor) | refine Pa rfl rfl rfl rfl rfl ?_ | refine Po rfl rfl rfl rfl rfl ?_ | fail)
        refine loop_again (i + 1, xi ++ [c ^^^ 54], xo ++ [c ^^^ 92]) ⟨hlt, ?_, ?_⟩ (by simp only; omega) (Wk_g some rfl rfl (by (repeat' (first | exact trivial | rfl | exact listLe_map _ | exact ⟨_, rfl, .inl rfl⟩ | exact ⟨_, rfl, .inr (.inl rfl)⟩ | exact ⟨_, rfl, .inr (.inr rfl)⟩ | refine ⟨_, _, rfl, rfl, ?_⟩ | exact ⟨_, rfl, rfl⟩ | exact ⟨_, _, _, _, rfl, rfl, rfl⟩ | exact ⟨_, rfl⟩ | exact ⟨_, _, rfl⟩ | apply And.intro))))
        · simp only; rw [n54, ← hxi]
        · simp only; rw [n92, ← hxo]
      · have hg : (k[i]?).getD 0 = 0 := by simp [hik]
        rw [hg] at n54 n92
        have x54 : IntKind.u8.xorI 0 54 = (((0 : UInt8) ^^^ 54).toNat : Int) := xor_u8 0 54
        have x92 : IntKind.u8.xorI 0 92 = (((0 : UInt8) ^^^ 92).toNat : Int) := xor_u8 0 92
        repeat' (first | (apply Wa; constructor) | refine Wb rfl ?_ | refine Wc rfl ?_ | refine Wd (by kernel_rfl) ?_ | refine We rfl ?_ | refine Wf rfl ?_ | refine Wi rfl rfl ?_ | ((first | apply dX rfl | apply Da rfl rfl | apply Db rfl rfl (by intro h; first | trivial | exact ⟨h, trivial⟩ | exact ⟨h, h, trivial⟩)); (focus ((try intro hg); first | exact as_bool (S_lss rfl rfl) (decide_eq_true (by omega : (i : Int) < 64)) | exact as_bool (S_lss rfl rfl) (decide_eq_false (by omega : ¬ (i : Int) < ((k.map byteV).length : Int))) | exact as_int (S_xor rfl rfl) x54 | exact as_int (S_xor rfl rfl) x92 | exact S_app1 rfl rfl (.dat _ _) rfl (by omega) | exact S_al rfl | exact S_bx rfl rfl | exact S_store rfl rfl rfl rfl rfl rfl | (apply Pu.ok; repeat' (first | rfl | exact .inK (by simp only [InK]; omega) | exact .wr | constructor | decide | omega)))); constructor) | refine Pa rfl rfl rfl rfl rfl ?_ | refine Po rfl rfl rfl rfl rfl ?_ | fail)
        refine loop_again (i + 1, xi ++ [(0 : UInt8) ^^^ 54], xo ++ [(0 : UInt8) ^^^ 92]) ⟨hlt, ?_, ?_⟩ (by simp only; omega) (Wk_g some rfl rfl (by (repeat' (first | exact trivial | rfl | exact listLe_map _ | exact ⟨_, rfl, .inl rfl⟩ | exact ⟨_, rfl, .inr (.inl rfl)⟩ | exact ⟨_, rfl, .inr (.inr rfl)⟩ | refine ⟨_, _, rfl, rfl, ?_⟩ | exact ⟨_, rfl, rfl⟩ | exact ⟨_, _, _, _, rfl, rfl, rfl⟩ | exact ⟨_, rfl⟩ | exact ⟨_, _, rfl⟩ | apply And.intro))))
        · simp only; rw [n54, ← hxi]
        · simp only; rw [n92, ← hxo]
    · have hi64 : i = 64 := by omega
      subst hi64
      rw [List.take_of_length_le (by omega)] at hxi hxo
      rw [← hxi] at hs1 hs2 hdl
      rw [← hxo] at hs2
      repeat' (first | (apply Wa; constructor) | refine Wb rfl ?_ | refine Wc rfl ?_ | refine Wd (by kernel_rfl) ?_ | refine We rfl ?_ | refine Wf rfl ?_ | refine Wi rfl rfl ?_ | (apply dt rfl; case h => first | exact S_frz 35 rfl rfl (S_callG0 42 hs2 rfl rfl (.own _ _))) | ((first | apply dX rfl | apply Da rfl rfl | apply Db rfl rfl (by intro h; first | trivial | exact ⟨h, trivial⟩ | exact ⟨h, h, trivial⟩)); (focus ((try intro hg); first | exact as_bool (S_lss rfl rfl) (decide_eq_false (by omega : ¬ ((64 : Nat) : Int) < 64)) | exact S_appM (f := byteV) (us := xi) (bs := b) rfl rfl (.dat _ _) rfl rfl (.inr ⟨rfl, inferInstance⟩) rfl (by omega) | exact S_frz 30 rfl rfl (S_call hs1 rfl) | exact S_appM (f := byteV) (us := xo) (bs := md5S (xi ++ b)) rfl rfl (.dat _ _) rfl rfl (.inr ⟨rfl, inferInstance⟩) rfl (by omega) | exact S_frz 35 rfl rfl (S_callG0 42 hs2 rfl rfl (.own _ _)) | exact S_al rfl | exact S_bx rfl rfl | exact S_store rfl rfl rfl rfl rfl rfl | (apply Pu.ok; repeat' (first | rfl | exact .inK (by simp only [InK]; omega) | exact .wr | constructor | decide | omega)))); constructor) | refine Pa rfl rfl rfl rfl rfl ?_ | refine Po rfl rfl rfl rfl rfl ?_ | fail)
      exact gOwn (Wk_g (fun g => if g = 1000 then some 42 else none) rfl rfl (by (repeat' (first | exact trivial | rfl | exact listLe_map _ | exact ⟨_, rfl, .inl rfl⟩ | exact ⟨_, rfl, .inr (.inl rfl)⟩ | exact ⟨_, rfl, .inr (.inr rfl)⟩ | refine ⟨_, _, rfl, rfl, ?_⟩ | exact ⟨_, rfl, rfl⟩ | exact ⟨_, _, _, _, rfl, rfl, rfl⟩ | exact ⟨_, rfl⟩ | exact ⟨_, _, rfl⟩ | apply And.intro))))
  · have hk' : key = k := by rw [← hK]; unfold macK; rw [if_neg h64]
    subst hk'
    have hgt : decide ((64 : Int) < ((key.map byteV).length : Int)) = false := decide_eq_false (by omega)
    repeat' (first | (apply Wa; constructor) | refine Wb rfl ?_ | refine Wc rfl ?_ | refine Wd (by kernel_rfl) ?_ | refine We rfl ?_ | refine Wf rfl ?_ | refine Wi rfl rfl ?_ | ((first | apply dX rfl | apply Da rfl rfl | apply Db rfl rfl (by intro h; first | trivial | exact ⟨h, trivial⟩ | exact ⟨h, h, trivial⟩)); (focus ((try intro hg); first | exact as_bool (S_gtr rfl rfl) hgt | exact S_al rfl | exact S_bx rfl rfl | exact S_store rfl rfl rfl rfl rfl rfl | (apply Pu.ok; repeat' (first | rfl | exact .inK (by simp only [InK]; omega) | exact .wr | constructor | decide | omega)))); constructor) | refine Pa rfl rfl rfl rfl rfl ?_ | refine Po rfl rfl rfl rfl rfl ?_ | fail)
    refine DW_loop (fun p : Nat × List UInt8 × List UInt8 => ⟨[(0, .dat false (.slice (key.map byteV))), (1, .dat false (.slice (b.map byteV))), (5, .own 30 0 0 p.2.1.length), (6, .own 35 0 0 p.2.2.length), (7, .dat true (.int .i64 p.1))], [(30, .row 0 false true 1 (p.2.1.map byteV)), (35, .row 0 false true 1 (p.2.2.map byteV))], 43⟩)
      (fun p => p.1 ≤ 64 ∧ p.2.1 = (padK key 54).take p.1 ∧ p.2.2 = (padK key 92).take p.1) (fun p => 64 - p.1) (0, [], []) ⟨Nat.zero_le _, rfl, rfl⟩
      (Wk_g (fun g => if g = 30 then none else if g = 35 then none else some g) rfl rfl (by (repeat' (first | exact trivial | rfl | exact listLe_map _ | exact ⟨_, rfl, .inl rfl⟩ | exact ⟨_, rfl, .inr (.inl rfl)⟩ | exact ⟨_, rfl, .inr (.inr rfl)⟩ | refine ⟨_, _, rfl, rfl, ?_⟩ | exact ⟨_, rfl, rfl⟩ | exact ⟨_, _, _, _, rfl, rfl, rfl⟩ | exact ⟨_, rfl⟩ | exact ⟨_, _, rfl⟩ | apply And.intro)))) (fun p hR => ?_)
    obtain ⟨i, xi, xo⟩ := p
    obtain ⟨hi, hxi, hxo⟩ := hR
    simp only at hi hxi hxo
    dsimp only
    have hil : xi.length = i := by rw [hxi, List.length_take]; omega
    have hol : xo.length = i := by rw [hxo, List.length_take]; omega
    by_cases hlt : i < 64
    · have n54 := padK_at hkl 54 hlt
      have n92 := padK_at hkl 92 hlt
      by_cases hik : i < key.length
      · have hx : key[(i : Int).toNat]? = some key[i] := by simp [hik]
        have hg : (key[i]?).getD 0 = key[i] := by simp [hik]
        rw [hg] at n54 n92
        generalize key[i] = c at hx n54 n92
        have x54 : IntKind.u8.xorI (c.toNat : Int) 54 = ((c ^^^ 54).toNat : Int) := xor_u8 c 54
        have x92 : IntKind.u8.xorI (c.toNat : Int) 92 = ((c ^^^ 92).toNat : Int) := xor_u8 c 92
        repeat' (first | (apply Wa; constructor) | refine Wb rfl ?_ | refine Wc rfl ?_ | refine Wd (by kernel_rfl) ?_ | refine We rfl ?_ | refine Wf rfl ?_ | refine Wi rfl rfl ?_ | ((first | apply dX rfl | apply Da rfl rfl | apply Db rfl rfl (by intro h; first | trivial | exact ⟨h, trivial⟩ | exact ⟨h, h, trivial⟩)); (focus ((try intro hg); first | exact as_bool (S_lss rfl rfl) (decide_eq_true (by omega : (i : Int) < 64)) | exact as_bool (S_lss rfl rfl) (decide_eq_true (by omega : (i : Int) < ((key.map byteV).length : Int))) | exact S_ixM (f := byteV) rfl rfl (by omega) hx | exact as_int (S_xor rfl rfl) x54 | exact as_int (S_xor rfl rfl) x92 | exact S_app1 rfl rfl (.dat _ _) rfl (by omega) | exact S_al rfl | exact S_bx rfl rfl | exact S_store rfl rfl rfl rfl rfl rfl | (apply Pu.ok; repeat' (first | rfl | exact .inK (by simp only [InK]; omega) | exact .wr | constructor | decide | omega)))); constructor) | refine Pa rfl rfl rfl rfl rfl ?_ | refine Po rfl rfl rfl rfl rfl ?_ | fail)
        refine loop_again (i + 1, xi ++ [c ^^^ 54], xo ++ [c ^^^ 92]) ⟨hlt, ?_, ?_⟩ (by simp only; omega) (Wk_g some rfl rfl (by (repeat' (first | exact trivial | rfl | exact listLe_map _ | exact ⟨_, rfl, .inl rfl⟩ | exact ⟨_, rfl, .inr (.inl rfl)⟩ | exact ⟨_, rfl, .inr (.inr rfl)⟩ | refine ⟨_, _, rfl, rfl, ?_⟩ | exact ⟨_, rfl, rfl⟩ | exact ⟨_, _, _, _, rfl, rfl, rfl⟩ | exact ⟨_, rfl⟩ | exact ⟨_, _, rfl⟩ | apply And.intro))))
        · simp only; rw [n54, ← hxi]
        · simp only; rw [n92, ← hxo]
      · have hg : (key[i]?).getD 0 = 0 := by simp [hik]
        rw [hg] at n54 n92
        have x54 : IntKind.u8.xorI 0 54 = (((0 : UInt8) ^^^ 54).toNat : Int) := xor_u8 0 54
        have x92 : IntKind.u8.xorI 0 92 = (((0 : UInt8) ^^^ 92).toNat : Int) := xor_u8 0 92
        repeat' (first | (apply Wa; constructor) | refine Wb rfl ?_ | refine Wc rfl ?_ | refine Wd (by kernel_rfl) ?_ | refine We rfl ?_ | refine Wf rfl ?_ | refine Wi rfl rfl ?_ | ((first | apply dX rfl | apply Da rfl rfl | apply Db rfl rfl (by intro h; first | trivial | exact ⟨h, trivial⟩ | exact ⟨h, h, trivial⟩)); (focus ((try intro hg); first | exact as_bool (S_lss rfl rfl) (decide_eq_true (by omega : (i : Int) < 64)) | exact as_bool (S_lss rfl rfl) (decide_eq_false (by omega : ¬ (i : Int) < ((key.map byteV).length : Int))) | exact as_int (S_xor rfl rfl) x54 | exact as_int (S_xor rfl rfl) x92 | exact S_app1 rfl rfl (.dat _ _) rfl (by omega) | exact S_al rfl | exact S_bx rfl rfl | exact S_store rfl rfl rfl rfl rfl rfl | (apply Pu.ok; repeat' (first | rfl | exact .inK (by simp only [InK]; omega) | exact .wr | constructor | decide | omega)))); constructor) | refine Pa rfl rfl rfl rfl rfl ?_ | refine Po rfl rfl rfl rfl rfl ?_ | fail)
        refine loop_again (i + 1, xi ++ [(0 : UInt8) ^^^ 54], xo ++ [(0 : UInt8) ^^^ 92]) ⟨hlt, ?_, ?_⟩ (by simp only; omega) (Wk_g some rfl rfl (by (repeat' (first | exact trivial | rfl | exact listLe_map _ | exact ⟨_, rfl, .inl rfl⟩ | exact ⟨_, rfl, .inr (.inl rfl)⟩ | exact ⟨_, rfl, .inr (.inr rfl)⟩ | refine ⟨_, _, rfl, rfl, ?_⟩ | exact ⟨_, rfl, rfl⟩ | exact ⟨_, _, _, _, rfl, rfl, rfl⟩ | exact ⟨_, rfl⟩ | exact ⟨_, _, rfl⟩ | apply And.intro))))
        · simp only; rw [n54, ← hxi]
        · simp only; rw [n92, ← hxo]
    · have hi64 : i = 64 := by omega
      subst hi64
      rw [List.take_of_length_le (by omega)] at hxi hxo
      rw [← hxi] at hs1 hs2 hdl
      rw [← hxo] at hs2
      repeat' (first | (apply Wa; constructor) | refine Wb rfl ?_ | refine Wc rfl ?_ | refine Wd (by kernel_rfl) ?_ | refine We rfl ?_ | refine Wf rfl ?_ | refine Wi rfl rfl ?_ | (apply dt rfl; case h => first | exact S_frz 35 rfl rfl (S_callG0 42 hs2 rfl rfl (.own _ _))) | ((first | apply dX rfl | apply Da rfl rfl | apply Db rfl rfl (by intro h; first | trivial | exact ⟨h, trivial⟩ | exact ⟨h, h, trivial⟩)); (focus ((try intro hg); first | exact as_bool (S_lss rfl rfl) (decide_eq_false (by omega : ¬ ((64 : Nat) : Int) < 64)) | exact S_appM (f := byteV) (us := xi) (bs := b) rfl rfl (.dat _ _) rfl rfl (.inr ⟨rfl, inferInstance⟩) rfl (by omega) | exact S_frz 30 rfl rfl (S_call hs1 rfl) | exact S_appM (f := byteV) (us := xo) (bs := md5S (xi ++ b)) rfl rfl (.dat _ _) rfl rfl (.inr ⟨rfl, inferInstance⟩) rfl (by omega) | exact S_frz 35 rfl rfl (S_callG0 42 hs2 rfl rfl (.own _ _)) | exact S_al rfl | exact S_bx rfl rfl | exact S_store rfl rfl rfl rfl rfl rfl | (apply Pu.ok; repeat' (first | rfl | exact .inK (by simp only [InK]; omega) | exact .wr | constructor | decide | omega)))); constructor) | refine Pa rfl rfl rfl rfl rfl ?_ | refine Po rfl rfl rfl rfl rfl ?_ | fail)
      exact gOwn (Wk_g (fun g => if g = 1000 then some 42 else none) rfl rfl (by (repeat' (first | exact trivial | rfl | exact listLe_map _ | exact ⟨_, rfl, .inl rfl⟩ | exact ⟨_, rfl, .inr (.inl rfl)⟩ | exact ⟨_, rfl, .inr (.inr rfl)⟩ | refine ⟨_, _, rfl, rfl, ?_⟩ | exact ⟨_, rfl, rfl⟩ | exact ⟨_, _, _, _, rfl, rfl, rfl⟩ | exact ⟨_, rfl⟩ | exact ⟨_, _, rfl⟩ | apply And.intro))))
end Go.Proofs.YtpgcemabkjmliaaGreat
