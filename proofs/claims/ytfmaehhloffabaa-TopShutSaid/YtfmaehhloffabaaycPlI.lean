/- Identities of bridges; ends of links; offers: what is said of them. -/
import Derived.Test.YtfmaehhloffabaaydMds
import Derived.Test.YtfmaehhloffabaaydReg
import Derived.Test.YtfmaehhloffabaaycMd5
namespace Go.Proofs.Ytfmaehhloffabaa
open Go.RowKit
def macK (key : List UInt8) : List UInt8 := if 64 < key.length then md5S key else key
def baseK (key : List UInt8) : List UInt8 := key ++ List.replicate (64 - key.length) 0
def padK (key : List UInt8) (w : UInt8) : List UInt8 := (baseK key).map (· ^^^ w)
def macS (key b : List UInt8) : List UInt8 := md5S (padK (macK key) 92 ++ md5S (padK (macK key) 54 ++ b))
theorem macK_le (key : List UInt8) : (macK key).length ≤ 64 := by
  unfold macK; split
  · rw [md5S_len]; decide
  · omega
theorem baseK_len {key : List UInt8} (h : key.length ≤ 64) : (baseK key).length = 64 := by simp [baseK]; omega
theorem padK_len {key : List UInt8} (h : key.length ≤ 64) (w : UInt8) : (padK key w).length = 64 := by unfold padK; rw [List.length_map, baseK_len h]
theorem xor_u8 (c w : UInt8) : IntKind.u8.xorI (c.toNat : Int) (w.toNat : Int) = ((c ^^^ w).toNat : Int) := by
  unfold IntKind.xorI
  have hb : IntKind.u8.bits = 8 := rfl
  have hc := c.toNat_lt
  have hw := w.toNat_lt
  have e1 : (BitVec.ofInt 8 (c.toNat : Int) ^^^ BitVec.ofInt 8 (w.toNat : Int)).toNat = c.toNat ^^^ w.toNat := by
    rw [BitVec.toNat_xor]
    congr 1
    · simp []
    · simp []
  have h3 : c.toNat ^^^ w.toNat < 2 ^ 8 := Nat.xor_lt_two_pow hc hw
  rw [hb, e1, wrap_u8, UInt8.toNat_xor]
  omega
def mixK (base : List UInt8) (w : UInt8) (k : Nat) : List UInt8 := (base.take k).map (· ^^^ w) ++ base.drop k
theorem mixK_at {base : List UInt8} {w : UInt8} {k : Nat} (h : k < base.length) : (mixK base w k)[k]? = some base[k] := by
  unfold mixK
  rw [List.getElem?_append_right (by simp; omega)]
  simp [Nat.min_eq_left (Nat.le_of_lt h)]
theorem mixK_set {base : List UInt8} {w : UInt8} {k : Nat} (h : k < base.length) : (mixK base w k).set k (base[k] ^^^ w) = mixK base w (k + 1) := by
  unfold mixK
  have hl : ((base.take k).map (· ^^^ w)).length = k := by simp; omega
  rw [List.set_append_right _ _ (by omega), hl, Nat.sub_self, List.drop_eq_getElem_cons h, List.set_cons_zero, List.take_succ_eq_append_getElem h, List.map_append, List.append_assoc]
  rfl
section
variable {P : Program} {e : Operand → D} {m : Mem} {dst : Option Tmp} {ty : TypeId} {pos : String} {af : Array Edge} {gd : Option (Nat × Bool)} {x y : Operand} {t ts : TypeId}
theorem S_copyM {α : Type} {f : α → List V} {us bs : List α} {g ver len s by_ el : Nat} {agg nw n nf : Bool} {zs : List V} [hu : SlcI P t el] [ht : TyI P el agg s by_ zs] [hf : CellsI f s] [hfl : FlatI f] (hs : Nat.blt 0 s = true) (h1 : e x = .own g ver 0 len) (hmg : m.at g = .row ver false nw s (us.map f)) (hlx : len = us.length)
    (h2 : e y = .dat n (.slice (bs.map f))) (hnf : nf = nw) :
    SStep P ⟨dst, .call { callee := .builtin .copy, args := #[x, y], argTypes := #[t, ts] }, ty, pos, af, gd⟩ e m (g :: refs0 (e y)) (.dat true (.int .i64 (min bs.length len : Nat))) [(g, .row ver false nf s ((bs.take len ++ us.drop bs.length).map f))] := by
  have hs' : 0 < s := by simpa [Nat.blt_eq] using hs
  have hl : (us.map f).length = us.length := by simp
  have hb : (bs.map f).length = bs.length := by simp
  have := S_copy (P := P) (m := m) (t := t) (ts := ts) (el := el) (by_ := by_) (zs := zs) (agg := agg) (dst := dst) (ty := ty) (pos := pos) (af := af) (gd := gd) (nf := true) (n := n) (els := bs.map f) hs' h1 hmg (by rw [hl]; exact hlx)
    (by rw [h2]; exact .dat n _ s (map_len bs)) (map_el bs) (.inr (fun e he d hd => map_flat bs e he d hd)) (fun v lo l h => by rw [h2] at h; cases h)
  rw [hb, Bool.and_true, ← List.map_take, ← List.map_drop, ← List.map_append] at this
  rw [hnf]
  exact this
end
attribute [local irreducible] SStep DW DWin DOps thenQ inBlk loopQ retQ retQG FnF FnG Wk IntKind.wrap IntKind.andI IntKind.orI IntKind.xorI IntKind.andNotI IntKind.shlI IntKind.shrI md5S padK
set_option maxHeartbeats 1000000 in
theorem md5_pad (key : List UInt8) (hk : key.length ≤ 64) (w : UInt8) : FnG Try.prog 92 [.dat false (.int .u8 w.toNat), .dat false (.rp [.slice (key.map byteV)])] [] (.own 1000 0 0 64) [(1000, .row 0 false true 1 ((padK key w).map byteV))] := by
  refine fnG_of Try.func92 rfl rfl rfl ?_
  simp only [envD]
  have hbl := baseK_len hk
  have hbase : key.take 64 ++ (List.replicate 64 0).drop key.length = baseK key := by
    unfold baseK; rw [List.take_of_length_le hk, List.drop_replicate]
  repeat' (first | (apply dt rfl; case h => exact S_mkM (f := byteV) (l := 64) (c := 64) (0 : UInt8) _ rfl rfl rfl rfl (Nat.le_refl _) (by decide) rfl rfl) | (apply Wa; constructor) | refine Wb rfl ?_ | refine Wc rfl ?_ | refine Wd (by kernel_rfl) ?_ | refine We rfl ?_ | refine Wf rfl ?_ | refine Wi rfl rfl ?_ | ((first | apply dX rfl | apply Da rfl rfl | apply Db rfl rfl (by intro h; first | trivial | exact ⟨h, trivial⟩ | exact ⟨h, h, trivial⟩)); (focus ((try intro hg); first | exact S_copyM (f := byteV) (us := List.replicate 64 0) (bs := key) rfl rfl rfl rfl rfl rfl | exact S_al rfl | exact S_bx rfl rfl | exact S_store rfl rfl rfl rfl rfl rfl | (apply Pu.ok; repeat' (first | rfl | exact .inK (by simp only [InK]; omega) | exact .wr | constructor | decide | omega)))); constructor) | refine Pa rfl rfl rfl rfl rfl ?_ | refine Po rfl rfl rfl rfl rfl ?_ | fail)
  rw [hbase]
  obtain ⟨base, hb⟩ : ∃ base, base = baseK key := ⟨_, rfl⟩
  rw [← hb] at hbl ⊢
  have hpad : padK key w = mixK base w 64 := by
    unfold padK mixK; rw [← hb, List.take_of_length_le (by omega), List.drop_eq_nil_of_le (by omega)]; simp
  rw [hpad]
  refine DW_loop (fun p : Nat × List UInt8 => ⟨[(0, .dat false (.int .u8 w.toNat)), (4, .own 6 0 0 64), (11, .dat true (.int .i64 64)), (12, .dat true (.int .i64 p.1))], [(6, .row 0 false true 1 (p.2.map byteV))], 24⟩)
    (fun p => p.1 ≤ 64 ∧ p.2 = mixK base w p.1) (fun p => 64 - p.1) (0, base) ⟨Nat.zero_le _, by simp [mixK]⟩
    (Wk_g some rfl rfl (by (repeat' (first | exact trivial | rfl | exact listLe_map _ | exact ⟨_, rfl, .inl rfl⟩ | exact ⟨_, rfl, .inr (.inl rfl)⟩ | exact ⟨_, rfl, .inr (.inr rfl)⟩ | refine ⟨_, _, rfl, rfl, ?_⟩ | exact ⟨_, rfl, rfl⟩ | exact ⟨_, _, _, _, rfl, rfl, rfl⟩ | exact ⟨_, rfl⟩ | exact ⟨_, _, rfl⟩ | apply And.intro)))) (fun p hR => ?_)
  obtain ⟨k, us⟩ := p
  obtain ⟨hk, hus⟩ := hR
  simp only at hk hus
  dsimp only
  by_cases hlt : k < 64
  · have hx0 : us[(k : Int).toNat]? = some (base[k]'(by omega)) := by rw [hus, Int.toNat_natCast]; exact mixK_at (by omega)
    have hx1 : (us.map byteV)[(k : Int).toNat]? = some (byteV (base[k]'(by omega))) := by rw [List.getElem?_map, hx0]; rfl
    have hset : us.set (k : Int).toNat (base[k]'(by omega) ^^^ w) = mixK base w (k + 1) := by rw [hus, Int.toNat_natCast]; exact mixK_set (by omega)
    generalize base[k]'(by omega) = c at hx0 hx1 hset
    repeat' (first | (apply Wa; constructor) | refine Wb rfl ?_ | refine Wc rfl ?_ | refine Wd (by kernel_rfl) ?_ | refine We rfl ?_ | refine Wf rfl ?_ | refine Wi rfl rfl ?_ | ((first | apply dX rfl | apply Da rfl rfl | apply Db rfl rfl (by intro h; first | trivial | exact ⟨h, trivial⟩ | exact ⟨h, h, trivial⟩)); (focus ((try intro hg); first | exact as_bool (S_lss rfl rfl) (decide_eq_true (by omega : (k : Int) < 64)) | exact S_ixO rfl rfl rfl (by omega) (by omega) | exact S_load_rptr rfl rfl hx1 rfl | exact as_int (S_xor rfl rfl) (xor_u8 c w) | exact S_storeM (f := byteV) (a := c ^^^ w) rfl rfl hx0 rfl rfl (.inr ⟨rfl, inferInstance⟩) rfl rfl | exact S_al rfl | exact S_bx rfl rfl | exact S_store rfl rfl rfl rfl rfl rfl | (apply Pu.ok; repeat' (first | rfl | exact .inK (by simp only [InK]; omega) | exact .wr | constructor | decide | omega)))); constructor) | refine Pa rfl rfl rfl rfl rfl ?_ | refine Po rfl rfl rfl rfl rfl ?_ | fail)
    exact loop_again (k + 1, us.set (k : Int).toNat (c ^^^ w)) ⟨hlt, hset⟩ (by simp only; omega) (Wk_g some rfl rfl (by (repeat' (first | exact trivial | rfl | exact listLe_map _ | exact ⟨_, rfl, .inl rfl⟩ | exact ⟨_, rfl, .inr (.inl rfl)⟩ | exact ⟨_, rfl, .inr (.inr rfl)⟩ | refine ⟨_, _, rfl, rfl, ?_⟩ | exact ⟨_, rfl, rfl⟩ | exact ⟨_, _, _, _, rfl, rfl, rfl⟩ | exact ⟨_, rfl⟩ | exact ⟨_, _, rfl⟩ | apply And.intro))))
  · have hk64 : k = 64 := by omega
    subst hk64
    rw [← hus]
    repeat' (first | (apply Wa; constructor) | refine Wb rfl ?_ | refine Wc rfl ?_ | refine Wd (by kernel_rfl) ?_ | refine We rfl ?_ | refine Wf rfl ?_ | refine Wi rfl rfl ?_ | ((first | apply dX rfl | apply Da rfl rfl | apply Db rfl rfl (by intro h; first | trivial | exact ⟨h, trivial⟩ | exact ⟨h, h, trivial⟩)); (focus ((try intro hg); first | exact as_bool (S_lss rfl rfl) (decide_eq_false (by omega : ¬ ((64 : Nat) : Int) < 64)) | exact S_al rfl | exact S_bx rfl rfl | exact S_store rfl rfl rfl rfl rfl rfl | (apply Pu.ok; repeat' (first | rfl | exact .inK (by simp only [InK]; omega) | exact .wr | constructor | decide | omega)))); constructor) | refine Pa rfl rfl rfl rfl rfl ?_ | refine Po rfl rfl rfl rfl rfl ?_ | fail)
    exact gOwn (Wk_g (fun g => if g = 1000 then some 6 else none) rfl rfl (by (repeat' (first | exact trivial | rfl | exact listLe_map _ | exact ⟨_, rfl, .inl rfl⟩ | exact ⟨_, rfl, .inr (.inl rfl)⟩ | exact ⟨_, rfl, .inr (.inr rfl)⟩ | refine ⟨_, _, rfl, rfl, ?_⟩ | exact ⟨_, rfl, rfl⟩ | exact ⟨_, _, _, _, rfl, rfl, rfl⟩ | exact ⟨_, rfl⟩ | exact ⟨_, _, rfl⟩ | apply And.intro))))
end Go.Proofs.Ytfmaehhloffabaa
namespace Go.Proofs.Ytfmaehhloffabaa
open Go.RowKit
theorem md5_SumF (b : List UInt8) (hb : b.length ≤ 4194304) : FnF Try.prog 91 [.slice (b.map byteV)] (.slice ((md5S b).map byteV)) :=
  fnF_own (ds := [.slice (b.map byteV)]) (md5_Sum b hb) (by rw [List.length_map, md5S_len])
attribute [local irreducible] SStep DW DWin DOps thenQ inBlk loopQ retQ retQG FnF FnG Wk IntKind.wrap IntKind.andI IntKind.orI IntKind.xorI IntKind.andNotI IntKind.shlI IntKind.shrI md5S padK
set_option maxHeartbeats 2000000 in
theorem md5_Mac (key b : List UInt8) (hk : key.length ≤ 4194304) (hb : b.length ≤ 2097152) : FnG Try.prog 73 [.dat false (.slice (key.map byteV)), .dat false (.slice (b.map byteV))] [] (.own 1000 0 0 16) [(1000, .row 0 false true 1 ((macS key b).map byteV))] := by
  refine fnG_of Try.func73 rfl rfl rfl ?_
  simp only [envD]
  have hkl := macK_le key
  have hp92 := md5_pad (macK key) hkl 92
  have hp54 := md5_pad (macK key) hkl 54
  have hl92 := padK_len hkl 92
  have hl54 := padK_len hkl 54
  have hdl := md5S_len (padK (macK key) 54 ++ b)
  have e1 := whole_eq (f := byteV) (us := padK (macK key) 54 ++ b) rfl
  have e2 := whole_eq (f := byteV) (us := padK (macK key) 92 ++ md5S (padK (macK key) 54 ++ b)) rfl
  have hs1 : FnF Try.prog 91 [.slice ((((padK (macK key) 54 ++ b).map byteV).drop 0).take (padK (macK key) 54 ++ b).length)] (.slice ((md5S (padK (macK key) 54 ++ b)).map byteV)) := by
    rw [e1]; exact md5_SumF _ (by rw [List.length_append]; omega)
  have hs2 : FnG Try.prog 91 [.dat false (.slice ((((padK (macK key) 92 ++ md5S (padK (macK key) 54 ++ b)).map byteV).drop 0).take (padK (macK key) 92 ++ md5S (padK (macK key) 54 ++ b)).length))] [] (.own 1000 0 0 16) [(1000, .row 0 false true 1 ((macS key b).map byteV))] := by
    rw [e2]; exact md5_Sum _ (by rw [List.length_append]; omega)
  have hml : (key.map byteV).length = key.length := by simp
  by_cases h64 : 64 < key.length
  · have hK : macK key = md5S key := by unfold macK; rw [if_pos h64]
    have hgt : decide ((64 : Int) < ((key.map byteV).length : Int)) = true := decide_eq_true (by omega)
    have hsk := md5_SumF key hk
    rw [← hK] at hsk
    repeat' (first | refine DW_freeze 2 (by intro kt et es h; cases (show Box.cells false _ [D.dat true _] = Box.mapb _ _ _ from h)) ?_ | (apply Wa; constructor) | refine Wb rfl ?_ | refine Wc rfl ?_ | refine Wd (by kernel_rfl) ?_ | refine We rfl ?_ | refine Wf rfl ?_ | refine Wi rfl rfl ?_ | (apply dt rfl; case h => first | exact S_callvG0 _ rfl hp92 rfl rfl (.own _ _) | exact S_callvG0 _ rfl hp54 rfl rfl (.own _ _) | exact S_frz 13 rfl rfl (S_callG0 20 hs2 rfl rfl (.own _ _))) | ((first | apply dX rfl | apply Da rfl rfl | apply Db rfl rfl (by intro h; first | trivial | exact ⟨h, trivial⟩ | exact ⟨h, h, trivial⟩)); (focus ((try intro hg); first | exact S_callvG0 _ rfl hp92 rfl rfl (.own _ _) | exact S_callvG0 _ rfl hp54 rfl rfl (.own _ _) | exact S_appM (f := byteV) (us := padK (macK key) 54) (bs := b) rfl rfl (.dat _ _) rfl hl54.symm (.inr ⟨rfl, inferInstance⟩) rfl (by omega) | exact S_frz 15 rfl rfl (S_call hs1 rfl) | exact S_appM (f := byteV) (us := padK (macK key) 92) (bs := md5S (padK (macK key) 54 ++ b)) rfl rfl (.dat _ _) rfl hl92.symm (.inr ⟨rfl, inferInstance⟩) rfl (by omega) | exact S_frz 13 rfl rfl (S_callG0 20 hs2 rfl rfl (.own _ _)) | exact as_bool (S_gtr rfl rfl) hgt | exact S_call hsk rfl | exact S_al rfl | exact S_bx rfl rfl | exact S_store rfl rfl rfl rfl rfl rfl | (apply Pu.ok; repeat' (first | rfl | exact .inK (by simp only [InK]; omega) | exact .wr | constructor | decide | omega)))); constructor) | refine Pa rfl rfl rfl rfl rfl ?_ | refine Po rfl rfl rfl rfl rfl ?_ | fail)
    exact gOwn (Wk_g (fun g => if g = 1000 then some 20 else none) rfl rfl (by (repeat' (first | exact trivial | rfl | exact listLe_map _ | exact ⟨_, rfl, .inl rfl⟩ | exact ⟨_, rfl, .inr (.inl rfl)⟩ | exact ⟨_, rfl, .inr (.inr rfl)⟩ | refine ⟨_, _, rfl, rfl, ?_⟩ | exact ⟨_, rfl, rfl⟩ | exact ⟨_, _, _, _, rfl, rfl, rfl⟩ | exact ⟨_, rfl⟩ | exact ⟨_, _, rfl⟩ | apply And.intro))))
  · have hK : macK key = key := by unfold macK; rw [if_neg h64]
    have hgt : decide ((64 : Int) < ((key.map byteV).length : Int)) = false := decide_eq_false (by omega)
    rw [hK] at hp92 hp54
    rw [hK] at hl92 hl54 hdl e1 e2 hs1 hs2
    repeat' (first | refine DW_freeze 2 (by intro kt et es h; cases (show Box.cells false _ [D.dat false _] = Box.mapb _ _ _ from h)) ?_ | (apply Wa; constructor) | refine Wb rfl ?_ | refine Wc rfl ?_ | refine Wd (by kernel_rfl) ?_ | refine We rfl ?_ | refine Wf rfl ?_ | refine Wi rfl rfl ?_ | (apply dt rfl; case h => first | exact S_callvG0 _ rfl hp92 rfl rfl (.own _ _) | exact S_callvG0 _ rfl hp54 rfl rfl (.own _ _) | exact S_frz 13 rfl rfl (S_callG0 20 hs2 rfl rfl (.own _ _))) | ((first | apply dX rfl | apply Da rfl rfl | apply Db rfl rfl (by intro h; first | trivial | exact ⟨h, trivial⟩ | exact ⟨h, h, trivial⟩)); (focus ((try intro hg); first | exact S_callvG0 _ rfl hp92 rfl rfl (.own _ _) | exact S_callvG0 _ rfl hp54 rfl rfl (.own _ _) | exact S_appM (f := byteV) (us := padK key 54) (bs := b) rfl rfl (.dat _ _) rfl hl54.symm (.inr ⟨rfl, inferInstance⟩) rfl (by omega) | exact S_frz 15 rfl rfl (S_call hs1 rfl) | exact S_appM (f := byteV) (us := padK key 92) (bs := md5S (padK key 54 ++ b)) rfl rfl (.dat _ _) rfl hl92.symm (.inr ⟨rfl, inferInstance⟩) rfl (by omega) | exact S_frz 13 rfl rfl (S_callG0 20 hs2 rfl rfl (.own _ _)) | exact as_bool (S_gtr rfl rfl) hgt | exact S_al rfl | exact S_bx rfl rfl | exact S_store rfl rfl rfl rfl rfl rfl | (apply Pu.ok; repeat' (first | rfl | exact .inK (by simp only [InK]; omega) | exact .wr | constructor | decide | omega)))); constructor) | refine Pa rfl rfl rfl rfl rfl ?_ | refine Po rfl rfl rfl rfl rfl ?_ | fail)
    exact gOwn (Wk_g (fun g => if g = 1000 then some 20 else none) rfl rfl (by (repeat' (first | exact trivial | rfl | exact listLe_map _ | exact ⟨_, rfl, .inl rfl⟩ | exact ⟨_, rfl, .inr (.inl rfl)⟩ | exact ⟨_, rfl, .inr (.inr rfl)⟩ | refine ⟨_, _, rfl, rfl, ?_⟩ | exact ⟨_, rfl, rfl⟩ | exact ⟨_, _, _, _, rfl, rfl, rfl⟩ | exact ⟨_, rfl⟩ | exact ⟨_, _, rfl⟩ | apply And.intro))))
end Go.Proofs.Ytfmaehhloffabaa
namespace Go.Proofs.Ytfmaehhloffabaa
open Go.RowKit
def tableT (ws : List Way) : List UInt8 := ws.foldl (fun t w => t.set w.vid.toNat (byteAt w.tree 0)) (List.replicate 4096 0)
def inter (l : List UInt8) : List UInt8 := l.flatMap fun c => [0, c]
theorem inter_len (l : List UInt8) : (inter l).length = 2 * l.length := by
  induction l with
  | nil => rfl
  | cons c r ih => simp only [inter, List.flatMap_cons, List.length_append, List.length_cons, List.length_nil] at *; omega
theorem inter_set : ∀ (l : List UInt8) (i : Nat) (c : UInt8), inter (l.set i c) = (inter l).set (2 * i + 1) c
  | [], i, c => rfl
  | a :: r, 0, c => rfl
  | a :: r, i + 1, c => by
    have ih := inter_set r i c
    simp only [inter, List.set_cons_succ, List.flatMap_cons] at *
    rw [ih, show 2 * (i + 1) + 1 = (2 * i + 1) + 1 + 1 by omega]
    rfl
theorem inter_zero : ∀ n, inter (List.replicate n 0) = List.replicate (2 * n) 0
  | 0 => rfl
  | n + 1 => by
    have ih := inter_zero n
    rw [List.replicate_succ, show 2 * (n + 1) = 2 * n + 1 + 1 by omega, List.replicate_succ, List.replicate_succ, ← ih]
    rfl
def keyR : List UInt8 := [19, 172, 6, 166, 46, 71, 253, 81, 249, 93, 43, 162, 67, 205, 3, 70]
def digestR (ws : List Way) : List UInt8 := macS keyR (inter (tableT ws))
def identR (r : Region) : List UInt8 := r.name ++ List.replicate (32 - r.name.length) 0 ++ [byteAt r.rev 1, byteAt r.rev 0] ++ digestR r.ways
theorem foldl_set_len (ws : List Way) : ∀ t : List UInt8, (ws.foldl (fun t w => t.set w.vid.toNat (byteAt w.tree 0)) t).length = t.length := by
  induction ws with
  | nil => intro t; rfl
  | cons w r ih => intro t; rw [List.foldl_cons, ih, List.length_set]
theorem tableT_len (ws : List Way) : (tableT ws).length = 4096 := by unfold tableT; rw [foldl_set_len, List.length_replicate]
theorem digestR_len (ws : List Way) : (digestR ws).length = 16 := md5S_len _
end Go.Proofs.Ytfmaehhloffabaa
namespace Go.Proofs.Ytfmaehhloffabaa
open Go.RowKit
def tabK (ws : List Way) (k : Nat) : List UInt8 := (ws.take k).foldl (fun t w => t.set w.vid.toNat (byteAt w.tree 0)) (List.replicate 4096 0)
theorem tabK_zero (ws : List Way) : tabK ws 0 = List.replicate 4096 0 := rfl
theorem tabK_succ {ws : List Way} {k : Nat} {w : Way} (h : ws[k]? = some w) : tabK ws (k + 1) = (tabK ws k).set w.vid.toNat (byteAt w.tree 0) := by
  unfold tabK
  rw [List.take_add_one, h, List.foldl_append]; rfl
theorem tabK_len (ws : List Way) (k : Nat) : (tabK ws k).length = 4096 := by unfold tabK; rw [foldl_set_len, List.length_replicate]
theorem tabK_all (ws : List Way) {k : Nat} (h : ws.length ≤ k) : tabK ws k = tableT ws := by unfold tabK tableT; rw [List.take_of_length_le h]
theorem macS_len (key b : List UInt8) : (macS key b).length = 16 := md5S_len _
theorem byte_hi {x : Int} (h : 0 ≤ x) : IntKind.u8.wrap (IntKind.i64.shrI x 8) = ((byteAt x 1).toNat : Int) ∧ IntKind.u8.wrap (x / 256) = ((byteAt x 1).toNat : Int) ∧ IntKind.u8.wrap x = ((byteAt x 0).toNat : Int) ∧ IntKind.u8.wrap (x % 256) = ((byteAt x 0).toNat : Int) := by
  have e : (2 : Int) ^ (min (8 : Int).toNat IntKind.i64.bits) = 256 := by decide
  have a1 := byteAt_v h 1
  have a0 := byteAt_zero h
  simp only [Nat.mul_one, show (2 : Int) ^ 8 = 256 by decide] at a1
  refine ⟨?_, ?_, ?_, ?_⟩
  · unfold IntKind.shrI
    rw [e, wrap_u8, Int.fdiv_eq_ediv_of_nonneg _ (by decide)]; omega
  · rw [wrap_u8]; omega
  · rw [wrap_u8]; omega
  · rw [wrap_u8]; omega
section
variable {P : Program} {e : Operand → D} {m : Mem} {dst : Option Tmp} {ty : TypeId} {pos : String} {af : Array Edge} {gd : Option (Nat × Bool)} {x y : Operand} {t ts : TypeId}
theorem S_copyS {us bs : List UInt8} {g ver len by_ el : Nat} {agg nw n : Bool} {zs : List V} [hu : SlcI P t el] [ht : TyI P el agg 1 by_ zs] (h1 : e x = .own g ver 0 len) (hmg : m.at g = .row ver false nw 1 (us.map byteV)) (hlx : len = us.length)
    (h2 : e y = .dat n (.str bs)) :
    SStep P ⟨dst, .call { callee := .builtin .copy, args := #[x, y], argTypes := #[t, ts] }, ty, pos, af, gd⟩ e m (g :: refs0 (e y)) (.dat true (.int .i64 (min bs.length len : Nat))) [(g, .row ver false nw 1 ((bs.take len ++ us.drop bs.length).map byteV))] := by
  have hl : (us.map byteV).length = us.length := by simp
  have hb : (bytesV bs).length = bs.length := bytesV_len bs
  have := S_copy (P := P) (m := m) (t := t) (ts := ts) (el := el) (by_ := by_) (zs := zs) (agg := agg) (dst := dst) (ty := ty) (pos := pos) (af := af) (gd := gd) (nf := true) (n := true) (els := bytesV bs) Nat.one_pos h1 hmg (by rw [hl]; exact hlx)
    (by rw [h2]; exact .str n bs) (map_el (f := byteV) bs) (.inl rfl) (fun v lo l h => by rw [h2] at h; cases h)
  rw [hb, Bool.and_true, bytesV_map, ← List.map_take, ← List.map_drop, ← List.map_append] at this
  exact this
end
attribute [local irreducible] SStep DW DWin DOps thenQ inBlk loopQ retQ retQG FnF FnG Wk IntKind.wrap IntKind.andI IntKind.orI IntKind.xorI IntKind.andNotI IntKind.shlI IntKind.shrI macS tabK tableT inter
theorem md5_MacF (key b : List UInt8) (hk : key.length ≤ 4194304) (hb : b.length ≤ 2097152) : FnF Try.prog 73 [.slice (key.map byteV), .slice (b.map byteV)] (.slice ((macS key b).map byteV)) :=
  fnF_own (ds := [.slice (key.map byteV), .slice (b.map byteV)]) (md5_Mac key b hk hb) (by rw [List.length_map, macS_len])
theorem bytes_Equal (a b : List UInt8) : FnF Try.prog 34 [.slice (a.map byteV), .slice (b.map byteV)] (.bool (decide (a = b))) := by
  refine fnF_of Try.func34 rfl rfl rfl ?_
  simp only [envOf]
  repeat' (first | (apply Wa; constructor) | refine Wb rfl ?_ | refine Wc rfl ?_ | refine Wd (by kernel_rfl) ?_ | refine We rfl ?_ | refine Wf rfl ?_ | refine Wi rfl rfl ?_ | ((first | apply dX rfl | apply Da rfl rfl | apply Db rfl rfl (by intro h; first | trivial | exact ⟨h, trivial⟩ | exact ⟨h, h, trivial⟩)); (focus ((try intro hg); first | exact S_bs Try.underlying5 Try.underlying9 rfl | exact S_al rfl | exact S_bx rfl rfl | exact S_store rfl rfl rfl rfl rfl rfl | (apply Pu.ok; repeat' (first | rfl | exact .inK (by simp only [InK]; omega) | exact .wr | constructor | decide | omega)))); constructor) | refine Pa rfl rfl rfl rfl rfl ?_ | refine Po rfl rfl rfl rfl rfl ?_ | fail)
  exact ret1 rfl (.inl rfl) rfl
theorem region_key : FnF Try.prog 74 [] (.slice (keyR.map byteV)) := by
  refine fnF_of Try.func74 rfl rfl rfl ?_
  simp only [envOf]
  repeat' (first | (apply Wa; constructor) | refine Wb rfl ?_ | refine Wc rfl ?_ | refine Wd (by kernel_rfl) ?_ | refine We rfl ?_ | refine Wf rfl ?_ | refine Wi rfl rfl ?_ | ((first | apply dX rfl | apply Da rfl rfl | apply Db rfl rfl (by intro h; first | trivial | exact ⟨h, trivial⟩ | exact ⟨h, h, trivial⟩)); (focus ((try intro hg); first | exact S_al rfl | exact S_bx rfl rfl | exact S_store rfl rfl rfl rfl rfl rfl | (apply Pu.ok; repeat' (first | rfl | exact .inK (by simp only [InK]; omega) | exact .wr | constructor | decide | omega)))); constructor) | refine Pa rfl rfl rfl rfl rfl ?_ | refine Po rfl rfl rfl rfl rfl ?_ | fail)
  exact ret1 rfl (.inl rfl) rfl
set_option maxRecDepth 20000 in
set_option maxHeartbeats 2000000 in
theorem region_Digest (r : Region) (hr : r.right) : FnF Try.prog 56 [r.v] (.slice ((digestR r.ways).map byteV)) := by
  refine fnF_of Try.func56 rfl rfl rfl ?_
  simp only [envOf]
  have hml : (r.ways.map wayV).length = r.ways.length := by simp
  have hrl := hr.l
  have hz : List.replicate 8192 (0 : UInt8) = inter (tabK r.ways 0) := by rw [tabK_zero, inter_zero]
  repeat' (first | (apply dt rfl; case h => exact S_mkM (f := byteV) (l := 8192) (c := 8192) (0 : UInt8) _ rfl rfl rfl rfl (Nat.le_refl _) (by decide) rfl rfl) | (apply Wa; constructor) | refine Wb rfl ?_ | refine Wc rfl ?_ | refine Wd (by kernel_rfl) ?_ | refine We rfl ?_ | refine Wf rfl ?_ | refine Wi rfl rfl ?_ | ((first | apply dX rfl | apply Da rfl rfl | apply Db rfl rfl (by intro h; first | trivial | exact ⟨h, trivial⟩ | exact ⟨h, h, trivial⟩)); (focus ((try intro hg); first | exact S_al rfl | exact S_bx rfl rfl | exact S_store rfl rfl rfl rfl rfl rfl | (apply Pu.ok; repeat' (first | rfl | exact .inK (by simp only [InK]; omega) | exact .wr | constructor | decide | omega)))); constructor) | refine Pa rfl rfl rfl rfl rfl ?_ | refine Po rfl rfl rfl rfl rfl ?_ | fail)
  rw [hz]
  refine DW_loop (fun p : Nat × List UInt8 => ⟨[(3, .own 6 0 0 8192), (8, .dat false (.slice (r.ways.map wayV))), (9, .dat true (.int .i64 (r.ways.map wayV).length)), (10, .dat true (.int .i64 p.1))], [(6, .row 0 false true 1 (p.2.map byteV))], 27⟩)
    (fun p => p.1 ≤ r.ways.length ∧ p.2 = inter (tabK r.ways p.1)) (fun p => r.ways.length - p.1) (0, inter (tabK r.ways 0)) ⟨Nat.zero_le _, rfl⟩
    (Wk_g some rfl rfl (by (repeat' (first | exact trivial | rfl | exact listLe_map _ | exact ⟨_, rfl, .inl rfl⟩ | exact ⟨_, rfl, .inr (.inl rfl)⟩ | exact ⟨_, rfl, .inr (.inr rfl)⟩ | refine ⟨_, _, rfl, rfl, ?_⟩ | exact ⟨_, rfl, rfl⟩ | exact ⟨_, _, _, _, rfl, rfl, rfl⟩ | exact ⟨_, rfl⟩ | exact ⟨_, _, rfl⟩ | apply And.intro)))) (fun p hR => ?_)
  obtain ⟨k, us⟩ := p
  obtain ⟨hk, hus⟩ := hR
  simp only at hk hus
  dsimp only
  have hul : us.length = 8192 := by rw [hus, inter_len, tabK_len]
  by_cases hlt : k < r.ways.length
  · have hx : r.ways[(k : Int).toNat]? = some r.ways[k] := by simp [hlt]
    have hx' : r.ways[k]? = some r.ways[k] := by simp [hlt]
    have hbad := hr.w _ (List.getElem_mem hlt)
    have hs := tabK_succ hx'
    generalize r.ways[k] = w at hx hx' hbad hs
    unfold Way.bad at hbad
    have hi : (2 * w.vid + 1).toNat < us.length := by omega
    have hx0 : us[(2 * w.vid + 1).toNat]? = some us[(2 * w.vid + 1).toNat] := List.getElem?_eq_getElem hi
    have hset : us.set (2 * w.vid + 1).toNat (byteAt w.tree 0) = inter (tabK r.ways (k + 1)) := by
      rw [hs, inter_set, ← hus, show (2 * w.vid + 1).toNat = 2 * w.vid.toNat + 1 by omega]
    generalize us[(2 * w.vid + 1).toNat] = c at hx0
    have hb := (byte_hi (x := w.tree) (by omega)).2.2.1
    repeat' (first | (apply Wa; constructor) | refine Wb rfl ?_ | refine Wc rfl ?_ | refine Wd (by kernel_rfl) ?_ | refine We rfl ?_ | refine Wf rfl ?_ | refine Wi rfl rfl ?_ | ((first | apply dX rfl | apply Da rfl rfl | apply Db rfl rfl (by intro h; first | trivial | exact ⟨h, trivial⟩ | exact ⟨h, h, trivial⟩)); (focus ((try intro hg); first | exact as_bool (S_lss rfl rfl) (decide_eq_true (by omega : (k : Int) < ((r.ways.map wayV).length : Int))) | exact S_ixM rfl rfl (by omega) hx | exact C_toInt rfl hb | exact S_ixO rfl rfl rfl (by omega) (by omega) | exact S_storeM (f := byteV) (a := byteAt w.tree 0) rfl rfl hx0 rfl rfl (.inr ⟨rfl, inferInstance⟩) rfl rfl | exact S_al rfl | exact S_bx rfl rfl | exact S_store rfl rfl rfl rfl rfl rfl | (apply Pu.ok; repeat' (first | rfl | exact .inK (by simp only [InK]; omega) | exact .wr | constructor | decide | omega)))); constructor) | refine Pa rfl rfl rfl rfl rfl ?_ | refine Po rfl rfl rfl rfl rfl ?_ | fail)
    exact loop_again (k + 1, us.set (2 * w.vid + 1).toNat (byteAt w.tree 0)) ⟨hlt, hset⟩ (by simp only; omega) (Wk_g some rfl rfl (by (repeat' (first | exact trivial | rfl | exact listLe_map _ | exact ⟨_, rfl, .inl rfl⟩ | exact ⟨_, rfl, .inr (.inl rfl)⟩ | exact ⟨_, rfl, .inr (.inr rfl)⟩ | refine ⟨_, _, rfl, rfl, ?_⟩ | exact ⟨_, rfl, rfl⟩ | exact ⟨_, _, _, _, rfl, rfl, rfl⟩ | exact ⟨_, rfl⟩ | exact ⟨_, _, rfl⟩ | apply And.intro))))
  · rw [tabK_all r.ways (by omega)] at hus
    have hm : FnF Try.prog 73 [.slice (keyR.map byteV), .slice (((us.map byteV).drop 0).take 8192)] (.slice ((digestR r.ways).map byteV)) := by
      rw [whole_eq hul, hus]
      exact md5_MacF keyR _ (by decide) (by rw [inter_len, tableT_len]; decide)
    repeat' (first | (apply Wa; constructor) | refine Wb rfl ?_ | refine Wc rfl ?_ | refine Wd (by kernel_rfl) ?_ | refine We rfl ?_ | refine Wf rfl ?_ | refine Wi rfl rfl ?_ | ((first | apply dX rfl | apply Da rfl rfl | apply Db rfl rfl (by intro h; first | trivial | exact ⟨h, trivial⟩ | exact ⟨h, h, trivial⟩)); (focus ((try intro hg); first | exact as_bool (S_lss rfl rfl) (decide_eq_false (by omega : ¬ (k : Int) < ((r.ways.map wayV).length : Int))) | exact S_call region_key rfl | exact S_frz 6 rfl rfl (S_call hm rfl) | exact S_al rfl | exact S_bx rfl rfl | exact S_store rfl rfl rfl rfl rfl rfl | (apply Pu.ok; repeat' (first | rfl | exact .inK (by simp only [InK]; omega) | exact .wr | constructor | decide | omega)))); constructor) | refine Pa rfl rfl rfl rfl rfl ?_ | refine Po rfl rfl rfl rfl rfl ?_ | fail)
    exact ret1 rfl (.inl rfl) rfl
end Go.Proofs.Ytfmaehhloffabaa
namespace Go.Proofs.Ytfmaehhloffabaa
open Go.RowKit
attribute [local irreducible] SStep DW DWin DOps thenQ inBlk loopQ retQ retQG FnF FnG Wk IntKind.wrap IntKind.andI IntKind.orI IntKind.xorI IntKind.andNotI IntKind.shlI IntKind.shrI macS digestR
theorem region_IdentG (r : Region) (hr : r.right) : FnG Try.prog 37 [.dat false r.v] [] (.own 1000 0 0 (identR r).length) [(1000, .row 0 false true 1 ((identR r).map byteV))] := by
  refine fnG_of Try.func37 rfl rfl rfl ?_
  simp only [envD]
  have hD := region_Digest r hr
  have hdl := digestR_len r.ways
  have n2 := hr.n2
  obtain ⟨b1, _, b2, _⟩ := byte_hi hr.r0
  have hcp : r.name.take 32 ++ (List.replicate 32 0).drop r.name.length = r.name ++ List.replicate (32 - r.name.length) 0 := by
    rw [List.take_of_length_le n2, List.drop_replicate]
  repeat' (first | (apply dt rfl; case h => exact S_mkM (f := byteV) (l := 32) (c := 50) (0 : UInt8) _ rfl rfl rfl rfl (by decide) (by decide) rfl rfl) | (apply Wa; constructor) | refine Wb rfl ?_ | refine Wc rfl ?_ | refine Wd (by kernel_rfl) ?_ | refine We rfl ?_ | refine Wf rfl ?_ | refine Wi rfl rfl ?_ | ((first | apply dX rfl | apply Da rfl rfl | apply Db rfl rfl (by intro h; first | trivial | exact ⟨h, trivial⟩ | exact ⟨h, h, trivial⟩)); (focus ((try intro hg); first | exact S_copyS (us := List.replicate 32 0) (bs := r.name) rfl rfl rfl rfl | exact C_toInt rfl b1 | exact C_toInt rfl b2 | exact S_shr rfl rfl (by decide) | exact S_call hD rfl | exact S_appM (f := byteV) (us := r.name.take 32 ++ (List.replicate 32 0).drop r.name.length) (bs := [byteAt r.rev 1, byteAt r.rev 0]) rfl rfl (.dat _ _) rfl (by rw [hcp]; simp; omega) (.inr ⟨rfl, inferInstance⟩) rfl (by rw [hcp]; simp; omega) | exact S_appM (f := byteV) (bs := digestR r.ways) rfl rfl (.dat _ _) rfl rfl (.inr ⟨rfl, inferInstance⟩) rfl (by rw [hcp]; simp; omega) | exact S_al rfl | exact S_bx rfl rfl | exact S_store rfl rfl rfl rfl rfl rfl | (apply Pu.ok; repeat' (first | rfl | exact .inK (by simp only [InK]; omega) | exact .wr | constructor | decide | omega)))); constructor) | refine Pa rfl rfl rfl rfl rfl ?_ | refine Po rfl rfl rfl rfl rfl ?_ | fail)
  rw [hcp]
  exact gOwn (Wk_g (fun g => if g = 1000 then some 4 else none) rfl rfl (by (repeat' (first | exact trivial | rfl | exact listLe_map _ | exact ⟨_, rfl, .inl rfl⟩ | exact ⟨_, rfl, .inr (.inl rfl)⟩ | exact ⟨_, rfl, .inr (.inr rfl)⟩ | refine ⟨_, _, rfl, rfl, ?_⟩ | exact ⟨_, rfl, rfl⟩ | exact ⟨_, _, _, _, rfl, rfl, rfl⟩ | exact ⟨_, rfl⟩ | exact ⟨_, _, rfl⟩ | apply And.intro))))
theorem region_Ident (r : Region) (hr : r.right) : FnF Try.prog 37 [r.v] (.slice ((identR r).map byteV)) :=
  fnF_own (ds := [r.v]) (region_IdentG r hr) (by rw [List.length_map])
end Go.Proofs.Ytfmaehhloffabaa
namespace Go.Proofs.Ytfmaehhloffabaa
open Go.RowKit
structure Bridge.ok (b : Bridge) : Prop where
  a0 : 0 ≤ b.addr
  a1 : b.addr ≤ 281474976710655
  n : b.prios.length ≤ 16
  p : ∀ p ∈ b.prios, ¬ prioBad p
  r : b.region.right
def Bridge.prio (b : Bridge) (t : Int) : Int := if 0 ≤ t then (b.prios[t.toNat]?).getD 32768 else 32768
def Bridge.id (b : Bridge) (t : Int) : Int := b.prio t * 281474976710656 + b.addr
theorem Bridge.prio_in {b : Bridge} (h : b.ok) (t : Int) : 0 ≤ b.prio t ∧ b.prio t ≤ 61440 := by
  unfold Bridge.prio
  split
  · cases hx : b.prios[t.toNat]? with
    | none => simp
    | some p =>
      have := h.p p (List.mem_of_getElem? hx)
      unfold prioBad at this
      rw [Option.getD_some]; omega
  · omega
theorem shl_48 {a : Int} (h : 0 ≤ a) (h2 : a ≤ 61440) : IntKind.u64.shlI a 48 = a * 281474976710656 := by
  unfold IntKind.shlI
  have e : (2 : Int) ^ (min (48 : Int).toNat IntKind.u64.bits) = 281474976710656 := by decide
  rw [e, wrap_u64]; omega
theorem or_48 {p v : Int} (h : 0 ≤ p) (h2 : p ≤ 61440) (k : 0 ≤ v) (k2 : v ≤ 281474976710655) : IntKind.u64.orI (p * 281474976710656) v = p * 281474976710656 + v := by
  unfold IntKind.orI
  have hb : IntKind.u64.bits = 64 := rfl
  rw [hb]
  have e1 : (BitVec.ofInt 64 (p * 281474976710656)).toNat = (p * 281474976710656).toNat := by
    rw [BitVec.toNat_ofInt]; omega
  have e2 : (BitVec.ofInt 64 v).toNat = v.toNat := by
    rw [BitVec.toNat_ofInt]; omega
  rw [BitVec.toNat_or, e1, e2]
  have e : (p * 281474976710656).toNat = p.toNat <<< 48 := by rw [Nat.shiftLeft_eq]; omega
  rw [e, ← Nat.shiftLeft_add_eq_or_of_lt (by omega : v.toNat < 2 ^ 48), Nat.shiftLeft_eq, wrap_u64]
  omega
structure End where
  port : Int
  cost : Int
  other : Int
  oport : Int
def endV (e : End) : List V := [.int .i64 e.port, .int .i64 e.cost, .int .i64 e.other, .int .i64 e.oport]
instance : CellsI endV 4 := ⟨fun _ => rfl, fun t d h => by
  simp only [endV, List.mem_cons, List.mem_nil_iff, or_false] at h
  rcases h with rfl | rfl | rfl | rfl <;> rfl⟩
instance : FlatI endV := ⟨fun t d h => by
  simp only [endV, List.mem_cons, List.mem_nil_iff, or_false] at h
  rcases h with rfl | rfl | rfl | rfl <;> exact .int _ _⟩
instance : CellsI Offer.cells 7 := ⟨fun _ => rfl, fun t d h => by
  simp only [Offer.cells, List.mem_cons, List.mem_nil_iff, or_false] at h
  rcases h with rfl | rfl | rfl | rfl | rfl | rfl | rfl <;> rfl⟩
instance : FlatI Offer.cells := ⟨fun t d h => by
  simp only [Offer.cells, List.mem_cons, List.mem_nil_iff, or_false] at h
  rcases h with rfl | rfl | rfl | rfl | rfl | rfl | rfl <;> exact .int _ _⟩
instance : CellsI Vec.cells 4 := ⟨fun _ => rfl, fun t d h => by
  simp only [Vec.cells, List.mem_cons, List.mem_nil_iff, or_false] at h
  rcases h with rfl | rfl | rfl | rfl <;> rfl⟩
instance : FlatI Vec.cells := ⟨fun t d h => by
  simp only [Vec.cells, List.mem_cons, List.mem_nil_iff, or_false] at h
  rcases h with rfl | rfl | rfl | rfl <;> exact .int _ _⟩
def offerOf (says : List Vec) (e : End) : Offer := ⟨e.port, e.cost, 0, { (says[e.other.toNat]?).getD .zero with port := e.oport }⟩
def offersOf (ends : List End) (says : List Vec) : List Offer := ends.map (offerOf says)
def idsR (bs : List Bridge) : List (List UInt8) := bs.map fun b => identR b.region
def bytesR (x : List UInt8) : List V := [.slice (x.map byteV)]
instance : CellsI bytesR 1 := ⟨fun _ => rfl, fun t d h => by
  simp only [bytesR, List.mem_cons, List.mem_nil_iff, or_false] at h
  subst h; rfl⟩
def endAt (i : Int) (l : Link) : List End := (if l.a = i then [⟨l.pa, l.cost, l.b, l.pb⟩] else []) ++ (if l.b = i then [⟨l.pb, l.cost, l.a, l.pa⟩] else [])
def portAt (i : Int) (l : Link) : List Int := (if l.a = i then [l.pa] else []) ++ (if l.b = i then [l.pb] else [])
def portsOf (ls : List Link) (i : Int) : List Int := (ls.flatMap (portAt i)).mergeSort fun x y => decide (x ≤ y)
end Go.Proofs.Ytfmaehhloffabaa
