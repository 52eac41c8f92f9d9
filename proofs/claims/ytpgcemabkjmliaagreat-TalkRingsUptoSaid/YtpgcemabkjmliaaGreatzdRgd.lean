/- Contracts: digests and identities of regions. -/
import Derived.Test.YtpgcemabkjmliaaGreatzdMam
import Derived.Test.YtpgcemabkjmliaaGreatzdReg
namespace Go.Proofs.YtpgcemabkjmliaaGreat
open Go.RowKit
def tableT (ws : List Way) : List UInt8 := ws.foldl (fun t w => t.set w.vid.toNat (byteAt w.tree 0)) (List.replicate 4096 0)
def inter (l : List UInt8) : List UInt8 := l.flatMap fun c => [0, c]
theorem inter_len (l : List UInt8) : (inter l).length = 2 * l.length := by
  induction l with
  | nil => rfl
  | cons c r ih => simp only [inter, List.flatMap_cons, List.length_append, List.length_cons, List.length_nil] at *; omega
theorem inter_set : ∀ (l : List UInt8) (i : Nat) (c : UInt8), inter (l.set i c) = (inter l).set (2 * i + 1) c
  | [], i, c => rfl
  | a :: r, 0, c => rfl
  | a :: r, i + 1, c => by
    have ih := inter_set r i c
    simp only [inter, List.set_cons_succ, List.flatMap_cons] at *
    rw [ih, show 2 * (i + 1) + 1 = (2 * i + 1) + 1 + 1 by omega]
    rfl
theorem inter_zero : ∀ n, inter (List.replicate n 0) = List.replicate (2 * n) 0
  | 0 => rfl
  | n + 1 => by
    have ih := inter_zero n
    rw [List.replicate_succ, show 2 * (n + 1) = 2 * n + 1 + 1 by omega, List.replicate_succ, List.replicate_succ, ← ih]
    rfl
def keyR : List UInt8 := [19, 172, 6, 166, 46, 71, 253, 81, 249, 93, 43, 162, 67, 205, 3, 70]
def digestR (ws : List Way) : List UInt8 := macS keyR (inter (tableT ws))
def identR (r : Region) : List UInt8 := r.name ++ List.replicate (32 - r.name.length) 0 ++ [byteAt r.rev 1, byteAt r.rev 0] ++ digestR r.ways
theorem foldl_set_len (ws : List Way) : ∀ t : List UInt8, (ws.foldl (fun t w => t.set w.vid.toNat (byteAt w.tree 0)) t).length = t.length := by
  induction ws with
  | nil => intro t; rfl
  | cons w r ih => intro t; rw [List.foldl_cons, ih, List.length_set]
theorem tableT_len (ws : List Way) : (tableT ws).length = 4096 := by unfold tableT; rw [foldl_set_len, List.length_replicate]
theorem digestR_len (ws : List Way) : (digestR ws).length = 16 := md5S_len _
end Go.Proofs.YtpgcemabkjmliaaGreat
namespace Go.Proofs.YtpgcemabkjmliaaGreat
open Go.RowKit
def tabK (ws : List Way) (k : Nat) : List UInt8 := (ws.take k).foldl (fun t w => t.set w.vid.toNat (byteAt w.tree 0)) (List.replicate 4096 0)
theorem tabK_zero (ws : List Way) : tabK ws 0 = List.replicate 4096 0 := rfl
theorem tabK_succ {ws : List Way} {k : Nat} {w : Way} (h : ws[k]? = some w) : tabK ws (k + 1) = (tabK ws k).set w.vid.toNat (byteAt w.tree 0) := by
  unfold tabK
  rw [List.take_add_one, h, List.foldl_append]; rfl
theorem tabK_len (ws : List Way) (k : Nat) : (tabK ws k).length = 4096 := by unfold tabK; rw [foldl_set_len, List.length_replicate]
theorem tabK_all (ws : List Way) {k : Nat} (h : ws.length ≤ k) : tabK ws k = tableT ws := by unfold tabK tableT; rw [List.take_of_length_le h]
theorem inter_take {l : List UInt8} {k : Nat} {c : UInt8} (h : l[k]? = some c) : inter (l.take (k + 1)) = inter (l.take k) ++ [0, c] := by
  rw [List.take_add_one, h]
  simp [inter]
theorem macS_len (key b : List UInt8) : (macS key b).length = 16 := md5S_len _
theorem byte_hi {x : Int} (h : 0 ≤ x) : IntKind.u8.wrap (IntKind.i64.shrI x 8) = ((byteAt x 1).toNat : Int) ∧ IntKind.u8.wrap (x / 256) = ((byteAt x 1).toNat : Int) ∧ IntKind.u8.wrap x = ((byteAt x 0).toNat : Int) ∧ IntKind.u8.wrap (x % 256) = ((byteAt x 0).toNat : Int) := by
  have e : (2 : Int) ^ (min (8 : Int).toNat IntKind.i64.bits) = 256 := by decide
  have a1 := byteAt_v h 1
  have a0 := byteAt_zero h
  simp only [Nat.mul_one, show (2 : Int) ^ 8 = 256 by decide] at a1
  refine ⟨?_, ?_, ?_, ?_⟩
  · unfold IntKind.shrI
    rw [e, wrap_u8, Int.fdiv_eq_ediv_of_nonneg _ (by decide)]; omega
  · rw [wrap_u8]; omega
  · rw [wrap_u8]; omega
  · rw [wrap_u8]; omega
section
variable {P : Program} {e : Operand → D} {m : Mem} {dst : Option Tmp} {ty : TypeId} {pos : String} {af : Array Edge} {gd : Option (Nat × Bool)} {x y : Operand} {t ts : TypeId}
theorem S_copyS {us bs : List UInt8} {g ver len by_ el : Nat} {agg nw n : Bool} {zs : List V} [hu : SlcI P t el] [ht : TyI P el agg 1 by_ zs] (h1 : e x = .own g ver 0 len) (hmg : m.at g = .row ver false nw 1 (us.map byteV)) (hlx : len = us.length)
    (h2 : e y = .dat n (.str bs)) :
    SStep P ⟨dst, .call { callee := .builtin .copy, args := #[x, y], argTypes := #[t, ts] }, ty, pos, af, gd⟩ e m (g :: refs0 (e y)) (.dat true (.int .i64 (min bs.length len : Nat))) [(g, .row ver false nw 1 ((bs.take len ++ us.drop bs.length).map byteV))] := by
  have hl : (us.map byteV).length = us.length := by simp
  have hb : (bytesV bs).length = bs.length := bytesV_len bs
  have := S_copy (P := P) (m := m) (t := t) (ts := ts) (el := el) (by_ := by_) (zs := zs) (agg := agg) (dst := dst) (ty := ty) (pos := pos) (af := af) (gd := gd) (nf := true) (n := true) (els := bytesV bs) Nat.one_pos h1 hmg (by rw [hl]; exact hlx)
    (by rw [h2]; exact .str n bs) (map_el (f := byteV) bs) (.inl rfl) (fun v lo l h => by rw [h2] at h; cases h)
  rw [hb, Bool.and_true, bytesV_map, ← List.map_take, ← List.map_drop, ← List.map_append] at this
  exact this
end
attribute [local irreducible] SStep DW DWin DOps thenQ inBlk loopQ retQ retQG FnF FnG Wk IntKind.wrap IntKind.andI IntKind.orI IntKind.xorI IntKind.andNotI IntKind.shlI IntKind.shrI macS tabK tableT inter
theorem md5_MacF (key b : List UInt8) (hk : key.length ≤ 4194304) (hb : b.length ≤ 2097152) : FnF Tryz.prog 90 [.slice (key.map byteV), .slice (b.map byteV)] (.slice ((macS key b).map byteV)) :=
  fnF_own (ds := [.slice (key.map byteV), .slice (b.map byteV)]) (md5_Mac key b hk hb) (by rw [List.length_map, macS_len])
theorem ref1_MacF (key b : List UInt8) (hk : key.length ≤ 4194304) (hb : b.length ≤ 2097152) : FnF Tryz.prog 106 [.slice (key.map byteV), .slice (b.map byteV)] (.slice ((macS key b).map byteV)) :=
  fnF_own (ds := [.slice (key.map byteV), .slice (b.map byteV)]) (ref1_Mac key b hk hb) (by rw [List.length_map, macS_len])
theorem ref1_SameG (a b : List UInt8) : FnF Tryz.prog 61 [.slice (a.map byteV), .slice (b.map byteV)] (.bool (decide (a = b))) := by
  refine fnF_of Tryz.func61 rfl rfl rfl ?_
  simp only [envOf]
  repeat' (first | (apply Wa; constructor) | refine Wb rfl ?_ | refine Wc rfl ?_ | refine Wd (by kernel_rfl) ?_ | refine We rfl ?_ | refine Wf rfl ?_ | refine Wi rfl rfl ?_ | ((first | apply dX rfl | apply Da rfl rfl | apply Db rfl rfl (by intro h; first | trivial | exact ⟨h, trivial⟩ | exact ⟨h, h, trivial⟩)); (focus ((try intro hg); first | exact S_bs Tryz.underlying5 Tryz.underlying9 rfl | exact S_al rfl | exact S_bx rfl rfl | exact S_store rfl rfl rfl rfl rfl rfl | (apply Pu.ok; repeat' (first | rfl | exact .inK (by simp only [InK]; omega) | exact .wr | constructor | decide | omega)))); constructor) | refine Pa rfl rfl rfl rfl rfl ?_ | refine Po rfl rfl rfl rfl rfl ?_ | fail)
  exact ret1 rfl (.inl rfl) rfl
theorem bytes_Equal (a b : List UInt8) : FnF Tryz.prog 55 [.slice (a.map byteV), .slice (b.map byteV)] (.bool (decide (a = b))) := by
  refine fnF_of Tryz.func55 rfl rfl rfl ?_
  simp only [envOf]
  repeat' (first | (apply Wa; constructor) | refine Wb rfl ?_ | refine Wc rfl ?_ | refine Wd (by kernel_rfl) ?_ | refine We rfl ?_ | refine Wf rfl ?_ | refine Wi rfl rfl ?_ | ((first | apply dX rfl | apply Da rfl rfl | apply Db rfl rfl (by intro h; first | trivial | exact ⟨h, trivial⟩ | exact ⟨h, h, trivial⟩)); (focus ((try intro hg); first | exact S_bs Tryz.underlying5 Tryz.underlying9 rfl | exact S_al rfl | exact S_bx rfl rfl | exact S_store rfl rfl rfl rfl rfl rfl | (apply Pu.ok; repeat' (first | rfl | exact .inK (by simp only [InK]; omega) | exact .wr | constructor | decide | omega)))); constructor) | refine Pa rfl rfl rfl rfl rfl ?_ | refine Po rfl rfl rfl rfl rfl ?_ | fail)
  exact ret1 rfl (.inl rfl) rfl
theorem region_key : FnF Tryz.prog 91 [] (.slice (keyR.map byteV)) := by
  refine fnF_of Tryz.func91 rfl rfl rfl ?_
  simp only [envOf]
  repeat' (first | (apply Wa; constructor) | refine Wb rfl ?_ | refine Wc rfl ?_ | refine Wd (by kernel_rfl) ?_ | refine We rfl ?_ | refine Wf rfl ?_ | refine Wi rfl rfl ?_ | ((first | apply dX rfl | apply Da rfl rfl | apply Db rfl rfl (by intro h; first | trivial | exact ⟨h, trivial⟩ | exact ⟨h, h, trivial⟩)); (focus ((try intro hg); first | exact S_al rfl | exact S_bx rfl rfl | exact S_store rfl rfl rfl rfl rfl rfl | (apply Pu.ok; repeat' (first | rfl | exact .inK (by simp only [InK]; omega) | exact .wr | constructor | decide | omega)))); constructor) | refine Pa rfl rfl rfl rfl rfl ?_ | refine Po rfl rfl rfl rfl rfl ?_ | fail)
  exact ret1 rfl (.inl rfl) rfl
set_option maxRecDepth 20000 in
set_option maxHeartbeats 2000000 in
theorem region_Digest (r : Region) (hr : r.right) : FnF Tryz.prog 69 [r.v] (.slice ((digestR r.ways).map byteV)) := by
  refine fnF_of Tryz.func69 rfl rfl rfl ?_
  simp only [envOf]
  have hml : (r.ways.map wayV).length = r.ways.length := by simp
  have hrl := hr.l
  have hz : List.replicate 8192 (0 : UInt8) = inter (tabK r.ways 0) := by rw [tabK_zero, inter_zero]
  repeat' (first | (apply dt rfl; case h => exact S_mkM (f := byteV) (l := 8192) (c := 8192) (0 : UInt8) _ rfl rfl rfl rfl (Nat.le_refl _) (by decide) rfl rfl) | (apply Wa; constructor) | refine Wb rfl ?_ | refine Wc rfl ?_ | refine Wd (by kernel_rfl) ?_ | refine We rfl ?_ | refine Wf rfl ?_ | refine Wi rfl rfl ?_ | ((first | apply dX rfl | apply Da rfl rfl | apply Db rfl rfl (by intro h; first | trivial | exact ⟨h, trivial⟩ | exact ⟨h, h, trivial⟩)); (focus ((try intro hg); first | exact S_al rfl | exact S_bx rfl rfl | exact S_store rfl rfl rfl rfl rfl rfl | (apply Pu.ok; repeat' (first | rfl | exact .inK (by simp only [InK]; omega) | exact .wr | constructor | decide | omega)))); constructor) | refine Pa rfl rfl rfl rfl rfl ?_ | refine Po rfl rfl rfl rfl rfl ?_ | fail)
  rw [hz]
  refine DW_loop (fun p : Nat × List UInt8 => ⟨[(3, .own 6 0 0 8192), (8, .dat false (.slice (r.ways.map wayV))), (9, .dat true (.int .i64 (r.ways.map wayV).length)), (10, .dat true (.int .i64 p.1))], [(6, .row 0 false true 1 (p.2.map byteV))], 27⟩)
    (fun p => p.1 ≤ r.ways.length ∧ p.2 = inter (tabK r.ways p.1)) (fun p => r.ways.length - p.1) (0, inter (tabK r.ways 0)) ⟨Nat.zero_le _, rfl⟩
    (Wk_g some rfl rfl (by (repeat' (first | exact trivial | rfl | exact listLe_map _ | exact ⟨_, rfl, .inl rfl⟩ | exact ⟨_, rfl, .inr (.inl rfl)⟩ | exact ⟨_, rfl, .inr (.inr rfl)⟩ | refine ⟨_, _, rfl, rfl, ?_⟩ | exact ⟨_, rfl, rfl⟩ | exact ⟨_, _, _, _, rfl, rfl, rfl⟩ | exact ⟨_, rfl⟩ | exact ⟨_, _, rfl⟩ | apply And.intro)))) (fun p hR => ?_)
  obtain ⟨k, us⟩ := p
  obtain ⟨hk, hus⟩ := hR
  simp only at hk hus
  dsimp only
  have hul : us.length = 8192 := by rw [hus, inter_len, tabK_len]
  by_cases hlt : k < r.ways.length
  · have hx : r.ways[(k : Int).toNat]? = some r.ways[k] := by simp [hlt]
    have hx' : r.ways[k]? = some r.ways[k] := by simp [hlt]
    have hbad := hr.w _ (List.getElem_mem hlt)
    have hs := tabK_succ hx'
    generalize r.ways[k] = w at hx hx' hbad hs
    unfold Way.bad at hbad
    have hi : (2 * w.vid + 1).toNat < us.length := by omega
    have hx0 : us[(2 * w.vid + 1).toNat]? = some us[(2 * w.vid + 1).toNat] := List.getElem?_eq_getElem hi
    have hset : us.set (2 * w.vid + 1).toNat (byteAt w.tree 0) = inter (tabK r.ways (k + 1)) := by
      rw [hs, inter_set, ← hus, show (2 * w.vid + 1).toNat = 2 * w.vid.toNat + 1 by omega]
    generalize us[(2 * w.vid + 1).toNat] = c at hx0
    have hb := (byte_hi (x := w.tree) (by omega)).2.2.1
    repeat' (first | (apply Wa; constructor) | refine Wb rfl ?_ | refine Wc rfl ?_ | refine Wd (by kernel_rfl) ?_ | refine We rfl ?_ | refine Wf rfl ?_ | refine Wi rfl rfl ?_ | ((first | apply dX rfl | apply Da rfl rfl | apply Db rfl rfl (by intro h; first | trivial | exact ⟨h, trivial⟩ | exact ⟨h, h, trivial⟩)); (focus ((try intro hg); first | exact as_bool (S_lss rfl rfl) (decide_eq_true (by omega : (k : Int) < ((r.ways.map wayV).length : Int))) | exact S_ixM rfl rfl (by omega) hx | exact C_toInt rfl hb | exact S_ixO rfl rfl rfl (by omega) (by omega) | exact S_storeM (f := byteV) (a := byteAt w.tree 0) rfl rfl hx0 rfl rfl (.inr ⟨rfl, inferInstance⟩) rfl rfl | exact S_al rfl | exact S_bx rfl rfl | exact S_store rfl rfl rfl rfl rfl rfl | (apply Pu.ok; repeat' (first | rfl | exact .inK (by simp only [InK]; omega) | exact .wr | constructor | decide | omega)))); constructor) | refine Pa rfl rfl rfl rfl rfl ?_ | refine Po rfl rfl rfl rfl rfl ?_ | fail)
    exact loop_again (k + 1, us.set (2 * w.vid + 1).toNat (byteAt w.tree 0)) ⟨hlt, hset⟩ (by simp only; omega) (Wk_g some rfl rfl (by (repeat' (first | exact trivial | rfl | exact listLe_map _ | exact ⟨_, rfl, .inl rfl⟩ | exact ⟨_, rfl, .inr (.inl rfl)⟩ | exact ⟨_, rfl, .inr (.inr rfl)⟩ | refine ⟨_, _, rfl, rfl, ?_⟩ | exact ⟨_, rfl, rfl⟩ | exact ⟨_, _, _, _, rfl, rfl, rfl⟩ | exact ⟨_, rfl⟩ | exact ⟨_, _, rfl⟩ | apply And.intro))))
  · rw [tabK_all r.ways (by omega)] at hus
    have hm : FnF Tryz.prog 90 [.slice (keyR.map byteV), .slice (((us.map byteV).drop 0).take 8192)] (.slice ((digestR r.ways).map byteV)) := by
      rw [whole_eq hul, hus]
      exact md5_MacF keyR _ (by decide) (by rw [inter_len, tableT_len]; decide)
    repeat' (first | (apply Wa; constructor) | refine Wb rfl ?_ | refine Wc rfl ?_ | refine Wd (by kernel_rfl) ?_ | refine We rfl ?_ | refine Wf rfl ?_ | refine Wi rfl rfl ?_ | ((first | apply dX rfl | apply Da rfl rfl | apply Db rfl rfl (by intro h; first | trivial | exact ⟨h, trivial⟩ | exact ⟨h, h, trivial⟩)); (focus ((try intro hg); first | exact as_bool (S_lss rfl rfl) (decide_eq_false (by omega : ¬ (k : Int) < ((r.ways.map wayV).length : Int))) | exact S_call region_key rfl | exact S_frz 6 rfl rfl (S_call hm rfl) | exact S_al rfl | exact S_bx rfl rfl | exact S_store rfl rfl rfl rfl rfl rfl | (apply Pu.ok; repeat' (first | rfl | exact .inK (by simp only [InK]; omega) | exact .wr | constructor | decide | omega)))); constructor) | refine Pa rfl rfl rfl rfl rfl ?_ | refine Po rfl rfl rfl rfl rfl ?_ | fail)
    exact ret1 rfl (.inl rfl) rfl
set_option maxRecDepth 20000 in
set_option maxHeartbeats 2000000 in
theorem ref3_TableG (r : Region) (hr : r.right) : FnG Tryz.prog 105 [.dat false r.v] [] (.own 1000 0 0 4096) [(1000, .row 0 false true 1 ((tableT r.ways).map byteV))] := by
  refine fnG_of Tryz.func105 rfl rfl rfl ?_
  simp only [envD]
  have hml : (r.ways.map wayV).length = r.ways.length := by simp
  have hrl := hr.l
  have hz : List.replicate 4096 (0 : UInt8) = tabK r.ways 0 := (tabK_zero _).symm
  repeat' (first | (apply dt rfl; case h => exact S_mkM (f := byteV) (l := 4096) (c := 4096) (0 : UInt8) _ rfl rfl rfl rfl (Nat.le_refl _) (by decide) rfl rfl) | (apply Wa; constructor) | refine Wb rfl ?_ | refine Wc rfl ?_ | refine Wd (by kernel_rfl) ?_ | refine We rfl ?_ | refine Wf rfl ?_ | refine Wi rfl rfl ?_ | ((first | apply dX rfl | apply Da rfl rfl | apply Db rfl rfl (by intro h; first | trivial | exact ⟨h, trivial⟩ | exact ⟨h, h, trivial⟩)); (focus ((try intro hg); first | exact S_al rfl | exact S_bx rfl rfl | exact S_store rfl rfl rfl rfl rfl rfl | (apply Pu.ok; repeat' (first | rfl | exact .inK (by simp only [InK]; omega) | exact .wr | constructor | decide | omega)))); constructor) | refine Pa rfl rfl rfl rfl rfl ?_ | refine Po rfl rfl rfl rfl rfl ?_ | fail)
  rw [hz]
  refine DW_loop (fun p : Nat × List UInt8 => ⟨[(3, .own 6 0 0 4096), (8, .dat false (.slice (r.ways.map wayV))), (9, .dat true (.int .i64 (r.ways.map wayV).length)), (10, .dat true (.int .i64 p.1))], [(6, .row 0 false true 1 (p.2.map byteV))], 23⟩)
    (fun p => p.1 ≤ r.ways.length ∧ p.2 = tabK r.ways p.1) (fun p => r.ways.length - p.1) (0, tabK r.ways 0) ⟨Nat.zero_le _, rfl⟩
    (Wk_g some rfl rfl (by (repeat' (first | exact trivial | rfl | exact listLe_map _ | exact ⟨_, rfl, .inl rfl⟩ | exact ⟨_, rfl, .inr (.inl rfl)⟩ | exact ⟨_, rfl, .inr (.inr rfl)⟩ | refine ⟨_, _, rfl, rfl, ?_⟩ | exact ⟨_, rfl, rfl⟩ | exact ⟨_, _, _, _, rfl, rfl, rfl⟩ | exact ⟨_, rfl⟩ | exact ⟨_, _, rfl⟩ | apply And.intro)))) (fun p hR => ?_)
  obtain ⟨k, us⟩ := p
  obtain ⟨hk, hus⟩ := hR
  simp only at hk hus
  dsimp only
  have hul : us.length = 4096 := by rw [hus, tabK_len]
  by_cases hlt : k < r.ways.length
  · have hx : r.ways[(k : Int).toNat]? = some r.ways[k] := by simp [hlt]
    have hx' : r.ways[k]? = some r.ways[k] := by simp [hlt]
    have hbad := hr.w _ (List.getElem_mem hlt)
    have hs := tabK_succ hx'
    generalize r.ways[k] = w at hx hx' hbad hs
    unfold Way.bad at hbad
    have hi : w.vid.toNat < us.length := by omega
    have hx0 : us[w.vid.toNat]? = some us[w.vid.toNat] := List.getElem?_eq_getElem hi
    have hset : us.set w.vid.toNat (byteAt w.tree 0) = tabK r.ways (k + 1) := by rw [hs, ← hus]
    generalize us[w.vid.toNat] = c at hx0
    have hb := (byte_hi (x := w.tree) (by omega)).2.2.1
    repeat' (first | (apply Wa; constructor) | refine Wb rfl ?_ | refine Wc rfl ?_ | refine Wd (by kernel_rfl) ?_ | refine We rfl ?_ | refine Wf rfl ?_ | refine Wi rfl rfl ?_ | ((first | apply dX rfl | apply Da rfl rfl | apply Db rfl rfl (by intro h; first | trivial | exact ⟨h, trivial⟩ | exact ⟨h, h, trivial⟩)); (focus ((try intro hg); first | exact as_bool (S_lss rfl rfl) (decide_eq_true (by omega : (k : Int) < ((r.ways.map wayV).length : Int))) | exact S_ixM rfl rfl (by omega) hx | exact C_toInt rfl hb | exact S_ixO rfl rfl rfl (by omega) (by omega) | exact S_storeM (f := byteV) (a := byteAt w.tree 0) rfl rfl hx0 rfl rfl (.inr ⟨rfl, inferInstance⟩) rfl rfl | exact S_al rfl | exact S_bx rfl rfl | exact S_store rfl rfl rfl rfl rfl rfl | (apply Pu.ok; repeat' (first | rfl | exact .inK (by simp only [InK]; omega) | exact .wr | constructor | decide | omega)))); constructor) | refine Pa rfl rfl rfl rfl rfl ?_ | refine Po rfl rfl rfl rfl rfl ?_ | fail)
    exact loop_again (k + 1, us.set w.vid.toNat (byteAt w.tree 0)) ⟨hlt, hset⟩ (by simp only; omega) (Wk_g some rfl rfl (by (repeat' (first | exact trivial | rfl | exact listLe_map _ | exact ⟨_, rfl, .inl rfl⟩ | exact ⟨_, rfl, .inr (.inl rfl)⟩ | exact ⟨_, rfl, .inr (.inr rfl)⟩ | refine ⟨_, _, rfl, rfl, ?_⟩ | exact ⟨_, rfl, rfl⟩ | exact ⟨_, _, _, _, rfl, rfl, rfl⟩ | exact ⟨_, rfl⟩ | exact ⟨_, _, rfl⟩ | apply And.intro))))
  · rw [tabK_all r.ways (by omega)] at hus
    rw [← hus]
    repeat' (first | (apply Wa; constructor) | refine Wb rfl ?_ | refine Wc rfl ?_ | refine Wd (by kernel_rfl) ?_ | refine We rfl ?_ | refine Wf rfl ?_ | refine Wi rfl rfl ?_ | ((first | apply dX rfl | apply Da rfl rfl | apply Db rfl rfl (by intro h; first | trivial | exact ⟨h, trivial⟩ | exact ⟨h, h, trivial⟩)); (focus ((try intro hg); first | exact as_bool (S_lss rfl rfl) (decide_eq_false (by omega : ¬ (k : Int) < ((r.ways.map wayV).length : Int))) | exact S_al rfl | exact S_bx rfl rfl | exact S_store rfl rfl rfl rfl rfl rfl | (apply Pu.ok; repeat' (first | rfl | exact .inK (by simp only [InK]; omega) | exact .wr | constructor | decide | omega)))); constructor) | refine Pa rfl rfl rfl rfl rfl ?_ | refine Po rfl rfl rfl rfl rfl ?_ | fail)
    exact gOwn (Wk_g (fun g => if g = 1000 then some 6 else none) rfl rfl (by (repeat' (first | exact trivial | rfl | exact listLe_map _ | exact ⟨_, rfl, .inl rfl⟩ | exact ⟨_, rfl, .inr (.inl rfl)⟩ | exact ⟨_, rfl, .inr (.inr rfl)⟩ | refine ⟨_, _, rfl, rfl, ?_⟩ | exact ⟨_, rfl, rfl⟩ | exact ⟨_, _, _, _, rfl, rfl, rfl⟩ | exact ⟨_, rfl⟩ | exact ⟨_, _, rfl⟩ | apply And.intro))))
theorem ref3_Table (r : Region) (hr : r.right) : FnF Tryz.prog 105 [r.v] (.slice ((tableT r.ways).map byteV)) :=
  fnF_own (ds := [r.v]) (ref3_TableG r hr) (by rw [List.length_map, tableT_len])
set_option maxHeartbeats 2000000 in
theorem ref3_Digest (r : Region) (hr : r.right) : FnF Tryz.prog 74 [r.v] (.slice ((digestR r.ways).map byteV)) := by
  refine fnF_of Tryz.func74 rfl rfl rfl ?_
  simp only [envOf]
  have hT := ref3_Table r hr
  have hTl := tableT_len r.ways
  have hD : digestR r.ways = macS keyR (inter (tableT r.ways)) := rfl
  rw [hD]
  generalize tableT r.ways = T at hT hTl
  have hml : (T.map byteV).length = 4096 := by rw [List.length_map, hTl]
  repeat' (first | (apply Wa; constructor) | refine Wb rfl ?_ | refine Wc rfl ?_ | refine Wd (by kernel_rfl) ?_ | refine We rfl ?_ | refine Wf rfl ?_ | refine Wi rfl rfl ?_ | ((first | apply dX rfl | apply Da rfl rfl | apply Db rfl rfl (by intro h; first | trivial | exact ⟨h, trivial⟩ | exact ⟨h, h, trivial⟩)); (focus ((try intro hg); first | exact S_call hT rfl | exact S_al rfl | exact S_bx rfl rfl | exact S_store rfl rfl rfl rfl rfl rfl | (apply Pu.ok; repeat' (first | rfl | exact .inK (by simp only [InK]; omega) | exact .wr | constructor | decide | omega)))); constructor) | refine Pa rfl rfl rfl rfl rfl ?_ | refine Po rfl rfl rfl rfl rfl ?_ | fail)
  refine DW_loop (fun p : Nat × List UInt8 => ⟨[(3, .own 16 0 0 p.2.length), (7, .dat true (.slice (T.map byteV))), (8, .dat true (.int .i64 (T.map byteV).length)), (9, .dat true (.int .i64 p.1))], [(16, .row 0 false true 1 (p.2.map byteV))], 21⟩)
    (fun p => p.1 ≤ 4096 ∧ p.2 = inter (T.take p.1)) (fun p => 4096 - p.1) (0, []) ⟨Nat.zero_le _, by with_unfolding_all rfl⟩
    (Wk_g (fun g => if g = 16 then none else some g) rfl rfl (by (repeat' (first | exact trivial | rfl | exact listLe_map _ | exact ⟨_, rfl, .inl rfl⟩ | exact ⟨_, rfl, .inr (.inl rfl)⟩ | exact ⟨_, rfl, .inr (.inr rfl)⟩ | refine ⟨_, _, rfl, rfl, ?_⟩ | exact ⟨_, rfl, rfl⟩ | exact ⟨_, _, _, _, rfl, rfl, rfl⟩ | exact ⟨_, rfl⟩ | exact ⟨_, _, rfl⟩ | apply And.intro)))) (fun p hR => ?_)
  obtain ⟨k, us⟩ := p
  obtain ⟨hk, hus⟩ := hR
  simp only at hk hus
  dsimp only
  have hul : us.length ≤ 8192 := by rw [hus, inter_len, List.length_take]; omega
  by_cases hlt : k < 4096
  · have hx : T[(k : Int).toNat]? = some (T[k]'(by omega)) := by rw [Int.toNat_natCast]; exact List.getElem?_eq_getElem (by omega)
    have hs := inter_take (List.getElem?_eq_getElem (by omega : k < T.length))
    generalize T[k]'(by omega) = c at hx hs
    repeat' (first | (apply Wa; constructor) | refine Wb rfl ?_ | refine Wc rfl ?_ | refine Wd (by kernel_rfl) ?_ | refine We rfl ?_ | refine Wf rfl ?_ | refine Wi rfl rfl ?_ | ((first | apply dX rfl | apply Da rfl rfl | apply Db rfl rfl (by intro h; first | trivial | exact ⟨h, trivial⟩ | exact ⟨h, h, trivial⟩)); (focus ((try intro hg); first | exact as_bool (S_lss rfl rfl) (decide_eq_true (by omega : (k : Int) < ((T.map byteV).length : Int))) | exact S_ixM (f := byteV) (us := T) rfl rfl (by omega) hx | exact S_appM (f := byteV) (us := us) (bs := [0, c]) rfl rfl (.dat _ _) rfl rfl (.inr ⟨rfl, inferInstance⟩) rfl (by simp only [List.length_cons, List.length_nil]; omega) | exact S_al rfl | exact S_bx rfl rfl | exact S_store rfl rfl rfl rfl rfl rfl | (apply Pu.ok; repeat' (first | rfl | exact .inK (by simp only [InK]; omega) | exact .wr | constructor | decide | omega)))); constructor) | refine Pa rfl rfl rfl rfl rfl ?_ | refine Po rfl rfl rfl rfl rfl ?_ | fail)
    refine loop_again (k + 1, us ++ [0, c]) ⟨hlt, ?_⟩ (by simp only; omega) (Wk_g some rfl rfl (by (repeat' (first | exact trivial | rfl | exact listLe_map _ | exact ⟨_, rfl, .inl rfl⟩ | exact ⟨_, rfl, .inr (.inl rfl)⟩ | exact ⟨_, rfl, .inr (.inr rfl)⟩ | refine ⟨_, _, rfl, rfl, ?_⟩ | exact ⟨_, rfl, rfl⟩ | exact ⟨_, _, _, _, rfl, rfl, rfl⟩ | exact ⟨_, rfl⟩ | exact ⟨_, _, rfl⟩ | apply And.intro))))
    simp only
    rw [hs, hus]
  · rw [List.take_of_length_le (by omega)] at hus
    have hm : FnF Tryz.prog 106 [.slice (keyR.map byteV), .slice (((us.map byteV).drop 0).take us.length)] (.slice ((macS keyR (inter T)).map byteV)) := by
      rw [whole_eq rfl, ← hus]
      exact ref1_MacF keyR _ (by decide) (by omega)
    repeat' (first | (apply Wa; constructor) | refine Wb rfl ?_ | refine Wc rfl ?_ | refine Wd (by kernel_rfl) ?_ | refine We rfl ?_ | refine Wf rfl ?_ | refine Wi rfl rfl ?_ | ((first | apply dX rfl | apply Da rfl rfl | apply Db rfl rfl (by intro h; first | trivial | exact ⟨h, trivial⟩ | exact ⟨h, h, trivial⟩)); (focus ((try intro hg); first | exact as_bool (S_lss rfl rfl) (decide_eq_false (by omega : ¬ (k : Int) < ((T.map byteV).length : Int))) | exact S_frz 16 rfl rfl (S_call hm rfl) | exact S_al rfl | exact S_bx rfl rfl | exact S_store rfl rfl rfl rfl rfl rfl | (apply Pu.ok; repeat' (first | rfl | exact .inK (by simp only [InK]; omega) | exact .wr | constructor | decide | omega)))); constructor) | refine Pa rfl rfl rfl rfl rfl ?_ | refine Po rfl rfl rfl rfl rfl ?_ | fail)
    exact ret1 rfl (.inl rfl) rfl
end Go.Proofs.YtpgcemabkjmliaaGreat
