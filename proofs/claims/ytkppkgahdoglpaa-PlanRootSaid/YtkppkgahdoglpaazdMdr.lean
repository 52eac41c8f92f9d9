/- MD5: the document's (hedgeref1): Round, Sum. -/
import Derived.Test.YtkppkgahdoglpaazdMds
namespace Go.Proofs.Ytkppkgahdoglpaa
open Go.RowKit
section
variable {P : Program} {e : Operand → D} {m : Mem} {dst : Option Tmp} {ty : TypeId} {pos : String} {af : Array Edge} {gd : Option (Nat × Bool)} {x y : Operand} {t : TypeId}
theorem S_app1 {us : List UInt8} {c : UInt8} {g ver len by_ el : Nat} {agg n nw : Bool} {zs : List V} [hu : SlcI P t el] [ht : TyI P el agg 1 by_ zs] (h1 : e x = .own g ver 0 len) (hmg : m.at g = .row ver false nw 1 (us.map byteV)) (h2 : AppR m 1 (e y) n [[V.int .u8 (c.toNat : Int)]])
    (hlx : len = us.length) (hb : (us.length + 1) * (by_ + 1) ≤ 140737488355328) :
    SStep P ⟨dst, .call { callee := .builtin .append, args := #[x, y], argTypes := #[t, t] }, ty, pos, af, gd⟩ e m (g :: refs0 (e y)) (.own g (ver + 1) 0 (us ++ [c]).length) [(g, .row (ver + 1) false nw 1 ((us ++ [c]).map byteV))] :=
  S_appM (f := byteV) (us := us) (bs := [c]) h1 hmg h2 rfl hlx (.inr ⟨rfl, inferInstance⟩) rfl hb
theorem S_appN1 {c : UInt8} {by_ el : Nat} {agg n : Bool} {zs : List V} (g : Nat) [hu : SlcI P t el] [ht : TyI P el agg 1 by_ zs] (h1 : e x = .nil) (h2 : AppR m 1 (e y) n [[V.int .u8 (c.toNat : Int)]]) (hb : 1 * (by_ + 1) ≤ 140737488355328) (hg : m.at g = .gone) :
    SStep P ⟨dst, .call { callee := .builtin .append, args := #[x, y], argTypes := #[t, t] }, ty, pos, af, gd⟩ e m (refs0 (e y)) (.own g 1 0 [c].length) [(g, .row 1 false true 1 ([c].map byteV))] :=
  S_appNM g (f := byteV) (nf := true) (bs := [c]) h1 h2 rfl (.inr inferInstance) rfl hb hg
end
theorem md5G_shift {r k : Nat} (hr : r < 4) : md5G r (16 * r + k) = md5G r k := by
  rcases (by omega : r = 0 ∨ r = 1 ∨ r = 2 ∨ r = 3) with rfl | rfl | rfl | rfl <;> simp only [md5G] <;> omega
theorem rs_at : (∀ j, j < 4 → ([7, 12, 17, 22] : List Int)[j]? = some (md5R.getD (4 * 0 + j) 0)) ∧ (∀ j, j < 4 → ([5, 9, 14, 20] : List Int)[j]? = some (md5R.getD (4 * 1 + j) 0)) ∧
    (∀ j, j < 4 → ([4, 11, 16, 23] : List Int)[j]? = some (md5R.getD (4 * 2 + j) 0)) ∧ (∀ j, j < 4 → ([6, 10, 15, 21] : List Int)[j]? = some (md5R.getD (4 * 3 + j) 0)) := by decide
theorem le_b0 {x : Int} (h : 0 ≤ x) : IntKind.u8.wrap (IntKind.u32.shrI x 0) = ((byteAt x 0).toNat : Int) := by
  have : IntKind.u32.shrI x 0 = x := by unfold IntKind.shrI; simp
  rw [this]; exact (le_b h).1
theorem getT {k : Nat} (h : k < 64) : md5T[k]? = some (md5T.getD k 0) := by
  have : md5T.length = 64 := rfl
  rw [List.getElem?_eq_getElem (by omega), List.getD_eq_getElem?_getD, List.getElem?_eq_getElem (by omega)]; rfl
def ivL : List Int := [1732584193, 4023233417, 2562383102, 271733878]
def stL (v : St4) : List Int := [v.1, v.2.1, v.2.2.1, v.2.2.2]
attribute [local irreducible] SStep DW DWin DOps thenQ inBlk loopQ retQ retQG FnF FnG Wk IntKind.wrap IntKind.andI IntKind.orI IntKind.xorI IntKind.andNotI IntKind.shlI IntKind.shrI rot wordAt byteAt md5Block
theorem ref1_Round (r k : Nat) (hr : r < 4) (hk : k < 16) (b c d : Int) : FnF Try.prog 112 [.int .i64 (r : Int), .int .i64 (k : Int), .int .u32 b, .int .u32 c, .int .u32 d]
    (.tuple [.int .u32 (md5F r b c d), .int .i64 (md5G r k : Nat), .int .i64 (md5R.getD (4 * r + k % 4) 0)]) := by
  refine fnF_of Try.func112 rfl rfl rfl ?_
  simp only [envOf]
  have h4 : (k : Int).tmod 4 = ((k % 4 : Nat) : Int) := by rw [Int.tmod_eq_emod_of_nonneg (by omega)]; omega
  obtain ⟨z0, z1, z2, z3⟩ := rs_at
  rcases (by omega : r = 0 ∨ r = 1 ∨ r = 2 ∨ r = 3) with rfl | rfl | rfl | rfl
  · have hx : ([7, 12, 17, 22] : List Int)[((k % 4 : Nat) : Int).toNat]? = some (md5R.getD (4 * 0 + k % 4) 0) := by rw [Int.toNat_natCast]; exact z0 _ (by omega)
    generalize md5R.getD (4 * 0 + k % 4) 0 = rr at hx
    have hg : (md5G 0 k : Nat) = k := by simp only [md5G]; omega
    rw [hg]
    repeat' (first
    | refine DW_seq ?_
    | refine DW_region ?_
    | refine DW_draw ?_
    | refine dnilP ?_
    | refine dnilD (by kernel_rfl) ?_
    | refine then_normal ?_
    | refine then_exit ?_
    | refine then_ret ?_
    | refine DW_block ?_
    | refine blk_normal ?_
    | refine blk_ret ?_
    | refine blk_hit rfl ?_
    | refine blk_miss rfl ?_
    | refine loop_exit ?_
    | refine loop_ret ?_
    | refine DW_ret ?_
    | refine DW_exit ?_
    | refine DW_skip ?_
    | refine DW_cond_t rfl ?_
    | refine DW_cond_f rfl ?_
    | (apply dpC rfl; case h => first | (apply Pu.ok; repeat' (first | rfl | exact .inK (by simp only [InK]; omega) | exact .inK (by simp only [InK]; simp at hg; omega) | exact .wr | constructor | decide | omega)))
    | refine dpOff rfl rfl ?_
    | ((first | apply dp rfl | apply dpOn rfl rfl | apply dpMay rfl rfl (by first | exact fun _ => trivial | exact fun h => ⟨h, trivial⟩ | exact fun h => ⟨h, h, trivial⟩ | exact fun h => ⟨h, h, h, trivial⟩)); case h => ((try intro hg); first | exact as_int (S_rem rfl rfl (by decide)) h4 | exact S_compl rfl | exact S_ixM (f := intV) (us := [7, 12, 17, 22]) rfl rfl (by omega) hx | (apply Pu.ok; repeat' (first | rfl | exact .inK (by simp only [InK]; omega) | exact .inK (by simp only [InK]; simp at hg; omega) | exact .wr | constructor | decide | omega))))
    | refine dpickAnd rfl rfl rfl rfl rfl ?_ | refine dpickOr rfl rfl rfl rfl rfl ?_
    | (apply dt rfl; case h => first | exact S_compl rfl | exact S_alloc _ rfl | exact S_box _ rfl rfl)
    | (apply ds; case h => first | exact S_compl rfl | exact S_store rfl rfl rfl rfl rfl rfl)
    | (apply dm rfl; case h => first | exact S_compl rfl | exact M_d rfl | exact S_alloc 2001 rfl | exact S_alloc 2002 rfl | exact S_alloc 2003 rfl | exact S_alloc 2004 rfl | exact S_alloc 2005 rfl)
    | fail)
    exact retN (.tmp rfl (.inl rfl) (.tmp rfl (.inr (.int _ _)) (.tmp rfl (.inr (.int _ _)) .nil))) rfl
  · have hx : ([5, 9, 14, 20] : List Int)[((k % 4 : Nat) : Int).toNat]? = some (md5R.getD (4 * 1 + k % 4) 0) := by rw [Int.toNat_natCast]; exact z1 _ (by omega)
    generalize md5R.getD (4 * 1 + k % 4) 0 = rr at hx
    have hg : (1 + 5 * (k : Int)).tmod 16 = ((md5G 1 k : Nat) : Int) := by rw [Int.tmod_eq_emod_of_nonneg (by omega)]; simp only [md5G]; omega
    repeat' (first
    | refine DW_seq ?_
    | refine DW_region ?_
    | refine DW_draw ?_
    | refine dnilP ?_
    | refine dnilD (by kernel_rfl) ?_
    | refine then_normal ?_
    | refine then_exit ?_
    | refine then_ret ?_
    | refine DW_block ?_
    | refine blk_normal ?_
    | refine blk_ret ?_
    | refine blk_hit rfl ?_
    | refine blk_miss rfl ?_
    | refine loop_exit ?_
    | refine loop_ret ?_
    | refine DW_ret ?_
    | refine DW_exit ?_
    | refine DW_skip ?_
    | refine DW_cond_t rfl ?_
    | refine DW_cond_f rfl ?_
    | (apply dpC rfl; case h => first | (apply Pu.ok; repeat' (first | rfl | exact .inK (by simp only [InK]; omega) | exact .inK (by simp only [InK]; simp at hg; omega) | exact .wr | constructor | decide | omega)))
    | refine dpOff rfl rfl ?_
    | ((first | apply dp rfl | apply dpOn rfl rfl | apply dpMay rfl rfl (by first | exact fun _ => trivial | exact fun h => ⟨h, trivial⟩ | exact fun h => ⟨h, h, trivial⟩ | exact fun h => ⟨h, h, h, trivial⟩)); case h => ((try intro hg); first | exact as_int (S_rem rfl rfl (by decide)) h4 | exact as_int (S_rem rfl rfl (by decide)) hg | exact S_compl rfl | exact S_ixM (f := intV) (us := [5, 9, 14, 20]) rfl rfl (by omega) hx | (apply Pu.ok; repeat' (first | rfl | exact .inK (by simp only [InK]; omega) | exact .inK (by simp only [InK]; simp at hg; omega) | exact .wr | constructor | decide | omega))))
    | refine dpickAnd rfl rfl rfl rfl rfl ?_ | refine dpickOr rfl rfl rfl rfl rfl ?_
    | (apply dt rfl; case h => first | exact S_compl rfl | exact S_alloc _ rfl | exact S_box _ rfl rfl)
    | (apply ds; case h => first | exact S_compl rfl | exact S_store rfl rfl rfl rfl rfl rfl)
    | (apply dm rfl; case h => first | exact S_compl rfl | exact M_d rfl | exact S_alloc 2001 rfl | exact S_alloc 2002 rfl | exact S_alloc 2003 rfl | exact S_alloc 2004 rfl | exact S_alloc 2005 rfl)
    | fail)
    exact retN (.tmp rfl (.inl rfl) (.tmp rfl (.inr (.int _ _)) (.tmp rfl (.inr (.int _ _)) .nil))) rfl
  · have hx : ([4, 11, 16, 23] : List Int)[((k % 4 : Nat) : Int).toNat]? = some (md5R.getD (4 * 2 + k % 4) 0) := by rw [Int.toNat_natCast]; exact z2 _ (by omega)
    generalize md5R.getD (4 * 2 + k % 4) 0 = rr at hx
    have hg : (5 + 3 * (k : Int)).tmod 16 = ((md5G 2 k : Nat) : Int) := by rw [Int.tmod_eq_emod_of_nonneg (by omega)]; simp only [md5G]; omega
    repeat' (first
    | refine DW_seq ?_
    | refine DW_region ?_
    | refine DW_draw ?_
    | refine dnilP ?_
    | refine dnilD (by kernel_rfl) ?_
    | refine then_normal ?_
    | refine then_exit ?_
    | refine then_ret ?_
    | refine DW_block ?_
    | refine blk_normal ?_
    | refine blk_ret ?_
    | refine blk_hit rfl ?_
    | refine blk_miss rfl ?_
    | refine loop_exit ?_
    | refine loop_ret ?_
    | refine DW_ret ?_
    | refine DW_exit ?_
    | refine DW_skip ?_
    | refine DW_cond_t rfl ?_
    | refine DW_cond_f rfl ?_
    | (apply dpC rfl; case h => first | (apply Pu.ok; repeat' (first | rfl | exact .inK (by simp only [InK]; omega) | exact .inK (by simp only [InK]; simp at hg; omega) | exact .wr | constructor | decide | omega)))
    | refine dpOff rfl rfl ?_
    | ((first | apply dp rfl | apply dpOn rfl rfl | apply dpMay rfl rfl (by first | exact fun _ => trivial | exact fun h => ⟨h, trivial⟩ | exact fun h => ⟨h, h, trivial⟩ | exact fun h => ⟨h, h, h, trivial⟩)); case h => ((try intro hg); first | exact as_int (S_rem rfl rfl (by decide)) h4 | exact as_int (S_rem rfl rfl (by decide)) hg | exact S_compl rfl | exact S_ixM (f := intV) (us := [4, 11, 16, 23]) rfl rfl (by omega) hx | (apply Pu.ok; repeat' (first | rfl | exact .inK (by simp only [InK]; omega) | exact .inK (by simp only [InK]; simp at hg; omega) | exact .wr | constructor | decide | omega))))
    | refine dpickAnd rfl rfl rfl rfl rfl ?_ | refine dpickOr rfl rfl rfl rfl rfl ?_
    | (apply dt rfl; case h => first | exact S_compl rfl | exact S_alloc _ rfl | exact S_box _ rfl rfl)
    | (apply ds; case h => first | exact S_compl rfl | exact S_store rfl rfl rfl rfl rfl rfl)
    | (apply dm rfl; case h => first | exact S_compl rfl | exact M_d rfl | exact S_alloc 2001 rfl | exact S_alloc 2002 rfl | exact S_alloc 2003 rfl | exact S_alloc 2004 rfl | exact S_alloc 2005 rfl)
    | fail)
    exact retN (.tmp rfl (.inl rfl) (.tmp rfl (.inr (.int _ _)) (.tmp rfl (.inr (.int _ _)) .nil))) rfl
  · have hx : ([6, 10, 15, 21] : List Int)[((k % 4 : Nat) : Int).toNat]? = some (md5R.getD (4 * 3 + k % 4) 0) := by rw [Int.toNat_natCast]; exact z3 _ (by omega)
    generalize md5R.getD (4 * 3 + k % 4) 0 = rr at hx
    have hg : (7 * (k : Int)).tmod 16 = ((md5G 3 k : Nat) : Int) := by rw [Int.tmod_eq_emod_of_nonneg (by omega)]; simp only [md5G]; omega
    repeat' (first
    | refine DW_seq ?_
    | refine DW_region ?_
    | refine DW_draw ?_
    | refine dnilP ?_
    | refine dnilD (by kernel_rfl) ?_
    | refine then_normal ?_
    | refine then_exit ?_
    | refine then_ret ?_
    | refine DW_block ?_
    | refine blk_normal ?_
    | refine blk_ret ?_
    | refine blk_hit rfl ?_
    | refine blk_miss rfl ?_
    | refine loop_exit ?_
    | refine loop_ret ?_
    | refine DW_ret ?_
    | refine DW_exit ?_
    | refine DW_skip ?_
    | refine DW_cond_t rfl ?_
    | refine DW_cond_f rfl ?_
    | (apply dpC rfl; case h => first | (apply Pu.ok; repeat' (first | rfl | exact .inK (by simp only [InK]; omega) | exact .inK (by simp only [InK]; simp at hg; omega) | exact .wr | constructor | decide | omega)))
    | refine dpOff rfl rfl ?_
    | ((first | apply dp rfl | apply dpOn rfl rfl | apply dpMay rfl rfl (by first | exact fun _ => trivial | exact fun h => ⟨h, trivial⟩ | exact fun h => ⟨h, h, trivial⟩ | exact fun h => ⟨h, h, h, trivial⟩)); case h => ((try intro hg); first | exact as_int (S_rem rfl rfl (by decide)) h4 | exact as_int (S_rem rfl rfl (by decide)) hg | exact S_compl rfl | exact S_ixM (f := intV) (us := [6, 10, 15, 21]) rfl rfl (by omega) hx | (apply Pu.ok; repeat' (first | rfl | exact .inK (by simp only [InK]; omega) | exact .inK (by simp only [InK]; simp at hg; omega) | exact .wr | constructor | decide | omega))))
    | refine dpickAnd rfl rfl rfl rfl rfl ?_ | refine dpickOr rfl rfl rfl rfl rfl ?_
    | (apply dt rfl; case h => first | exact S_compl rfl | exact S_alloc _ rfl | exact S_box _ rfl rfl)
    | (apply ds; case h => first | exact S_compl rfl | exact S_store rfl rfl rfl rfl rfl rfl)
    | (apply dm rfl; case h => first | exact S_compl rfl | exact M_d rfl | exact S_alloc 2001 rfl | exact S_alloc 2002 rfl | exact S_alloc 2003 rfl | exact S_alloc 2004 rfl | exact S_alloc 2005 rfl)
    | fail)
    exact retN (.tmp rfl (.inl rfl) (.tmp rfl (.inr (.int _ _)) (.tmp rfl (.inr (.int _ _)) .nil))) rfl
end Go.Proofs.Ytkppkgahdoglpaa
