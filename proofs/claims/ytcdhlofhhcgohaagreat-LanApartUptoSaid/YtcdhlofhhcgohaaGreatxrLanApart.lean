/-
  hedgerow/hedgelaw10.LanApart: whatever the input: the call returns true, and its arguments read afterwards as they read before.
  Proved for every input whose arguments hold together at most 1048576 values and letters.
-/
import Derived.JoinedCond
import Derived.ProofKit
import Derived.Test.YtcdhlofhhcgohaaGreatChecked
import Derived.Test.YtcdhlofhhcgohaaGreatRows
import Derived.Test.YtcdhlofhhcgohaaGreatxfLanApart
import Derived.Test.YtcdhlofhhcgohaaGreatxhLan
import Derived.Test.YtcdhlofhhcgohaaGreatxhTlk
namespace Go.Proofs.YtcdhlofhhcgohaaGreat
open Go.ChangeShapes Go.WideShapes Go.ChangeAt Go.RowKit
set_option maxRecDepth 100000 in
theorem lanApart_pure (vss : List (List V)) (h : AllSh vss [[.slice [.int .u64, .slice [.int .i64], .str, .int .i64, .slice [.int .i64, .int .i64]], .slice [.int .i64, .int .i64, .int .i64, .int .i64, .int .i64, .bool]], [.int .i64], [.slice [.int .i64, .int .i64, .int .i64, .int .i64]], [.slice [.slice [.int .i64, .int .u64, .int .i64, .int .i64]]], [.int .i64], [.int .i64], [.int .u64, .int .u64, .bool, .int .i64, .bool, .int .i64, .int .i64, .slice [.int .u8]]]) (hbulk : bulkLL vss ≤ 1048576) : FnF Tryz.prog 5 (parsV Tryz.prog Tryz.f5.params.toList vss) (.bool true) := by
 match vss, h with
 | [x, y, z, w, a, b, c], ⟨hx, hy, hz, hw, ha, hb, hc, _⟩ =>
  simp only [bulkLL] at hbulk
  obtain ⟨n, rfl, ht, _⟩ := par_net hx
  obtain ⟨t, rfl, _⟩ := par_int hy
  obtain ⟨l, rfl⟩ := par_dos hz
  obtain ⟨bs, rfl, hb1, hb2⟩ := par_books hw (by omega)
  obtain ⟨frm, rfl, _⟩ := par_int ha
  obtain ⟨vid, rfl, _⟩ := par_int hb
  obtain ⟨f, rfl, hf⟩ := frame_of_shL hc
  exact law_LanApart n ht t l bs hb1 hb2 frm vid f hf
set_option maxRecDepth 100000 in
theorem lanApart_lifted (os : Os) (started : os.Started) (H : Type) (enc : TypeId × Value → H) (F : Stop.Interp) :
  ReturnsInHanded {} Tryz.checked os 5 .any ((Rows.OpenSpec.upto Rows.lanApartSpec).pre6 enc Tryz.prog Tryz.f5 Rows.lanApartUptoRow.domain false) (((Rows.OpenSpec.upto Rows.lanApartSpec).at F).post enc Tryz.prog Tryz.f5 false true false false) := by
 refine returnsInHanded_of_cond (C := Tryz.checked) (s := Rows.OpenSpec.upto Rows.lanApartSpec) (k := Rows.uptoSmall) rfl noKnob started (by kernel_rfl) Tryz.func5
  (OpenSpec.witness (enc := enc) (C := Tryz.checked) (s := Rows.OpenSpec.upto Rows.lanApartSpec) (k := Rows.uptoSmall) rfl false ⟨#[], #[.agg #[.slice none 0 0, .slice none 0 0], .int .i64 0, .slice none 0 0, .slice none 0 0, .int .i64 0, .int .i64 0, .agg #[.int .u64 0, .int .u64 0, .bool false, .int .i64 0, .bool false, .int .i64 0, .int .i64 0, .slice none 0 0]], []⟩ 8 (by kernel_rfl) (by kernel_rfl) (by kernel_rfl)
   (x := ([.agg [.nil, .nil], .lit (.int .i64 0), .nil, .nil, .lit (.int .i64 0), .lit (.int .i64 0), .agg [.lit (.int .u64 0), .lit (.int .u64 0), .lit (.bool false), .lit (.int .i64 0), .lit (.bool false), .lit (.int .i64 0), .lit (.int .i64 0), .nil]], [], [])) (by kernel_rfl) rfl (by kernel_rfl)) ?_
 intro W base args ds gs before hval hW _ hk _
 have hk' : Rows.uptoBulkAll (ds ++ gs) ≤ 1048576 := of_decide_eq_true hk
 refine contract_of (P := Tryz.prog) (s := Rows.lanApartSpec) (n := 9) (tb := 4) (sss := [[.slice [.int .u64, .slice [.int .i64], .str, .int .i64, .slice [.int .i64, .int .i64]], .slice [.int .i64, .int .i64, .int .i64, .int .i64, .int .i64, .bool]], [.int .i64], [.slice [.int .i64, .int .i64, .int .i64, .int .i64]], [.slice [.slice [.int .i64, .int .u64, .int .i64, .int .i64]]], [.int .i64], [.int .i64], [.int .u64, .int .u64, .bool, .int .i64, .bool, .int .i64, .int .i64, .slice [.int .u8]]]) kids full (by kernel_rfl) (by kernel_rfl) rfl Tryz.underlying4 rfl ?_ hval hW (fun vss h hb => lanApart_pure vss h (Nat.le_trans hb hk'))
 intro ds hl
 match ds, hl with
 | [d0, d1, d2, d3, d4, d5, d6], _ => rfl
theorem lanApart_holds : Rows.LanApartUptoSaid :=
 OpenClaim.holds_of_cond 5 Tryz.f5 rfl rfl rfl rfl rfl rfl rfl ⟨rfl, rfl, rfl, rfl, rfl⟩ rfl rfl rfl rfl rfl (by kernel_rfl) Tryz.func5 (by kernel_rfl)
  (of_decide_eq_true (by kernel_rfl)) (by unfold Func.isWrapper; first | (rw [if_pos (by decide +kernel)]; kernel_rfl) | (rw [if_neg (by decide +kernel)]; exact ⟨rfl, rfl⟩))
  (fun os started H enc _ F => lanApart_lifted os started H enc F)
end Go.Proofs.YtcdhlofhhcgohaaGreat
