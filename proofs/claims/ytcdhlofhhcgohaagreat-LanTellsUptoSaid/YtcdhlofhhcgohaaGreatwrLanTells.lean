/-
  hedgerow/hedgelaw10.LanTells: whatever the input: the call returns true, and its arguments read afterwards as they read before.
  Proved for every input whose arguments hold together at most 1048576 values and letters.
-/
import Derived.JoinedCond
import Derived.ProofKit
import Derived.Test.YtcdhlofhhcgohaaGreatChecked
import Derived.Test.YtcdhlofhhcgohaaGreatRows
import Derived.Test.YtcdhlofhhcgohaaGreatwfLanTells
import Derived.Test.YtcdhlofhhcgohaaGreatwhLan
namespace Go.Proofs.YtcdhlofhhcgohaaGreat
open Go.ChangeShapes Go.WideShapes Go.ChangeAt Go.RowKit
set_option maxRecDepth 100000 in
theorem zjK (vss : List (List V)) (h : zqk vss [[.slice [.int .u64, .slice [.int .i64], .str, .int .i64, .slice [.int .i64, .int .i64]], .slice [.int .i64, .int .i64, .int .i64, .int .i64, .int .i64, .bool]], [.int .i64], [.slice [.int .i64, .int .i64, .int .i64, .int .i64]], [.slice [.slice [.int .i64, .int .u64, .int .i64, .int .i64]]], [.int .i64], [.int .i64], [.int .u64, .int .u64, .bool, .int .i64, .bool, .int .i64, .int .i64, .slice [.int .u8]]]) (hbulk : zcm vss ≤ 1048576) : FnF Tryz.prog 4 (zhW Tryz.prog Tryz.f4.params.toList vss) (.bool true) := by
 match vss, h with
 | [x, y, z, w, a, b, c], ⟨hx, hy, hz, hw, ha, hb, hc, _⟩ =>
  simp only [zcm] at hbulk
  obtain ⟨n, rfl, ht, _⟩ := zqn hx
  obtain ⟨t, rfl, _⟩ := zdN hy
  obtain ⟨l, rfl⟩ := zmi hz
  obtain ⟨bs, rfl, hb1, hb2⟩ := zqp hw (by omega)
  obtain ⟨frm, rfl, _⟩ := zdN ha
  obtain ⟨vid, rfl, _⟩ := zdN hb
  obtain ⟨f, rfl, hf⟩ := zle hc
  exact zlc n ht t l bs hb1 hb2 frm vid f hf
set_option maxRecDepth 100000 in
theorem zhJ (os : Os) (started : os.Started) (H : Type) (enc : TypeId × Value → H) (F : Stop.Interp) :
  ReturnsInHanded {} Tryz.checked os 4 .any ((Rows.OpenSpec.upto Rows.lanTellsSpec).pre6 enc Tryz.prog Tryz.f4 Rows.lanTellsUptoRow.domain false) (((Rows.OpenSpec.upto Rows.lanTellsSpec).at F).post enc Tryz.prog Tryz.f4 false true false false) := by
 refine returnsInHanded_of_cond (C := Tryz.checked) (s := Rows.OpenSpec.upto Rows.lanTellsSpec) (k := Rows.uptoSmall) rfl zsj started (by kernel_rfl) Tryz.func4
  (OpenSpec.witness (enc := enc) (C := Tryz.checked) (s := Rows.OpenSpec.upto Rows.lanTellsSpec) (k := Rows.uptoSmall) rfl false ⟨#[], #[.agg #[.slice none 0 0, .slice none 0 0], .int .i64 0, .slice none 0 0, .slice none 0 0, .int .i64 0, .int .i64 0, .agg #[.int .u64 0, .int .u64 0, .bool false, .int .i64 0, .bool false, .int .i64 0, .int .i64 0, .slice none 0 0]], []⟩ 8 (by kernel_rfl) (by kernel_rfl) (by kernel_rfl)
   (x := ([.agg [.nil, .nil], .lit (.int .i64 0), .nil, .nil, .lit (.int .i64 0), .lit (.int .i64 0), .agg [.lit (.int .u64 0), .lit (.int .u64 0), .lit (.bool false), .lit (.int .i64 0), .lit (.bool false), .lit (.int .i64 0), .lit (.int .i64 0), .nil]], [], [])) (by kernel_rfl) rfl (by kernel_rfl)) ?_
 intro W base args ds gs before hval hW _ hk _
 have hk' : Rows.uptoBulkAll (ds ++ gs) ≤ 1048576 := of_decide_eq_true hk
 refine zhH (P := Tryz.prog) (s := Rows.lanTellsSpec) (n := 9) (tb := 4) (sss := [[.slice [.int .u64, .slice [.int .i64], .str, .int .i64, .slice [.int .i64, .int .i64]], .slice [.int .i64, .int .i64, .int .i64, .int .i64, .int .i64, .bool]], [.int .i64], [.slice [.int .i64, .int .i64, .int .i64, .int .i64]], [.slice [.slice [.int .i64, .int .u64, .int .i64, .int .i64]]], [.int .i64], [.int .i64], [.int .u64, .int .u64, .bool, .int .i64, .bool, .int .i64, .int .i64, .slice [.int .u8]]]) kids full (by kernel_rfl) (by kernel_rfl) rfl Tryz.underlying4 rfl ?_ hval hW (fun vss h hb => zjK vss h (Nat.le_trans hb hk'))
 intro ds hl
 match ds, hl with
 | [d0, d1, d2, d3, d4, d5, d6], _ => rfl
theorem lanTells_holds : Rows.LanTellsUptoSaid :=
 OpenClaim.holds_of_cond 4 Tryz.f4 rfl rfl rfl rfl rfl rfl rfl ⟨rfl, rfl, rfl, rfl, rfl⟩ rfl rfl rfl rfl rfl (by kernel_rfl) Tryz.func4 (by kernel_rfl)
  (of_decide_eq_true (by kernel_rfl)) (by unfold Func.isWrapper; first | (rw [if_pos (by decide +kernel)]; kernel_rfl) | (rw [if_neg (by decide +kernel)]; exact ⟨rfl, rfl⟩))
  (fun os started H enc _ F => zhJ os started H enc F)
end Go.Proofs.YtcdhlofhhcgohaaGreat
