/-
  hedgerow/hedgetop.TopFirst: whatever the input: the call returns true, and its arguments read afterwards as they read before.
  Proved for every input whose arguments hold together at most 1048576 values and letters.
-/
import Derived.JoinedCond
import Derived.ProofKit
import Derived.Test.YtcdhlofhhcgohaaGreatChecked
import Derived.Test.YtcdhlofhhcgohaaGreatRows
import Derived.Test.YtcdhlofhhcgohaaGreatxfTopFirst
import Derived.Test.YtcdhlofhhcgohaaGreatxhTlk
namespace Go.Proofs.YtcdhlofhhcgohaaGreat
open Go.ChangeShapes Go.WideShapes Go.ChangeAt Go.RowKit
set_option maxRecDepth 100000 in
theorem topFirst_pure (vss : List (List V)) (h : AllSh vss [[.slice [.int .u64, .slice [.int .i64], .str, .int .i64, .slice [.int .i64, .int .i64]], .slice [.int .i64, .int .i64, .int .i64, .int .i64, .int .i64, .bool]], [.int .i64], [.int .i64], [.int .i64]]) (hbulk : bulkLL vss ≤ 1048576) : FnF Tryz.prog 7 (parsV Tryz.prog Tryz.f7.params.toList vss) (.bool true) := by
 match vss, h with
 | [x, y, z, w], ⟨hx, hy, hz, hw, _⟩ =>
  simp only [bulkLL] at hbulk
  obtain ⟨n, rfl, ht, hnl, _⟩ := par_netB hx (by omega)
  obtain ⟨t, rfl, _⟩ := par_int hy
  obtain ⟨b, rfl, _⟩ := par_int hz
  obtain ⟨k, rfl, _⟩ := par_int hw
  exact law_TopFirst n ht t b k hnl
set_option maxRecDepth 100000 in
theorem topFirst_lifted (os : Os) (started : os.Started) (H : Type) (enc : TypeId × Value → H) (F : Stop.Interp) :
  ReturnsInHanded {} Tryz.checked os 7 .any ((Rows.OpenSpec.upto Rows.topFirstSpec).pre6 enc Tryz.prog Tryz.f7 Rows.topFirstUptoRow.domain false) (((Rows.OpenSpec.upto Rows.topFirstSpec).at F).post enc Tryz.prog Tryz.f7 false true false false) := by
 refine returnsInHanded_of_cond (C := Tryz.checked) (s := Rows.OpenSpec.upto Rows.topFirstSpec) (k := Rows.uptoSmall) rfl noKnob started (by kernel_rfl) Tryz.func7
  (OpenSpec.witness (enc := enc) (C := Tryz.checked) (s := Rows.OpenSpec.upto Rows.topFirstSpec) (k := Rows.uptoSmall) rfl false ⟨#[], #[.agg #[.slice none 0 0, .slice none 0 0], .int .i64 0, .int .i64 0, .int .i64 0], []⟩ 8 (by kernel_rfl) (by kernel_rfl) (by kernel_rfl)
   (x := ([.agg [.nil, .nil], .lit (.int .i64 0), .lit (.int .i64 0), .lit (.int .i64 0)], [], [])) (by kernel_rfl) rfl (by kernel_rfl)) ?_
 intro W base args ds gs before hval hW _ hk _
 have hk' : Rows.uptoBulkAll (ds ++ gs) ≤ 1048576 := of_decide_eq_true hk
 refine contract_of (P := Tryz.prog) (s := Rows.topFirstSpec) (n := 9) (tb := 4) (sss := [[.slice [.int .u64, .slice [.int .i64], .str, .int .i64, .slice [.int .i64, .int .i64]], .slice [.int .i64, .int .i64, .int .i64, .int .i64, .int .i64, .bool]], [.int .i64], [.int .i64], [.int .i64]]) kids full (by kernel_rfl) (by kernel_rfl) rfl Tryz.underlying4 rfl ?_ hval hW (fun vss h hb => topFirst_pure vss h (Nat.le_trans hb hk'))
 intro ds hl
 match ds, hl with
 | [d0, d1, d2, d3], _ => rfl
theorem topFirst_holds : Rows.TopFirstUptoSaid :=
 OpenClaim.holds_of_cond 7 Tryz.f7 rfl rfl rfl rfl rfl rfl rfl ⟨rfl, rfl, rfl, rfl, rfl⟩ rfl rfl rfl rfl rfl (by kernel_rfl) Tryz.func7 (by kernel_rfl)
  (of_decide_eq_true (by kernel_rfl)) (by unfold Func.isWrapper; first | (rw [if_pos (by decide +kernel)]; kernel_rfl) | (rw [if_neg (by decide +kernel)]; exact ⟨rfl, rfl⟩))
  (fun os started H enc _ F => topFirst_lifted os started H enc F)
end Go.Proofs.YtcdhlofhhcgohaaGreat
