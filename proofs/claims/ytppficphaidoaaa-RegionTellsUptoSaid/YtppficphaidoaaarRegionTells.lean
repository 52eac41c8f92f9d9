/-
  hedgerow/hedgelaw3.RegionTells: whatever the input: the call returns true, and its arguments read afterwards as they read before.
  Proved for every input whose arguments hold together at most 1048576 values and letters.
-/
import Derived.Test.YtppficphaidoaaafReg
import Derived.Test.YtppficphaidoaaahReg
import Derived.Test.YtppficphaidoaaahSh
import Derived.Test.YtppficphaidoaaaRows
import Derived.Test.YtppficphaidoaaaChecked
import Derived.ProofKit
import Derived.JoinedCond
namespace Go.Proofs.Ytppficphaidoaaa
open Go.ChangeShapes Go.WideShapes Go.ChangeAt Go.RowKit

theorem regionTells_pure (vss : List (List V)) (h : AllSh vss [[.str, .int .i64, .slice [.int .i64, .int .i64]], [.str, .int .i64, .slice [.int .i64, .int .i64]], [.int .i64]]) (hbulk : bulkLL vss ≤ 1048576) : FnF Try.prog 4 (parsV Try.prog Try.f4.params.toList vss) (.bool true) := by
  match vss, h with
  | [x, y, z], ⟨hx, hy, hz, _⟩ =>
    simp only [bulkLL] at hbulk
    obtain ⟨a, rfl, ha⟩ := region_of_sh hx (by omega)
    obtain ⟨b, rfl, hb⟩ := region_of_sh hy (by omega)
    obtain ⟨v, rfl, hv⟩ := par_int hz
    exact law_RegionTells a b v ha hb (wf_i64 hv)

set_option maxRecDepth 100000 in
theorem regionTells_lifted (os : Os) (started : os.Started) (H : Type) (enc : TypeId × Value → H) (F : Stop.Interp) :
    ReturnsInHanded {} Try.checked os 4 .any ((Rows.OpenSpec.upto Rows.regionTellsSpec).pre6 enc Try.prog Try.f4 Rows.regionTellsUptoRow.domain false) (((Rows.OpenSpec.upto Rows.regionTellsSpec).at F).post enc Try.prog Try.f4 false true false false) := by
  refine returnsInHanded_of_cond (C := Try.checked) (s := Rows.OpenSpec.upto Rows.regionTellsSpec) (k := Rows.uptoSmall) rfl noKnob started (by kernel_rfl) Try.func4
    (OpenSpec.witness (enc := enc) (C := Try.checked) (s := Rows.OpenSpec.upto Rows.regionTellsSpec) (k := Rows.uptoSmall) rfl false ⟨#[], #[.agg #[.string ⟨#[]⟩, .int .i64 0, .slice none 0 0], .agg #[.string ⟨#[]⟩, .int .i64 0, .slice none 0 0], .int .i64 0], []⟩ 8 (by kernel_rfl) (by kernel_rfl) (by kernel_rfl)
      (x := ([.agg [.lit (.string []), .lit (.int .i64 0), .nil], .agg [.lit (.string []), .lit (.int .i64 0), .nil], .lit (.int .i64 0)], [], [])) (by kernel_rfl) rfl (by kernel_rfl)) ?_
  intro W base args ds gs before hval hW _ hk _
  have hk' : Rows.uptoBulkAll (ds ++ gs) ≤ 1048576 := of_decide_eq_true hk
  refine contract_of (P := Try.prog) (s := Rows.regionTellsSpec) (n := 9) (tb := 4) (sss := [[.str, .int .i64, .slice [.int .i64, .int .i64]], [.str, .int .i64, .slice [.int .i64, .int .i64]], [.int .i64]]) kids full (by kernel_rfl) (by kernel_rfl) rfl Try.underlying4 rfl ?_ hval hW (fun vss h hb => regionTells_pure vss h (Nat.le_trans hb hk'))
  intro ds hl
  match ds, hl with
  | [d0, d1, d2], _ => rfl

theorem regionTells_holds : Rows.RegionTellsUptoSaid :=
  OpenClaim.holds_of_cond 4 Try.f4 rfl rfl rfl rfl rfl rfl rfl ⟨rfl, rfl, rfl, rfl, rfl⟩ rfl rfl rfl rfl rfl (by kernel_rfl) Try.func4 (by kernel_rfl)
    (of_decide_eq_true (by kernel_rfl)) (by unfold Func.isWrapper; first | (rw [if_pos (by decide +kernel)]; kernel_rfl) | (rw [if_neg (by decide +kernel)]; exact ⟨rfl, rfl⟩))
    (fun os started H enc _ F => regionTells_lifted os started H enc F)
end Go.Proofs.Ytppficphaidoaaa
