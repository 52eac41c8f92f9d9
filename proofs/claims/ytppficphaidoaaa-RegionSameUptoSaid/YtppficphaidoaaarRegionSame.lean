/-
  hedgerow/hedgelaw3.RegionSame: whatever the input: the call returns true, and its arguments read afterwards as they read before.
  Proved for every input whose arguments hold together at most 1048576 values and letters.
-/
import Derived.Test.YtppficphaidoaaafReg
import Derived.Test.YtppficphaidoaaahReg
import Derived.Test.YtppficphaidoaaahSh
import Derived.Test.YtppficphaidoaaaRows
import Derived.Test.YtppficphaidoaaaChecked
import Derived.ProofKit
import Derived.JoinedCond
namespace Go.Proofs.Ytppficphaidoaaa
open Go.ChangeShapes Go.WideShapes Go.ChangeAt Go.RowKit

theorem regionSame_pure (vss : List (List V)) (h : AllSh vss [[.str, .int .i64, .slice [.int .i64, .int .i64]], [.str, .int .i64, .slice [.int .i64, .int .i64]]]) (hbulk : bulkLL vss ≤ 1048576) : FnF Try.prog 5 (parsV Try.prog Try.f5.params.toList vss) (.bool true) := by
  match vss, h with
  | [x, y], ⟨hx, hy, _⟩ =>
    simp only [bulkLL] at hbulk
    obtain ⟨a, rfl, ha⟩ := region_of_sh hx (by omega)
    obtain ⟨b, rfl, hb⟩ := region_of_sh hy (by omega)
    exact law_RegionSame a b ha hb

set_option maxRecDepth 100000 in
theorem regionSame_lifted (os : Os) (started : os.Started) (H : Type) (enc : TypeId × Value → H) (F : Stop.Interp) :
    ReturnsInHanded {} Try.checked os 5 .any ((Rows.OpenSpec.upto Rows.regionSameSpec).pre6 enc Try.prog Try.f5 Rows.regionSameUptoRow.domain false) (((Rows.OpenSpec.upto Rows.regionSameSpec).at F).post enc Try.prog Try.f5 false true false false) := by
  refine returnsInHanded_of_cond (C := Try.checked) (s := Rows.OpenSpec.upto Rows.regionSameSpec) (k := Rows.uptoSmall) rfl noKnob started (by kernel_rfl) Try.func5
    (OpenSpec.witness (enc := enc) (C := Try.checked) (s := Rows.OpenSpec.upto Rows.regionSameSpec) (k := Rows.uptoSmall) rfl false ⟨#[], #[.agg #[.string ⟨#[]⟩, .int .i64 0, .slice none 0 0], .agg #[.string ⟨#[]⟩, .int .i64 0, .slice none 0 0]], []⟩ 8 (by kernel_rfl) (by kernel_rfl) (by kernel_rfl)
      (x := ([.agg [.lit (.string []), .lit (.int .i64 0), .nil], .agg [.lit (.string []), .lit (.int .i64 0), .nil]], [], [])) (by kernel_rfl) rfl (by kernel_rfl)) ?_
  intro W base args ds gs before hval hW _ hk _
  have hk' : Rows.uptoBulkAll (ds ++ gs) ≤ 1048576 := of_decide_eq_true hk
  refine contract_of (P := Try.prog) (s := Rows.regionSameSpec) (n := 9) (tb := 4) (sss := [[.str, .int .i64, .slice [.int .i64, .int .i64]], [.str, .int .i64, .slice [.int .i64, .int .i64]]]) kids full (by kernel_rfl) (by kernel_rfl) rfl Try.underlying4 rfl ?_ hval hW (fun vss h hb => regionSame_pure vss h (Nat.le_trans hb hk'))
  intro ds hl
  match ds, hl with
  | [d0, d1], _ => rfl

theorem regionSame_holds : Rows.RegionSameUptoSaid :=
  OpenClaim.holds_of_cond 5 Try.f5 rfl rfl rfl rfl rfl rfl rfl ⟨rfl, rfl, rfl, rfl, rfl⟩ rfl rfl rfl rfl rfl (by kernel_rfl) Try.func5 (by kernel_rfl)
    (of_decide_eq_true (by kernel_rfl)) (by unfold Func.isWrapper; first | (rw [if_pos (by decide +kernel)]; kernel_rfl) | (rw [if_neg (by decide +kernel)]; exact ⟨rfl, rfl⟩))
    (fun os started H enc _ F => regionSame_lifted os started H enc F)
end Go.Proofs.Ytppficphaidoaaa
