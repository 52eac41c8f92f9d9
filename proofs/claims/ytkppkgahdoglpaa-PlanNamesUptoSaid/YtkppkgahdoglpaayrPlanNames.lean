/-
  hedgerow/hedgelaw6.PlanNames: whatever the input: the call returns true, and its arguments read afterwards as they read before.
  Proved for every input whose arguments hold together at most 1048576 values and letters.
-/
import Derived.JoinedCond
import Derived.ProofKit
import Derived.Test.YtkppkgahdoglpaaChecked
import Derived.Test.YtkppkgahdoglpaaRows
import Derived.Test.YtkppkgahdoglpaayfPlN
import Derived.Test.YtkppkgahdoglpaayhNeI
namespace Go.Proofs.Ytkppkgahdoglpaa
open Go.ChangeShapes Go.WideShapes Go.ChangeAt Go.RowKit
set_option maxRecDepth 100000 in
theorem planNames_pure (vss : List (List V)) (h : AllSh vss [[.slice [.int .u64, .slice [.int .i64], .str, .int .i64, .slice [.int .i64, .int .i64]], .slice [.int .i64, .int .i64, .int .i64, .int .i64, .int .i64, .bool]], [.int .i64]]) (hbulk : bulkLL vss ≤ 1048576) : FnF Try.prog 8 (parsV Try.prog Try.f8.params.toList vss) (.bool true) := by
  match vss, h with
  | [x, y], ⟨hx, hy, _⟩ =>
    simp only [bulkLL] at hbulk
    obtain ⟨n, rfl, ht, hI, hb, hl⟩ := par_netI hx (by omega)
    obtain ⟨t, rfl, _⟩ := par_int hy
    exact law_PlanNames n ht hI hb hl t
set_option maxRecDepth 100000 in
theorem planNames_lifted (os : Os) (started : os.Started) (H : Type) (enc : TypeId × Value → H) (F : Stop.Interp) :
    ReturnsInHanded {} Try.checked os 8 .any ((Rows.OpenSpec.upto Rows.planNamesSpec).pre6 enc Try.prog Try.f8 Rows.planNamesUptoRow.domain false) (((Rows.OpenSpec.upto Rows.planNamesSpec).at F).post enc Try.prog Try.f8 false true false false) := by
  refine returnsInHanded_of_cond (C := Try.checked) (s := Rows.OpenSpec.upto Rows.planNamesSpec) (k := Rows.uptoSmall) rfl noKnob started (by kernel_rfl) Try.func8
    (OpenSpec.witness (enc := enc) (C := Try.checked) (s := Rows.OpenSpec.upto Rows.planNamesSpec) (k := Rows.uptoSmall) rfl false ⟨#[], #[.agg #[.slice none 0 0, .slice none 0 0], .int .i64 0], []⟩ 8 (by kernel_rfl) (by kernel_rfl) (by kernel_rfl)
      (x := ([.agg [.nil, .nil], .lit (.int .i64 0)], [], [])) (by kernel_rfl) rfl (by kernel_rfl)) ?_
  intro W base args ds gs before hval hW _ hk _
  have hk' : Rows.uptoBulkAll (ds ++ gs) ≤ 1048576 := of_decide_eq_true hk
  refine contract_of (P := Try.prog) (s := Rows.planNamesSpec) (n := 9) (tb := 4) (sss := [[.slice [.int .u64, .slice [.int .i64], .str, .int .i64, .slice [.int .i64, .int .i64]], .slice [.int .i64, .int .i64, .int .i64, .int .i64, .int .i64, .bool]], [.int .i64]]) kids full (by kernel_rfl) (by kernel_rfl) rfl Try.underlying4 rfl ?_ hval hW (fun vss h hb => planNames_pure vss h (Nat.le_trans hb hk'))
  intro ds hl
  match ds, hl with
  | [d0, d1], _ => rfl
theorem planNames_holds : Rows.PlanNamesUptoSaid :=
  OpenClaim.holds_of_cond 8 Try.f8 rfl rfl rfl rfl rfl rfl rfl ⟨rfl, rfl, rfl, rfl, rfl⟩ rfl rfl rfl rfl rfl (by kernel_rfl) Try.func8 (by kernel_rfl)
    (of_decide_eq_true (by kernel_rfl)) (by unfold Func.isWrapper; first | (rw [if_pos (by decide +kernel)]; kernel_rfl) | (rw [if_neg (by decide +kernel)]; exact ⟨rfl, rfl⟩))
    (fun os started H enc _ F => planNames_lifted os started H enc F)
end Go.Proofs.Ytkppkgahdoglpaa
