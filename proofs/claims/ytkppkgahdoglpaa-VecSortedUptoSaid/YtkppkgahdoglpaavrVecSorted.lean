/-
  hedgerow/hedgelaw5.VecSorted: whatever the input: the call returns true, and its arguments read afterwards as they read before.
  Proved for every input whose arguments hold together at most 1048576 values and letters.
-/
import Derived.JoinedCond
import Derived.ProofKit
import Derived.Test.YtkppkgahdoglpaaChecked
import Derived.Test.YtkppkgahdoglpaaRows
import Derived.Test.YtkppkgahdoglpaavfVso
import Derived.Test.YtkppkgahdoglpaavhSh
import Derived.Test.YtkppkgahdoglpaavhVec
namespace Go.Proofs.Ytkppkgahdoglpaa
open Go.ChangeShapes Go.WideShapes Go.ChangeAt Go.RowKit
set_option maxRecDepth 100000 in
theorem vecSorted_pure (vss : List (List V)) (h : AllSh vss [[.slice [.int .u64, .int .i64, .int .u64, .int .i64]]]) (hbulk : bulkLL vss ≤ 1048576) : FnF Try.prog 11 (parsV Try.prog Try.f11.params.toList vss) (.bool true) := by
  match vss, h with
  | [x], ⟨hx, _⟩ =>
    obtain ⟨l, rfl, _⟩ := par_slice (fun e => vec_of_sh) hx
    refine law_VecSorted l ?_
    have h1 := bulk_len (l.map Vec.cells) (by simp [Vec.cells])
    simp only [bulkLL, bulkL, V.bulk, List.length_map] at hbulk h1
    omega
set_option maxRecDepth 100000 in
theorem vecSorted_lifted (os : Os) (started : os.Started) (H : Type) (enc : TypeId × Value → H) (F : Stop.Interp) :
    ReturnsInHanded {} Try.checked os 11 .any ((Rows.OpenSpec.upto Rows.vecSortedSpec).pre6 enc Try.prog Try.f11 Rows.vecSortedUptoRow.domain false) (((Rows.OpenSpec.upto Rows.vecSortedSpec).at F).post enc Try.prog Try.f11 false true false false) := by
  refine returnsInHanded_of_cond (C := Try.checked) (s := Rows.OpenSpec.upto Rows.vecSortedSpec) (k := Rows.uptoSmall) rfl noKnob started (by kernel_rfl) Try.func11
    (OpenSpec.witness (enc := enc) (C := Try.checked) (s := Rows.OpenSpec.upto Rows.vecSortedSpec) (k := Rows.uptoSmall) rfl false ⟨#[], #[.slice none 0 0], []⟩ 8 (by kernel_rfl) (by kernel_rfl) (by kernel_rfl)
      (x := ([.nil], [], [])) (by kernel_rfl) rfl (by kernel_rfl)) ?_
  intro W base args ds gs before hval hW _ hk _
  have hk' : Rows.uptoBulkAll (ds ++ gs) ≤ 1048576 := of_decide_eq_true hk
  refine contract_of (P := Try.prog) (s := Rows.vecSortedSpec) (n := 9) (tb := 4) (sss := [[.slice [.int .u64, .int .i64, .int .u64, .int .i64]]]) kids full (by kernel_rfl) (by kernel_rfl) rfl Try.underlying4 rfl ?_ hval hW (fun vss h hb => vecSorted_pure vss h (Nat.le_trans hb hk'))
  intro ds hl
  match ds, hl with
  | [d0], _ => rfl
theorem vecSorted_holds : Rows.VecSortedUptoSaid :=
  OpenClaim.holds_of_cond 11 Try.f11 rfl rfl rfl rfl rfl rfl rfl ⟨rfl, rfl, rfl, rfl, rfl⟩ rfl rfl rfl rfl rfl (by kernel_rfl) Try.func11 (by kernel_rfl)
    (of_decide_eq_true (by kernel_rfl)) (by unfold Func.isWrapper; first | (rw [if_pos (by decide +kernel)]; kernel_rfl) | (rw [if_neg (by decide +kernel)]; exact ⟨rfl, rfl⟩))
    (fun os started H enc _ F => vecSorted_lifted os started H enc F)
end Go.Proofs.Ytkppkgahdoglpaa
