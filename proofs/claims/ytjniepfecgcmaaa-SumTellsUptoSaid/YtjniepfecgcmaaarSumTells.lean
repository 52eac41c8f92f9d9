/-
  hedgerow/hedgelaw1.SumTells: whatever the input: the call returns true, and its arguments read afterwards as they read before.
  Proved for every input whose arguments hold together at most 1048576 values and letters.
-/
import Derived.Test.YtjniepfecgcmaaafSul
import Derived.Test.YtjniepfecgcmaaahByB
import Derived.Test.YtjniepfecgcmaaahSh
import Derived.Test.YtjniepfecgcmaaaRows
import Derived.Test.YtjniepfecgcmaaaChecked
import Derived.ProofKit
import Derived.JoinedCond
namespace Go.Proofs.Ytjniepfecgcmaaa
open Go.ChangeShapes Go.WideShapes Go.ChangeAt Go.RowKit

theorem sumTells_pure (vss : List (List V)) (h : AllSh vss [[.slice [.int .u8]], [.slice [.int .u8]]]) (hbulk : bulkLL vss ≤ 1048576) : FnF Try.prog 10 (parsV Try.prog Try.f10.params.toList vss) (.bool true) := by
  match vss, h with
  | [x, y], ⟨hx, hy, _⟩ =>
    obtain ⟨k, rfl, _⟩ := par_bytes hx
    obtain ⟨b, rfl, _⟩ := par_bytes hy
    have k1 := bulk_bytes k
    have k2 := bulk_bytes b
    simp only [bulkLL, bulkL] at hbulk
    exact law_SumTells k b (by omega) (by omega)

set_option maxRecDepth 100000 in
theorem sumTells_lifted (os : Os) (started : os.Started) (H : Type) (enc : TypeId × Value → H) (F : Stop.Interp) :
    ReturnsInHanded {} Try.checked os 10 .any ((Rows.OpenSpec.upto Rows.sumTellsSpec).pre6 enc Try.prog Try.f10 Rows.sumTellsUptoRow.domain false) (((Rows.OpenSpec.upto Rows.sumTellsSpec).at F).post enc Try.prog Try.f10 false true false false) := by
  refine returnsInHanded_of_cond (C := Try.checked) (s := Rows.OpenSpec.upto Rows.sumTellsSpec) (k := Rows.uptoSmall) rfl noKnob started (by kernel_rfl) Try.func10
    (OpenSpec.witness (enc := enc) (C := Try.checked) (s := Rows.OpenSpec.upto Rows.sumTellsSpec) (k := Rows.uptoSmall) rfl false ⟨#[], #[.slice none 0 0, .slice none 0 0], []⟩ 8 (by kernel_rfl) (by kernel_rfl) (by kernel_rfl)
      (x := ([.nil, .nil], [], [])) (by kernel_rfl) rfl (by kernel_rfl)) ?_
  intro W base args ds gs before hval hW _ hk _
  have hk' : Rows.uptoBulkAll (ds ++ gs) ≤ 1048576 := of_decide_eq_true hk
  refine contract_of (P := Try.prog) (s := Rows.sumTellsSpec) (n := 9) (tb := 4) (sss := [[.slice [.int .u8]], [.slice [.int .u8]]]) kids full (by kernel_rfl) (by kernel_rfl) rfl Try.underlying4 rfl ?_ hval hW (fun vss h hb => sumTells_pure vss h (Nat.le_trans hb hk'))
  intro ds hl
  match ds, hl with
  | [d0, d1], _ => rfl

theorem sumTells_holds : Rows.SumTellsUptoSaid :=
  OpenClaim.holds_of_cond 10 Try.f10 rfl rfl rfl rfl rfl rfl rfl ⟨rfl, rfl, rfl, rfl, rfl⟩ rfl rfl rfl rfl rfl (by kernel_rfl) Try.func10 (by kernel_rfl)
    (of_decide_eq_true (by kernel_rfl)) (by unfold Func.isWrapper; first | (rw [if_pos (by decide +kernel)]; kernel_rfl) | (rw [if_neg (by decide +kernel)]; exact ⟨rfl, rfl⟩))
    (fun os started H enc _ F => sumTells_lifted os started H enc F)
end Go.Proofs.Ytjniepfecgcmaaa
