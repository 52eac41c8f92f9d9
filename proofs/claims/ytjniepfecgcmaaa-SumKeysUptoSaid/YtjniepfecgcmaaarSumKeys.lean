/-
  hedgerow/hedgelaw1.SumKeys: whatever the input: the call returns true, and its arguments read afterwards as they read before.
  Proved for every input whose arguments hold together at most 1048576 values and letters.
-/
import Derived.Test.YtjniepfecgcmaaafSu3
import Derived.Test.YtjniepfecgcmaaahByB
import Derived.Test.YtjniepfecgcmaaahSh
import Derived.Test.YtjniepfecgcmaaaRows
import Derived.Test.YtjniepfecgcmaaaChecked
import Derived.ProofKit
import Derived.JoinedCond
namespace Go.Proofs.Ytjniepfecgcmaaa
open Go.ChangeShapes Go.WideShapes Go.ChangeAt Go.RowKit

theorem sumKeys_pure (vss : List (List V)) (h : AllSh vss [[.slice [.int .u8]], [.int .i64], [.slice [.int .u8]]]) (hbulk : bulkLL vss ≤ 1048576) : FnF Try.prog 12 (parsV Try.prog Try.f12.params.toList vss) (.bool true) := by
  match vss, h with
  | [x, m, y], ⟨hx, hm, hy, _⟩ =>
    obtain ⟨k, rfl, _⟩ := par_bytes hx
    obtain ⟨n, rfl, _⟩ := par_int hm
    obtain ⟨b, rfl, _⟩ := par_bytes hy
    have k1 := bulk_bytes k
    have k2 := bulk_bytes b
    simp only [bulkLL, bulkL] at hbulk
    exact law_SumKeys k b n (by omega) (by omega)

set_option maxRecDepth 100000 in
theorem sumKeys_lifted (os : Os) (started : os.Started) (H : Type) (enc : TypeId × Value → H) (F : Stop.Interp) :
    ReturnsInHanded {} Try.checked os 12 .any ((Rows.OpenSpec.upto Rows.sumKeysSpec).pre6 enc Try.prog Try.f12 Rows.sumKeysUptoRow.domain false) (((Rows.OpenSpec.upto Rows.sumKeysSpec).at F).post enc Try.prog Try.f12 false true false false) := by
  refine returnsInHanded_of_cond (C := Try.checked) (s := Rows.OpenSpec.upto Rows.sumKeysSpec) (k := Rows.uptoSmall) rfl noKnob started (by kernel_rfl) Try.func12
    (OpenSpec.witness (enc := enc) (C := Try.checked) (s := Rows.OpenSpec.upto Rows.sumKeysSpec) (k := Rows.uptoSmall) rfl false ⟨#[], #[.slice none 0 0, .int .i64 0, .slice none 0 0], []⟩ 8 (by kernel_rfl) (by kernel_rfl) (by kernel_rfl)
      (x := ([.nil, .lit (.int .i64 0), .nil], [], [])) (by kernel_rfl) rfl (by kernel_rfl)) ?_
  intro W base args ds gs before hval hW _ hk _
  have hk' : Rows.uptoBulkAll (ds ++ gs) ≤ 1048576 := of_decide_eq_true hk
  refine contract_of (P := Try.prog) (s := Rows.sumKeysSpec) (n := 9) (tb := 4) (sss := [[.slice [.int .u8]], [.int .i64], [.slice [.int .u8]]]) kids full (by kernel_rfl) (by kernel_rfl) rfl Try.underlying4 rfl ?_ hval hW (fun vss h hb => sumKeys_pure vss h (Nat.le_trans hb hk'))
  intro ds hl
  match ds, hl with
  | [d0, d1, d2], _ => rfl

theorem sumKeys_holds : Rows.SumKeysUptoSaid :=
  OpenClaim.holds_of_cond 12 Try.f12 rfl rfl rfl rfl rfl rfl rfl ⟨rfl, rfl, rfl, rfl, rfl⟩ rfl rfl rfl rfl rfl (by kernel_rfl) Try.func12 (by kernel_rfl)
    (of_decide_eq_true (by kernel_rfl)) (by unfold Func.isWrapper; first | (rw [if_pos (by decide +kernel)]; kernel_rfl) | (rw [if_neg (by decide +kernel)]; exact ⟨rfl, rfl⟩))
    (fun os started H enc _ F => sumKeys_lifted os started H enc F)
end Go.Proofs.Ytjniepfecgcmaaa
