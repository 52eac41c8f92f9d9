/-
  hedgerow/hedgelaw2.FrameSize: whatever the input: the call returns true, and its arguments read afterwards as they read before.
  Proved for every input whose arguments hold together at most 1048576 values and letters.
-/
import Derived.Test.YtjniepfecgcmaaafFrN
import Derived.Test.YtjniepfecgcmaaahByt
import Derived.Test.YtjniepfecgcmaaahSh
import Derived.Test.YtjniepfecgcmaaaRows
import Derived.Test.YtjniepfecgcmaaaChecked
import Derived.ProofKit
import Derived.JoinedCond
namespace Go.Proofs.Ytjniepfecgcmaaa
open Go.ChangeShapes Go.WideShapes Go.ChangeAt Go.RowKit

theorem frameSize_pure (vss : List (List V)) (h : AllSh vss [[.int .u64, .int .u64, .bool, .int .i64, .bool, .int .i64, .int .i64, .slice [.int .u8]], [.int .i64]]) (hbulk : bulkLL vss ≤ 1048576) : FnF Try.prog 9 (parsV Try.prog Try.f9.params.toList vss) (.bool true) := by
  match vss, h with
  | [x, y], ⟨hx, hy, _⟩ =>
    obtain ⟨f, rfl, hf⟩ := frame_of_sh hx
    obtain ⟨a, rfl, ha⟩ := par_int hy
    have k1 := bulk_frame f
    simp only [bulkLL, bulkL] at hbulk
    exact law_FrameSize f a (hf (by omega))

set_option maxRecDepth 100000 in
theorem frameSize_lifted (os : Os) (started : os.Started) (H : Type) (enc : TypeId × Value → H) (F : Stop.Interp) :
    ReturnsInHanded {} Try.checked os 9 .any ((Rows.OpenSpec.upto Rows.frameSizeSpec).pre6 enc Try.prog Try.f9 Rows.frameSizeUptoRow.domain false) (((Rows.OpenSpec.upto Rows.frameSizeSpec).at F).post enc Try.prog Try.f9 false true false false) := by
  refine returnsInHanded_of_cond (C := Try.checked) (s := Rows.OpenSpec.upto Rows.frameSizeSpec) (k := Rows.uptoSmall) rfl noKnob started (by kernel_rfl) Try.func9
    (OpenSpec.witness (enc := enc) (C := Try.checked) (s := Rows.OpenSpec.upto Rows.frameSizeSpec) (k := Rows.uptoSmall) rfl false ⟨#[], #[.agg #[.int .u64 0, .int .u64 0, .bool false, .int .i64 0, .bool false, .int .i64 0, .int .i64 0, .slice none 0 0], .int .i64 0], []⟩ 8 (by kernel_rfl) (by kernel_rfl) (by kernel_rfl)
      (x := ([.agg [.lit (.int .u64 0), .lit (.int .u64 0), .lit (.bool false), .lit (.int .i64 0), .lit (.bool false), .lit (.int .i64 0), .lit (.int .i64 0), .nil], .lit (.int .i64 0)], [], [])) (by kernel_rfl) rfl (by kernel_rfl)) ?_
  intro W base args ds gs before hval hW _ hk _
  have hk' : Rows.uptoBulkAll (ds ++ gs) ≤ 1048576 := of_decide_eq_true hk
  refine contract_of (P := Try.prog) (s := Rows.frameSizeSpec) (n := 9) (tb := 4) (sss := [[.int .u64, .int .u64, .bool, .int .i64, .bool, .int .i64, .int .i64, .slice [.int .u8]], [.int .i64]]) kids full (by kernel_rfl) (by kernel_rfl) rfl Try.underlying4 rfl ?_ hval hW (fun vss h hb => frameSize_pure vss h (Nat.le_trans hb hk'))
  intro ds hl
  match ds, hl with
  | [d0, d1], _ => rfl

theorem frameSize_holds : Rows.FrameSizeUptoSaid :=
  OpenClaim.holds_of_cond 9 Try.f9 rfl rfl rfl rfl rfl rfl rfl ⟨rfl, rfl, rfl, rfl, rfl⟩ rfl rfl rfl rfl rfl (by kernel_rfl) Try.func9 (by kernel_rfl)
    (of_decide_eq_true (by kernel_rfl)) (by unfold Func.isWrapper; first | (rw [if_pos (by decide +kernel)]; kernel_rfl) | (rw [if_neg (by decide +kernel)]; exact ⟨rfl, rfl⟩))
    (fun os started H enc _ F => frameSize_lifted os started H enc F)
end Go.Proofs.Ytjniepfecgcmaaa
