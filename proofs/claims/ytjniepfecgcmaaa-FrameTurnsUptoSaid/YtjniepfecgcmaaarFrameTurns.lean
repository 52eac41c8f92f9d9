/-
  hedgerow/hedgelaw2.FrameTurns: whatever the input: the call returns true, and its arguments read afterwards as they read before.
  Proved for every input whose arguments hold together at most 1048576 values and letters.
-/
import Derived.Test.YtjniepfecgcmaaafFrN
import Derived.Test.YtjniepfecgcmaaahByt
import Derived.Test.YtjniepfecgcmaaahSh
import Derived.Test.YtjniepfecgcmaaaRows
import Derived.Test.YtjniepfecgcmaaaChecked
import Derived.ProofKit
import Derived.JoinedCond
namespace Go.Proofs.Ytjniepfecgcmaaa
open Go.ChangeShapes Go.WideShapes Go.ChangeAt Go.RowKit

theorem frameTurns_pure (vss : List (List V)) (h : AllSh vss [[.int .u64, .int .u64, .bool, .int .i64, .bool, .int .i64, .int .i64, .slice [.int .u8]], [.slice [.int .u8]]]) (hbulk : bulkLL vss ≤ 1048576) : FnF Try.prog 7 (parsV Try.prog Try.f7.params.toList vss) (.bool true) := by
  match vss, h with
  | [x, y], ⟨hx, hy, _⟩ =>
    obtain ⟨f, rfl, hf⟩ := frame_of_sh hx
    obtain ⟨b, rfl, _⟩ := par_bytes hy
    have k1 := bulk_frame f
    have k2 := bulk_bytes b
    simp only [bulkLL, bulkL] at hbulk
    exact law_FrameTurns f b (hf (by omega)) (by omega)

set_option maxRecDepth 100000 in
theorem frameTurns_lifted (os : Os) (started : os.Started) (H : Type) (enc : TypeId × Value → H) (F : Stop.Interp) :
    ReturnsInHanded {} Try.checked os 7 .any ((Rows.OpenSpec.upto Rows.frameTurnsSpec).pre6 enc Try.prog Try.f7 Rows.frameTurnsUptoRow.domain false) (((Rows.OpenSpec.upto Rows.frameTurnsSpec).at F).post enc Try.prog Try.f7 false true false false) := by
  refine returnsInHanded_of_cond (C := Try.checked) (s := Rows.OpenSpec.upto Rows.frameTurnsSpec) (k := Rows.uptoSmall) rfl noKnob started (by kernel_rfl) Try.func7
    (OpenSpec.witness (enc := enc) (C := Try.checked) (s := Rows.OpenSpec.upto Rows.frameTurnsSpec) (k := Rows.uptoSmall) rfl false ⟨#[], #[.agg #[.int .u64 0, .int .u64 0, .bool false, .int .i64 0, .bool false, .int .i64 0, .int .i64 0, .slice none 0 0], .slice none 0 0], []⟩ 8 (by kernel_rfl) (by kernel_rfl) (by kernel_rfl)
      (x := ([.agg [.lit (.int .u64 0), .lit (.int .u64 0), .lit (.bool false), .lit (.int .i64 0), .lit (.bool false), .lit (.int .i64 0), .lit (.int .i64 0), .nil], .nil], [], [])) (by kernel_rfl) rfl (by kernel_rfl)) ?_
  intro W base args ds gs before hval hW _ hk _
  have hk' : Rows.uptoBulkAll (ds ++ gs) ≤ 1048576 := of_decide_eq_true hk
  refine contract_of (P := Try.prog) (s := Rows.frameTurnsSpec) (n := 9) (tb := 4) (sss := [[.int .u64, .int .u64, .bool, .int .i64, .bool, .int .i64, .int .i64, .slice [.int .u8]], [.slice [.int .u8]]]) kids full (by kernel_rfl) (by kernel_rfl) rfl Try.underlying4 rfl ?_ hval hW (fun vss h hb => frameTurns_pure vss h (Nat.le_trans hb hk'))
  intro ds hl
  match ds, hl with
  | [d0, d1], _ => rfl

theorem frameTurns_holds : Rows.FrameTurnsUptoSaid :=
  OpenClaim.holds_of_cond 7 Try.f7 rfl rfl rfl rfl rfl rfl rfl ⟨rfl, rfl, rfl, rfl, rfl⟩ rfl rfl rfl rfl rfl (by kernel_rfl) Try.func7 (by kernel_rfl)
    (of_decide_eq_true (by kernel_rfl)) (by unfold Func.isWrapper; first | (rw [if_pos (by decide +kernel)]; kernel_rfl) | (rw [if_neg (by decide +kernel)]; exact ⟨rfl, rfl⟩))
    (fun os started H enc _ F => frameTurns_lifted os started H enc F)
end Go.Proofs.Ytjniepfecgcmaaa
