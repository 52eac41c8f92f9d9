/-
  hedgerow/hedgelaw5.VecChoose: whatever the input: the call returns true, and its arguments read afterwards as they read before.
  Proved for every input whose arguments hold together at most 1048576 values and letters.
-/
import Derived.Test.YtcdeielnkmjfhaafChooseL
import Derived.Test.YtcdeielnkmjfhaahSh
import Derived.Test.YtcdeielnkmjfhaaRows
import Derived.Test.YtcdeielnkmjfhaaChecked
import Derived.ProofKit
import Derived.JoinedCond
namespace Go.Proofs.Ytcdeielnkmjfhaa
open Go.ChangeShapes Go.WideShapes Go.ChangeAt Go.RowKit

theorem vecChoose_pure (vss : List (List V)) (h : AllSh vss [[.int .u64], [.slice [.int .i64, .int .i64, .int .i64, .int .u64, .int .i64, .int .u64, .int .i64]]]) (hbulk : bulkLL vss ≤ 1048576) : FnF Try.prog 5 (parsV Try.prog Try.f5.params.toList vss) (.bool true) := by
  match vss, h with
  | [x, y], ⟨hx, hy, _⟩ =>
    obtain ⟨id, rfl, _⟩ := par_int hx
    obtain ⟨l, rfl, _⟩ := par_slice (fun e => offer_of_sh) hy
    refine law_VecChoose id l ?_
    have := bulk_len (l.map Offer.cells) (by simp [Offer.cells])
    simp [bulkLL, bulkL, V.bulk] at hbulk this
    omega

set_option maxRecDepth 100000 in
theorem vecChoose_lifted (os : Os) (started : os.Started) (H : Type) (enc : TypeId × Value → H) (F : Stop.Interp) :
    ReturnsInHanded {} Try.checked os 5 .any ((Rows.OpenSpec.upto Rows.vecChooseSpec).pre6 enc Try.prog Try.f5 Rows.vecChooseUptoRow.domain false) (((Rows.OpenSpec.upto Rows.vecChooseSpec).at F).post enc Try.prog Try.f5 false true false false) := by
  refine returnsInHanded_of_cond (C := Try.checked) (s := Rows.OpenSpec.upto Rows.vecChooseSpec) (k := Rows.uptoSmall) rfl noKnob started (by kernel_rfl) Try.func5
    (OpenSpec.witness (enc := enc) (C := Try.checked) (s := Rows.OpenSpec.upto Rows.vecChooseSpec) (k := Rows.uptoSmall) rfl false ⟨#[], #[.int .u64 0, .slice none 0 0], []⟩ 8 (by kernel_rfl) (by kernel_rfl) (by kernel_rfl)
      (x := ([.lit (.int .u64 0), .nil], [], [])) (by kernel_rfl) rfl (by kernel_rfl)) ?_
  intro W base args ds gs before hval hW _ hk _
  have hk' : Rows.uptoBulkAll (ds ++ gs) ≤ 1048576 := of_decide_eq_true hk
  refine contract_of (P := Try.prog) (s := Rows.vecChooseSpec) (n := 9) (tb := 4) (sss := [[.int .u64], [.slice [.int .i64, .int .i64, .int .i64, .int .u64, .int .i64, .int .u64, .int .i64]]]) kids full (by kernel_rfl) (by kernel_rfl) rfl Try.underlying4 rfl ?_ hval hW (fun vss h hb => vecChoose_pure vss h (Nat.le_trans hb hk'))
  intro ds hl
  match ds, hl with
  | [d0, d1], _ => rfl

theorem vecChoose_holds : Rows.VecChooseUptoSaid :=
  OpenClaim.holds_of_cond 5 Try.f5 rfl rfl rfl rfl rfl rfl rfl ⟨rfl, rfl, rfl, rfl, rfl⟩ rfl rfl rfl rfl rfl (by kernel_rfl) Try.func5 (by kernel_rfl)
    (of_decide_eq_true (by kernel_rfl)) (by unfold Func.isWrapper; first | (rw [if_pos (by decide +kernel)]; kernel_rfl) | (rw [if_neg (by decide +kernel)]; exact ⟨rfl, rfl⟩))
    (fun os started H enc _ F => vecChoose_lifted os started H enc F)
end Go.Proofs.Ytcdeielnkmjfhaa
