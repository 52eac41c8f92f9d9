/-
  hedgerow/hedgelaw4.HelloMore: whatever the input: the call returns true, and its arguments read afterwards as they read before.
  Proved for every input whose arguments hold together at most 1048576 values and letters.
-/
import Derived.Test.YtjniepfecgcmaaafHeL
import Derived.Test.YtjniepfecgcmaaahHel
import Derived.Test.YtjniepfecgcmaaahSh
import Derived.Test.YtjniepfecgcmaaaRows
import Derived.Test.YtjniepfecgcmaaaChecked
import Derived.ProofKit
import Derived.JoinedCond
namespace Go.Proofs.Ytjniepfecgcmaaa
open Go.ChangeShapes Go.WideShapes Go.ChangeAt Go.RowKit

theorem helloMore_pure (vss : List (List V)) (h : AllSh vss [[.slice [.int .u8], .slice [.int .i64, .int .u64, .int .i64, .int .u64, .int .i64, .int .i64]], [.int .i64, .int .u64, .int .i64, .int .u64, .int .i64, .int .i64]]) (hbulk : bulkLL vss ≤ 1048576) : FnF Try.prog 5 (parsV Try.prog Try.f5.params.toList vss) (.bool true) := by
  match vss, h with
  | [x, y], ⟨hx, hy, _⟩ =>
    simp only [bulkLL] at hbulk
    obtain ⟨f, rfl, hf, hf2⟩ := hello_of_sh hx (by omega)
    obtain ⟨t, rfl, ht⟩ := tale_of_sh hy
    exact law_HelloMore f t hf hf2 ht

set_option maxRecDepth 100000 in
theorem helloMore_lifted (os : Os) (started : os.Started) (H : Type) (enc : TypeId × Value → H) (F : Stop.Interp) :
    ReturnsInHanded {} Try.checked os 5 .any ((Rows.OpenSpec.upto Rows.helloMoreSpec).pre6 enc Try.prog Try.f5 Rows.helloMoreUptoRow.domain false) (((Rows.OpenSpec.upto Rows.helloMoreSpec).at F).post enc Try.prog Try.f5 false true false false) := by
  refine returnsInHanded_of_cond (C := Try.checked) (s := Rows.OpenSpec.upto Rows.helloMoreSpec) (k := Rows.uptoSmall) rfl noKnob started (by kernel_rfl) Try.func5
    (OpenSpec.witness (enc := enc) (C := Try.checked) (s := Rows.OpenSpec.upto Rows.helloMoreSpec) (k := Rows.uptoSmall) rfl false ⟨#[], #[.agg #[.slice none 0 0, .slice none 0 0], .agg #[.int .i64 0, .int .u64 0, .int .i64 0, .int .u64 0, .int .i64 0, .int .i64 0]], []⟩ 8 (by kernel_rfl) (by kernel_rfl) (by kernel_rfl)
      (x := ([.agg [.nil, .nil], .agg [.lit (.int .i64 0), .agg [.lit (.int .u64 0), .lit (.int .i64 0), .lit (.int .u64 0), .lit (.int .i64 0)], .lit (.int .i64 0)]], [], [])) (by kernel_rfl) rfl (by kernel_rfl)) ?_
  intro W base args ds gs before hval hW _ hk _
  have hk' : Rows.uptoBulkAll (ds ++ gs) ≤ 1048576 := of_decide_eq_true hk
  refine contract_of (P := Try.prog) (s := Rows.helloMoreSpec) (n := 9) (tb := 4) (sss := [[.slice [.int .u8], .slice [.int .i64, .int .u64, .int .i64, .int .u64, .int .i64, .int .i64]], [.int .i64, .int .u64, .int .i64, .int .u64, .int .i64, .int .i64]]) kids full (by kernel_rfl) (by kernel_rfl) rfl Try.underlying4 rfl ?_ hval hW (fun vss h hb => helloMore_pure vss h (Nat.le_trans hb hk'))
  intro ds hl
  match ds, hl with
  | [d0, d1], _ => rfl

theorem helloMore_holds : Rows.HelloMoreUptoSaid :=
  OpenClaim.holds_of_cond 5 Try.f5 rfl rfl rfl rfl rfl rfl rfl ⟨rfl, rfl, rfl, rfl, rfl⟩ rfl rfl rfl rfl rfl (by kernel_rfl) Try.func5 (by kernel_rfl)
    (of_decide_eq_true (by kernel_rfl)) (by unfold Func.isWrapper; first | (rw [if_pos (by decide +kernel)]; kernel_rfl) | (rw [if_neg (by decide +kernel)]; exact ⟨rfl, rfl⟩))
    (fun os started H enc _ F => helloMore_lifted os started H enc F)
end Go.Proofs.Ytjniepfecgcmaaa
