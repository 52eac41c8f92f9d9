/-
  hedgerow/hedgelaw8.BookLearns: whatever the input: the call returns true, and its arguments read afterwards as they read before.
  Proved for every input; no condition.
-/
import Derived.Test.YtpdoplmnedpdaaafBkN
import Derived.Test.YtpdoplmnedpdaaahBk
import Derived.Test.YtpdoplmnedpdaaahSh
import Derived.Test.YtpdoplmnedpdaaaRows
import Derived.Test.YtpdoplmnedpdaaaChecked
import Derived.ProofKit
namespace Go.Proofs.Ytpdoplmnedpdaaa
open Go.ChangeShapes Go.WideShapes Go.ChangeAt Go.RowKit

set_option maxRecDepth 100000 in
theorem bookLearns_pure (vss : List (List V)) (h : AllSh vss [[.slice [.int .i64, .int .u64, .int .i64, .int .i64]], [.int .i64], [.int .u64], [.int .i64], [.int .u64]]) : FnF Try.prog 3 (parsV Try.prog Try.f3.params.toList vss) (.bool true) := by
  match vss, h with
  | [x, y, z, w, u], ⟨hx, hy, hz, hw, hu, _⟩ =>
    obtain ⟨l, rfl, _⟩ := par_book hx
    obtain ⟨v, rfl, _⟩ := par_int hy
    obtain ⟨a, rfl, ha⟩ := par_int hz
    obtain ⟨p, rfl, _⟩ := par_int hw
    obtain ⟨o, rfl, _⟩ := par_int hu
    exact law_BookLearns l v a p o (wf_u64 ha)

set_option maxRecDepth 100000 in
theorem bookLearns_lifted (os : Os) (started : os.Started) (H : Type) (enc : TypeId × Value → H) :
    ReturnsInHanded {} Try.checked os 3 .any (Rows.bookLearnsSpec.pre6 enc Try.prog Try.f3 Rows.bookLearnsRow.domain false) (Rows.bookLearnsSpec.post enc Try.prog Try.f3 false true false false) := by
  refine returnsInHanded_of_change (C := Try.checked) noKnob started (by kernel_rfl) Try.func3
    (ChangeSpec.witness6 (enc := enc) (C := Try.checked) false ⟨#[], #[.slice none 0 0, .int .i64 0, .int .u64 0, .int .i64 0, .int .u64 0], []⟩ 8 (by kernel_rfl) (by kernel_rfl) (by kernel_rfl) (by kernel_rfl)) ?_
  intro W base args ds gs before hval hW _ _
  refine contract_of (P := Try.prog) (n := 9) (tb := 4) (sss := [[.slice [.int .i64, .int .u64, .int .i64, .int .i64]], [.int .i64], [.int .u64], [.int .i64], [.int .u64]]) kids full (by kernel_rfl) (by kernel_rfl) rfl Try.underlying4 rfl ?_ hval hW (fun vss h _ => bookLearns_pure vss h)
  intro ds hl
  match ds, hl with
  | [d0, d1, d2, d3, d4], _ => rfl

theorem bookLearns_holds : Rows.BookLearnsSaid :=
  OpenClaim.holds_of_wide 3 Try.f3 rfl rfl rfl rfl rfl rfl rfl ⟨rfl, rfl, rfl, rfl, rfl⟩ rfl rfl rfl rfl rfl (by kernel_rfl) Try.func3 (by kernel_rfl)
    (of_decide_eq_true (by kernel_rfl)) (by unfold Func.isWrapper; first | (rw [if_pos (by decide +kernel)]; kernel_rfl) | (rw [if_neg (by decide +kernel)]; exact ⟨rfl, rfl⟩))
    (fun os started H enc _ => bookLearns_lifted os started H enc)
end Go.Proofs.Ytpdoplmnedpdaaa
