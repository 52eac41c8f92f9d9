/-
  hedgerow/hedgelaw7.TalkAges: whatever the input: the call returns true, and its arguments read afterwards as they read before.
  Proved for every input; no condition.
-/
import Derived.ProofKit
import Derived.Test.YtpgcemabkjmliaaChecked
import Derived.Test.YtpgcemabkjmliaaRows
import Derived.Test.YtpgcemabkjmliaayfTalkAges
import Derived.Test.YtpgcemabkjmliaayhTlk
namespace Go.Proofs.Ytpgcemabkjmliaa
open Go.ChangeShapes Go.WideShapes Go.ChangeAt Go.RowKit
set_option maxRecDepth 100000 in
theorem talkAges_pure (vss : List (List V)) (h : AllSh vss [[.slice [.int .u64, .slice [.int .i64], .str, .int .i64, .slice [.int .i64, .int .i64]], .slice [.int .i64, .int .i64, .int .i64, .int .i64, .int .i64, .bool]], [.int .i64], [.slice [.int .i64, .int .i64, .int .i64, .int .i64]]]) : FnF Try.prog 5 (parsV Try.prog Try.f5.params.toList vss) (.bool true) := by
  match vss, h with
  | [x, y, z], ⟨hx, hy, hz, _⟩ =>
    obtain ⟨n, rfl, ht, _⟩ := par_net hx
    obtain ⟨t, rfl, _⟩ := par_int hy
    obtain ⟨l, rfl⟩ := par_dos hz
    exact law_TalkAges n ht t l
set_option maxRecDepth 100000 in
theorem talkAges_lifted (os : Os) (started : os.Started) (H : Type) (enc : TypeId × Value → H) :
    ReturnsInHanded {} Try.checked os 5 .any (Rows.talkAgesSpec.pre6 enc Try.prog Try.f5 Rows.talkAgesRow.domain false) (Rows.talkAgesSpec.post enc Try.prog Try.f5 false true false false) := by
  refine returnsInHanded_of_change (C := Try.checked) noKnob started (by kernel_rfl) Try.func5
    (ChangeSpec.witness6 (enc := enc) (C := Try.checked) false ⟨#[], #[.agg #[.slice none 0 0, .slice none 0 0], .int .i64 0, .slice none 0 0], []⟩ 8 (by kernel_rfl) (by kernel_rfl) (by kernel_rfl) (by kernel_rfl)) ?_
  intro W base args ds gs before hval hW _ _
  refine contract_of (P := Try.prog) (n := 9) (tb := 4) (sss := [[.slice [.int .u64, .slice [.int .i64], .str, .int .i64, .slice [.int .i64, .int .i64]], .slice [.int .i64, .int .i64, .int .i64, .int .i64, .int .i64, .bool]], [.int .i64], [.slice [.int .i64, .int .i64, .int .i64, .int .i64]]]) kids full (by kernel_rfl) (by kernel_rfl) rfl Try.underlying4 rfl ?_ hval hW (fun vss h _ => talkAges_pure vss h)
  intro ds hl
  match ds, hl with
  | [d0, d1, d2], _ => rfl
theorem talkAges_holds : Rows.TalkAgesSaid :=
  OpenClaim.holds_of_wide 5 Try.f5 rfl rfl rfl rfl rfl rfl rfl ⟨rfl, rfl, rfl, rfl, rfl⟩ rfl rfl rfl rfl rfl (by kernel_rfl) Try.func5 (by kernel_rfl)
    (of_decide_eq_true (by kernel_rfl)) (by unfold Func.isWrapper; first | (rw [if_pos (by decide +kernel)]; kernel_rfl) | (rw [if_neg (by decide +kernel)]; exact ⟨rfl, rfl⟩))
    (fun os started H enc _ => talkAges_lifted os started H enc)
end Go.Proofs.Ytpgcemabkjmliaa
