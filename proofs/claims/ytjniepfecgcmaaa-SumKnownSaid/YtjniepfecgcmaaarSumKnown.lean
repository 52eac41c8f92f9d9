/-
  hedgerow/hedgelaw1.SumKnown: whatever the input: the call returns true, and its arguments read afterwards as they read before.
  Proved for every input; no condition.
-/
import Derived.Test.YtjniepfecgcmaaafSul
import Derived.Test.YtjniepfecgcmaaahSh
import Derived.Test.YtjniepfecgcmaaaRows
import Derived.Test.YtjniepfecgcmaaaChecked
import Derived.ProofKit
namespace Go.Proofs.Ytjniepfecgcmaaa
open Go.ChangeShapes Go.WideShapes Go.ChangeAt Go.RowKit

theorem sumKnown_pure (vss : List (List V)) (h : AllSh vss []) : FnF Try.prog 11 (parsV Try.prog Try.f11.params.toList vss) (.bool true) := by
  match vss, h with
  | [], _ => exact law_SumKnown

set_option maxRecDepth 100000 in
theorem sumKnown_lifted (os : Os) (started : os.Started) (H : Type) (enc : TypeId × Value → H) :
    ReturnsInHanded {} Try.checked os 11 .any (Rows.sumKnownSpec.pre6 enc Try.prog Try.f11 Rows.sumKnownRow.domain false) (Rows.sumKnownSpec.post enc Try.prog Try.f11 false true false false) := by
  refine returnsInHanded_of_change (C := Try.checked) noKnob started (by kernel_rfl) Try.func11
    (ChangeSpec.witness6 (enc := enc) (C := Try.checked) false ⟨#[], #[], []⟩ 8 (by kernel_rfl) (by kernel_rfl) (by kernel_rfl) (by kernel_rfl)) ?_
  intro W base args ds gs before hval hW _ _
  refine contract_of (P := Try.prog) (n := 9) (tb := 4) (sss := []) kids full (by kernel_rfl) (by kernel_rfl) rfl Try.underlying4 rfl ?_ hval hW (fun vss h _ => sumKnown_pure vss h)
  intro ds hl
  match ds, hl with
  | [], _ => rfl

theorem sumKnown_holds : Rows.SumKnownSaid :=
  OpenClaim.holds_of_wide 11 Try.f11 rfl rfl rfl rfl rfl rfl rfl ⟨rfl, rfl, rfl, rfl, rfl⟩ rfl rfl rfl rfl rfl (by kernel_rfl) Try.func11 (by kernel_rfl)
    (of_decide_eq_true (by kernel_rfl)) (by unfold Func.isWrapper; first | (rw [if_pos (by decide +kernel)]; kernel_rfl) | (rw [if_neg (by decide +kernel)]; exact ⟨rfl, rfl⟩))
    (fun os started H enc _ => sumKnown_lifted os started H enc)
end Go.Proofs.Ytjniepfecgcmaaa
