/-
  hedgerow/hedgelaw9.RelayTrees: whatever the input: the call returns true, and its arguments read afterwards as they read before.
  Proved for every input; no condition.
-/
import Derived.Test.YtpdoplmnedpdaaafRlT
import Derived.Test.YtpdoplmnedpdaaahRly
import Derived.Test.YtpdoplmnedpdaaahSh
import Derived.Test.YtpdoplmnedpdaaaRows
import Derived.Test.YtpdoplmnedpdaaaChecked
import Derived.ProofKit
namespace Go.Proofs.Ytpdoplmnedpdaaa
open Go.ChangeShapes Go.WideShapes Go.ChangeAt Go.RowKit

set_option maxRecDepth 100000 in
theorem relayTrees_pure (vss : List (List V)) (h : AllSh vss [[.str, .int .i64, .slice [.int .i64, .int .i64]], [.slice [.int .i64, .slice [.int .i64], .int .i64, .slice [.bool]]], [.slice [.int .i64, .int .u64, .int .i64, .int .i64]], [.int .i64], [.int .u64, .int .u64, .bool, .int .i64, .bool, .int .i64, .int .i64, .slice [.int .u8]], [.int .i64], [.int .i64]]) : FnF Try.prog 12 (parsV Try.prog Try.f12.params.toList vss) (.bool true) := by
  match vss, h with
  | [x, y, z, w, u, b, c], ⟨hx, hy, hz, hw, hu, hb, hc, _⟩ =>
    obtain ⟨r, rfl, hr⟩ := region_of_sh9 hx
    obtain ⟨gs, rfl⟩ := par_gates hy
    obtain ⟨l, rfl, _⟩ := par_book hz
    obtain ⟨p, rfl, hp⟩ := par_int hw
    obtain ⟨f, rfl, hf⟩ := frame_of_sh9 hu
    obtain ⟨q, rfl, hq⟩ := par_int hb
    obtain ⟨k, rfl, hk⟩ := par_int hc
    exact law_RelayTrees r gs l p f q k hr hf

set_option maxRecDepth 100000 in
theorem relayTrees_lifted (os : Os) (started : os.Started) (H : Type) (enc : TypeId × Value → H) :
    ReturnsInHanded {} Try.checked os 12 .any (Rows.relayTreesSpec.pre6 enc Try.prog Try.f12 Rows.relayTreesRow.domain false) (Rows.relayTreesSpec.post enc Try.prog Try.f12 false true false false) := by
  refine returnsInHanded_of_change (C := Try.checked) noKnob started (by kernel_rfl) Try.func12
    (ChangeSpec.witness6 (enc := enc) (C := Try.checked) false ⟨#[], #[.agg #[.string ⟨#[]⟩, .int .i64 0, .slice none 0 0], .slice none 0 0, .slice none 0 0, .int .i64 0, .agg #[.int .u64 0, .int .u64 0, .bool false, .int .i64 0, .bool false, .int .i64 0, .int .i64 0, .slice none 0 0], .int .i64 0, .int .i64 0], []⟩ 8 (by kernel_rfl) (by kernel_rfl) (by kernel_rfl) (by kernel_rfl)) ?_
  intro W base args ds gs before hval hW _ _
  refine contract_of (P := Try.prog) (n := 9) (tb := 4) (sss := [[.str, .int .i64, .slice [.int .i64, .int .i64]], [.slice [.int .i64, .slice [.int .i64], .int .i64, .slice [.bool]]], [.slice [.int .i64, .int .u64, .int .i64, .int .i64]], [.int .i64], [.int .u64, .int .u64, .bool, .int .i64, .bool, .int .i64, .int .i64, .slice [.int .u8]], [.int .i64], [.int .i64]]) kids full (by kernel_rfl) (by kernel_rfl) rfl Try.underlying4 rfl ?_ hval hW (fun vss h _ => relayTrees_pure vss h)
  intro ds hl
  match ds, hl with
  | [d0, d1, d2, d3, d4, d5, d6], _ => rfl

theorem relayTrees_holds : Rows.RelayTreesSaid :=
  OpenClaim.holds_of_wide 12 Try.f12 rfl rfl rfl rfl rfl rfl rfl ⟨rfl, rfl, rfl, rfl, rfl⟩ rfl rfl rfl rfl rfl (by kernel_rfl) Try.func12 (by kernel_rfl)
    (of_decide_eq_true (by kernel_rfl)) (by unfold Func.isWrapper; first | (rw [if_pos (by decide +kernel)]; kernel_rfl) | (rw [if_neg (by decide +kernel)]; exact ⟨rfl, rfl⟩))
    (fun os started H enc _ => relayTrees_lifted os started H enc)
end Go.Proofs.Ytpdoplmnedpdaaa
