/-
  hedgerow/hedgelaw7.TalkTells: whatever the input: the call returns true, and its arguments read afterwards as they read before.
  Proved for every input; no condition.
-/
import Derived.ProofKit
import Derived.Test.YtcdhlofhhcgohaaGreatChecked
import Derived.Test.YtcdhlofhhcgohaaGreatRows
import Derived.Test.YtcdhlofhhcgohaaGreatwfTalkTells
import Derived.Test.YtcdhlofhhcgohaaGreatwhLan
namespace Go.Proofs.YtcdhlofhhcgohaaGreat
open Go.ChangeShapes Go.WideShapes Go.ChangeAt Go.RowKit
set_option maxRecDepth 100000 in
theorem zhX (vss : List (List V)) (h : zqk vss [[.slice [.int .u64, .slice [.int .i64], .str, .int .i64, .slice [.int .i64, .int .i64]], .slice [.int .i64, .int .i64, .int .i64, .int .i64, .int .i64, .bool]], [.int .i64], [.slice [.int .i64, .int .i64, .int .i64, .int .i64]], [.slice [.int .i64, .int .i64, .int .i64, .int .i64]], [.int .i64], [.int .i64], [.int .i64]]) : FnF Tryz.prog 3 (zhW Tryz.prog Tryz.f3.params.toList vss) (.bool true) := by
 match vss, h with
 | [x, y, z, w, a, b, c], ⟨hx, hy, hz, hw, ha, hb, hc, _⟩ =>
  obtain ⟨n, rfl, ht, _⟩ := zqn hx
  obtain ⟨t, rfl, _⟩ := zdN hy
  obtain ⟨l, rfl⟩ := zmi hz
  obtain ⟨more, rfl⟩ := zmi hw
  obtain ⟨tree, rfl, _⟩ := zdN ha
  obtain ⟨bridge, rfl, _⟩ := zdN hb
  obtain ⟨port, rfl, _⟩ := zdN hc
  exact zjL n ht t l more tree bridge port
set_option maxRecDepth 100000 in
theorem zge (os : Os) (started : os.Started) (H : Type) (enc : TypeId × Value → H) :
  ReturnsInHanded {} Tryz.checked os 3 .any (Rows.talkTellsSpec.pre6 enc Tryz.prog Tryz.f3 Rows.talkTellsRow.domain false) (Rows.talkTellsSpec.post enc Tryz.prog Tryz.f3 false true false false) := by
 refine returnsInHanded_of_change (C := Tryz.checked) zsj started (by kernel_rfl) Tryz.func3
  (ChangeSpec.witness6 (enc := enc) (C := Tryz.checked) false ⟨#[], #[.agg #[.slice none 0 0, .slice none 0 0], .int .i64 0, .slice none 0 0, .slice none 0 0, .int .i64 0, .int .i64 0, .int .i64 0], []⟩ 8 (by kernel_rfl) (by kernel_rfl) (by kernel_rfl) (by kernel_rfl)) ?_
 intro W base args ds gs before hval hW _ _
 refine zhH (P := Tryz.prog) (n := 9) (tb := 4) (sss := [[.slice [.int .u64, .slice [.int .i64], .str, .int .i64, .slice [.int .i64, .int .i64]], .slice [.int .i64, .int .i64, .int .i64, .int .i64, .int .i64, .bool]], [.int .i64], [.slice [.int .i64, .int .i64, .int .i64, .int .i64]], [.slice [.int .i64, .int .i64, .int .i64, .int .i64]], [.int .i64], [.int .i64], [.int .i64]]) kids full (by kernel_rfl) (by kernel_rfl) rfl Tryz.underlying4 rfl ?_ hval hW (fun vss h _ => zhX vss h)
 intro ds hl
 match ds, hl with
 | [d0, d1, d2, d3, d4, d5, d6], _ => rfl
theorem talkTells_holds : Rows.TalkTellsSaid :=
 OpenClaim.holds_of_wide 3 Tryz.f3 rfl rfl rfl rfl rfl rfl rfl ⟨rfl, rfl, rfl, rfl, rfl⟩ rfl rfl rfl rfl rfl (by kernel_rfl) Tryz.func3 (by kernel_rfl)
  (of_decide_eq_true (by kernel_rfl)) (by unfold Func.isWrapper; first | (rw [if_pos (by decide +kernel)]; kernel_rfl) | (rw [if_neg (by decide +kernel)]; exact ⟨rfl, rfl⟩))
  (fun os started H enc _ => zge os started H enc)
end Go.Proofs.YtcdhlofhhcgohaaGreat
