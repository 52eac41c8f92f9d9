/-
  hedgerow/hedgelaw7.TalkBack: whatever the input: the call returns true, and its arguments read afterwards as they read before.
  Proved for every input whose arguments hold together at most 1048576 values and letters.
-/
import Derived.JoinedCond
import Derived.ProofKit
import Derived.Test.YtpgcemabkjmliaaChecked
import Derived.Test.YtpgcemabkjmliaaRows
import Derived.Test.YtpgcemabkjmliaayfTalkBack
import Derived.Test.YtpgcemabkjmliaayhTlk
namespace Go.Proofs.Ytpgcemabkjmliaa
open Go.ChangeShapes Go.WideShapes Go.ChangeAt Go.RowKit
set_option maxRecDepth 100000 in
theorem talkBack_pure (vss : List (List V)) (h : AllSh vss [[.slice [.int .u64, .slice [.int .i64], .str, .int .i64, .slice [.int .i64, .int .i64]], .slice [.int .i64, .int .i64, .int .i64, .int .i64, .int .i64, .bool]], [.int .i64], [.slice [.int .i64, .int .i64, .int .i64, .int .i64]], [.int .i64], [.int .i64]]) (hbulk : bulkLL vss ≤ 1048576) : FnF Try.prog 8 (parsV Try.prog Try.f8.params.toList vss) (.bool true) := by
  match vss, h with
  | [x, y, z, w, u], ⟨hx, hy, hz, hw, hu, _⟩ =>
    simp only [bulkLL] at hbulk
    obtain ⟨n, rfl, ht, _⟩ := par_net hx
    obtain ⟨t, rfl, _⟩ := par_int hy
    obtain ⟨l, rfl, h1⟩ := par_dosB hz (by omega)
    obtain ⟨which, rfl, _⟩ := par_int hw
    obtain ⟨td, rfl, _⟩ := par_int hu
    exact law_TalkBack n ht t l which td h1
set_option maxRecDepth 100000 in
theorem talkBack_lifted (os : Os) (started : os.Started) (H : Type) (enc : TypeId × Value → H) (F : Stop.Interp) :
    ReturnsInHanded {} Try.checked os 8 .any ((Rows.OpenSpec.upto Rows.talkBackSpec).pre6 enc Try.prog Try.f8 Rows.talkBackUptoRow.domain false) (((Rows.OpenSpec.upto Rows.talkBackSpec).at F).post enc Try.prog Try.f8 false true false false) := by
  refine returnsInHanded_of_cond (C := Try.checked) (s := Rows.OpenSpec.upto Rows.talkBackSpec) (k := Rows.uptoSmall) rfl noKnob started (by kernel_rfl) Try.func8
    (OpenSpec.witness (enc := enc) (C := Try.checked) (s := Rows.OpenSpec.upto Rows.talkBackSpec) (k := Rows.uptoSmall) rfl false ⟨#[], #[.agg #[.slice none 0 0, .slice none 0 0], .int .i64 0, .slice none 0 0, .int .i64 0, .int .i64 0], []⟩ 8 (by kernel_rfl) (by kernel_rfl) (by kernel_rfl)
      (x := ([.agg [.nil, .nil], .lit (.int .i64 0), .nil, .lit (.int .i64 0), .lit (.int .i64 0)], [], [])) (by kernel_rfl) rfl (by kernel_rfl)) ?_
  intro W base args ds gs before hval hW _ hk _
  have hk' : Rows.uptoBulkAll (ds ++ gs) ≤ 1048576 := of_decide_eq_true hk
  refine contract_of (P := Try.prog) (s := Rows.talkBackSpec) (n := 9) (tb := 4) (sss := [[.slice [.int .u64, .slice [.int .i64], .str, .int .i64, .slice [.int .i64, .int .i64]], .slice [.int .i64, .int .i64, .int .i64, .int .i64, .int .i64, .bool]], [.int .i64], [.slice [.int .i64, .int .i64, .int .i64, .int .i64]], [.int .i64], [.int .i64]]) kids full (by kernel_rfl) (by kernel_rfl) rfl Try.underlying4 rfl ?_ hval hW (fun vss h hb => talkBack_pure vss h (Nat.le_trans hb hk'))
  intro ds hl
  match ds, hl with
  | [d0, d1, d2, d3, d4], _ => rfl
theorem talkBack_holds : Rows.TalkBackUptoSaid :=
  OpenClaim.holds_of_cond 8 Try.f8 rfl rfl rfl rfl rfl rfl rfl ⟨rfl, rfl, rfl, rfl, rfl⟩ rfl rfl rfl rfl rfl (by kernel_rfl) Try.func8 (by kernel_rfl)
    (of_decide_eq_true (by kernel_rfl)) (by unfold Func.isWrapper; first | (rw [if_pos (by decide +kernel)]; kernel_rfl) | (rw [if_neg (by decide +kernel)]; exact ⟨rfl, rfl⟩))
    (fun os started H enc _ F => talkBack_lifted os started H enc F)
end Go.Proofs.Ytpgcemabkjmliaa
