/- The shapes of books. -/
import Derived.Test.YtpdoplmnedpdaaahSh
import Derived.Test.YtpdoplmnedpdaaacBkM
namespace Go.Proofs.Ytpdoplmnedpdaaa
open Go.RowKit
theorem ent_of_sh {vs : List V} (h : ListSh vs [.int .i64, .int .u64, .int .i64, .int .i64]) : ∃ e : Ent, vs = entV e ∧ U64 e.addr := by
  obtain ⟨hl, h⟩ := h
  match vs, hl with
  | [a, b, c, d], _ =>
    obtain ⟨x0, rfl, _⟩ := sh_int (h 0 _ _ rfl rfl)
    obtain ⟨x1, rfl, h1⟩ := sh_int (h 1 _ _ rfl rfl)
    obtain ⟨x2, rfl, _⟩ := sh_int (h 2 _ _ rfl rfl)
    obtain ⟨x3, rfl, _⟩ := sh_int (h 3 _ _ rfl rfl)
    exact ⟨⟨x0, x1, x2, x3⟩, rfl, wf_u64 h1⟩
theorem par_book {vs : List V} (h : ListSh vs [.slice [.int .i64, .int .u64, .int .i64, .int .i64]]) : ∃ l : List Ent, vs = [.slice (l.map entV)] ∧ (∀ e ∈ l, U64 e.addr) ∧ l.length ≤ maxLen :=
  par_slice (fun _ => ent_of_sh) h
end Go.Proofs.Ytpdoplmnedpdaaa
