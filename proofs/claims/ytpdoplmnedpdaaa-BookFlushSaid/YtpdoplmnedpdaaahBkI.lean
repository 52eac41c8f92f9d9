/- The shapes of lists of numbers. -/
import Derived.Test.YtpdoplmnedpdaaahBk
import Derived.Test.YtpdoplmnedpdaaadBkr
namespace Go.Proofs.Ytpdoplmnedpdaaa
open Go.RowKit
theorem par_ints {vs : List V} (h : ListSh vs [.slice [.int .i64]]) : ∃ l : List Int, vs = [.slice (l.map intV1)] ∧ l.length ≤ maxLen := by
  obtain ⟨l, h1, _, h3⟩ := par_slice (f := intV1) (ok := fun _ => True) (fun e he => by
    obtain ⟨n, rfl, _⟩ := par_int he
    exact ⟨n, rfl, trivial⟩) h
  exact ⟨l, h1, h3⟩
end Go.Proofs.Ytpdoplmnedpdaaa
