/- Facts of this translation for all rows; the shapes of the program's types as structures. -/
import Derived.ProofKit
import Derived.Test.YtkppkgahdoglpaavdRow
namespace Go.Proofs.Ytkppkgahdoglpaa
open Go.RowKit
theorem kids : Kids Try.prog (· < Try.prog.types.size) := kids_rows (by kernel_rfl) (by kernel_rfl)
theorem full : ∀ t e, t < Try.prog.types.size → Try.prog.underlying t = some (.slice e) → 0 < Try.prog.cellsOf e := slices_full_of Try.prog (by kernel_rfl)
theorem noKnob : ownKnob Try.prog.godebug = none := by kernel_rfl
theorem sh_int {k : IntKind} {a : V} (h : HasSh a (.int k)) : ∃ n, a = .int k n ∧ (Lit.int k n).wf = true := by
  cases h with | int _ n hw => exact ⟨n, rfl, hw⟩
theorem sh_slice {α : Type} {es : List Sh} {f : α → List V} {ok : α → Prop} (hf : ∀ e, ListSh e es → ∃ x, e = f x ∧ ok x) {a : V} (h : HasSh a (.slice es)) :
    ∃ l : List α, a = .slice (l.map f) ∧ (∀ x ∈ l, ok x) ∧ l.length ≤ maxLen := by
  cases h with
  | slice xs _ hn hl hx =>
    have key : ∀ xs : List (List V), (∀ e ∈ xs, ListSh e es) → ∃ l : List α, xs = l.map f ∧ ∀ x ∈ l, ok x := by
      intro xs
      induction xs with
      | nil => intro _; exact ⟨[], rfl, by simp⟩
      | cons e xs ih =>
        intro h
        obtain ⟨x, h1, h2⟩ := hf e (h e (List.mem_cons.2 (.inl rfl)))
        obtain ⟨l, h3, h4⟩ := ih (fun e' he' => h e' (List.mem_cons.2 (.inr he')))
        refine ⟨x :: l, by rw [List.map_cons, ← h1, ← h3], ?_⟩
        intro y hy
        rcases List.mem_cons.1 hy with rfl | hy
        · exact h2
        · exact h4 y hy
    obtain ⟨l, h1, h2⟩ := key xs (fun e he => ⟨hl e he, hx e he⟩)
    subst h1
    exact ⟨l, rfl, h2, by simpa using hn⟩
theorem par_slice {α : Type} {es : List Sh} {f : α → List V} {ok : α → Prop} (hf : ∀ e, ListSh e es → ∃ x, e = f x ∧ ok x) {vs : List V} (h : ListSh vs [.slice es]) :
    ∃ l : List α, vs = [.slice (l.map f)] ∧ (∀ x ∈ l, ok x) ∧ l.length ≤ maxLen := by
  obtain ⟨hl, h⟩ := h
  match vs, hl with
  | [a], _ =>
    obtain ⟨l, rfl, h1, h2⟩ := sh_slice hf (h 0 _ _ rfl rfl)
    exact ⟨l, rfl, h1, h2⟩
def I64 (x : Int) : Prop := -9223372036854775808 ≤ x ∧ x ≤ 9223372036854775807
def U64 (x : Int) : Prop := 0 ≤ x ∧ x ≤ 18446744073709551615
theorem wf_i64 {n : Int} (h : (Lit.int .i64 n).wf = true) : I64 n := by simpa [Lit.wf, IntKind.min, IntKind.max, IntKind.signed, IntKind.bits, I64] using h
theorem wf_u64 {n : Int} (h : (Lit.int .u64 n).wf = true) : U64 n := by simpa [Lit.wf, IntKind.min, IntKind.max, IntKind.signed, IntKind.bits, U64] using h
end Go.Proofs.Ytkppkgahdoglpaa
