/- The shapes of nets. -/
import Derived.ProofKit
import Derived.Test.YtkppkgahdoglpaazdRow
import Derived.Test.YtkppkgahdoglpaazcChM
namespace Go.Proofs.Ytkppkgahdoglpaa
open Go.RowKit
theorem kids : Kids Try.prog (· < Try.prog.types.size) := kids_rows (by kernel_rfl) (by kernel_rfl)
theorem full : ∀ t e, t < Try.prog.types.size → Try.prog.underlying t = some (.slice e) → 0 < Try.prog.cellsOf e := slices_full_of Try.prog (by kernel_rfl)
theorem noKnob : ownKnob Try.prog.godebug = none := by kernel_rfl
theorem sh_int {k : IntKind} {a : V} (h : HasSh a (.int k)) : ∃ n, a = .int k n ∧ (Lit.int k n).wf = true := by
  cases h with | int _ n hw => exact ⟨n, rfl, hw⟩
theorem par_int {k : IntKind} {vs : List V} (h : ListSh vs [.int k]) : ∃ n, vs = [.int k n] ∧ (Lit.int k n).wf = true := by
  obtain ⟨hl, h⟩ := h
  match vs, hl with
  | [a], _ =>
    obtain ⟨n, rfl, hw⟩ := sh_int (h 0 _ _ rfl rfl)
    exact ⟨n, rfl, hw⟩
theorem sh_slice {α : Type} {es : List Sh} {f : α → List V} {ok : α → Prop} (hf : ∀ e, ListSh e es → ∃ x, e = f x ∧ ok x) {a : V} (h : HasSh a (.slice es)) :
    ∃ l : List α, a = .slice (l.map f) ∧ (∀ x ∈ l, ok x) ∧ l.length ≤ maxLen := by
  cases h with
  | slice xs _ hn hl hx =>
    have key : ∀ xs : List (List V), (∀ e ∈ xs, ListSh e es) → ∃ l : List α, xs = l.map f ∧ ∀ x ∈ l, ok x := by
      intro xs
      induction xs with
      | nil => intro _; exact ⟨[], rfl, by simp⟩
      | cons e xs ih =>
        intro h
        obtain ⟨x, h1, h2⟩ := hf e (h e (List.mem_cons.2 (.inl rfl)))
        obtain ⟨l, h3, h4⟩ := ih (fun e' he' => h e' (List.mem_cons.2 (.inr he')))
        refine ⟨x :: l, by rw [List.map_cons, ← h1, ← h3], ?_⟩
        intro y hy
        rcases List.mem_cons.1 hy with rfl | hy
        · exact h2
        · exact h4 y hy
    obtain ⟨l, h1, h2⟩ := key xs (fun e he => ⟨hl e he, hx e he⟩)
    subst h1
    exact ⟨l, rfl, h2, by simpa using hn⟩
def U64 (x : Int) : Prop := 0 ≤ x ∧ x ≤ 18446744073709551615
theorem wf_u64 {n : Int} (h : (Lit.int .u64 n).wf = true) : U64 n := by simpa [Lit.wf, IntKind.min, IntKind.max, IntKind.signed, IntKind.bits, U64] using h
end Go.Proofs.Ytkppkgahdoglpaa
namespace Go.Proofs.Ytkppkgahdoglpaa
open Go.RowKit
theorem sh_strN {a : V} (h : HasSh a .str) : ∃ s, a = .str s := by cases h with | str s hs => exact ⟨s, rfl⟩
theorem sh_boolN {a : V} (h : HasSh a .bool) : ∃ b, a = .bool b := by cases h with | bool b => exact ⟨b, rfl⟩
theorem way_of_shN {vs : List V} (h : ListSh vs [.int .i64, .int .i64]) : ∃ w : Way, vs = wayV w ∧ True := by
  obtain ⟨hl, h⟩ := h
  match vs, hl with
  | [a, b], _ =>
    obtain ⟨x0, rfl, _⟩ := sh_int (h 0 _ _ rfl rfl)
    obtain ⟨x1, rfl, _⟩ := sh_int (h 1 _ _ rfl rfl)
    exact ⟨⟨x0, x1⟩, rfl, trivial⟩
theorem sh_intsN {a : V} (h : HasSh a (.slice [.int .i64])) : ∃ l : List Int, a = .slice (l.map intV1) := by
  obtain ⟨l, h1, _, _⟩ := sh_slice (f := intV1) (ok := fun _ => True) (fun e he => by
    obtain ⟨n, rfl, _⟩ := par_int he
    exact ⟨n, rfl, trivial⟩) h
  exact ⟨l, h1⟩
theorem bridge_of_sh {vs : List V} (h : ListSh vs [.int .u64, .slice [.int .i64], .str, .int .i64, .slice [.int .i64, .int .i64]]) : ∃ b : Bridge, vs = bridgeV b ∧ (0 ≤ b.addr ∧ b.region.ways.length ≤ 9223372036854775807) := by
  obtain ⟨hl, h⟩ := h
  match vs, hl with
  | [a, b, c, d, e], _ =>
    obtain ⟨x0, rfl, h0⟩ := sh_int (h 0 _ _ rfl rfl)
    obtain ⟨x1, rfl⟩ := sh_intsN (h 1 _ _ rfl rfl)
    obtain ⟨x2, rfl⟩ := sh_strN (h 2 _ _ rfl rfl)
    obtain ⟨x3, rfl, _⟩ := sh_int (h 3 _ _ rfl rfl)
    obtain ⟨x4, rfl, _, k⟩ := sh_slice (f := wayV) (ok := fun _ => True) (fun _ => way_of_shN) (h 4 _ _ rfl rfl)
    exact ⟨⟨x0, x1, ⟨x2, x3, x4⟩⟩, rfl, (wf_u64 h0).1, by simp only [maxLen] at k; exact k⟩
theorem link_of_sh {vs : List V} (h : ListSh vs [.int .i64, .int .i64, .int .i64, .int .i64, .int .i64, .bool]) : ∃ l : Link, vs = linkV l ∧ True := by
  obtain ⟨hl, h⟩ := h
  match vs, hl with
  | [a, b, c, d, e, g], _ =>
    obtain ⟨x0, rfl, _⟩ := sh_int (h 0 _ _ rfl rfl)
    obtain ⟨x1, rfl, _⟩ := sh_int (h 1 _ _ rfl rfl)
    obtain ⟨x2, rfl, _⟩ := sh_int (h 2 _ _ rfl rfl)
    obtain ⟨x3, rfl, _⟩ := sh_int (h 3 _ _ rfl rfl)
    obtain ⟨x4, rfl, _⟩ := sh_int (h 4 _ _ rfl rfl)
    obtain ⟨x5, rfl⟩ := sh_boolN (h 5 _ _ rfl rfl)
    exact ⟨⟨x0, x1, x2, x3, x4, x5⟩, rfl, trivial⟩
theorem par_net {vs : List V} (h : ListSh vs [.slice [.int .u64, .slice [.int .i64], .str, .int .i64, .slice [.int .i64, .int .i64]], .slice [.int .i64, .int .i64, .int .i64, .int .i64, .int .i64, .bool]]) :
    ∃ n : Net, vs = n.cells ∧ n.typed ∧ n.bridges.length ≤ maxLen ∧ n.links.length ≤ maxLen := by
  obtain ⟨hl, h⟩ := h
  match vs, hl with
  | [a, b], _ =>
    obtain ⟨bs, rfl, h1, k1⟩ := sh_slice (fun _ => bridge_of_sh) (h 0 _ _ rfl rfl)
    obtain ⟨ls, rfl, _, k2⟩ := sh_slice (fun _ => link_of_sh) (h 1 _ _ rfl rfl)
    exact ⟨⟨bs, ls⟩, rfl, ⟨fun b hb => (h1 b hb).1, fun b hb => (h1 b hb).2⟩, k1, k2⟩
end Go.Proofs.Ytkppkgahdoglpaa
