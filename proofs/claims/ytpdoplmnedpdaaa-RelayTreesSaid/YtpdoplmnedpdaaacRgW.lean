/- Regions: what is said of them. -/
import Derived.Test.YtpdoplmnedpdaaaTy
import Derived.Test.YtpdoplmnedpdaaabRg
import Derived.Test.YtpdoplmnedpdaaabFz
namespace Go.Proofs.Ytpdoplmnedpdaaa
open Go.RowKit

structure Way where
  vid : Int
  tree : Int
def wayV (w : Way) : List V := [.int .i64 w.vid, .int .i64 w.tree]
instance : CellsI wayV 2 := ⟨fun _ => rfl, fun t d h => by
  simp only [wayV, List.mem_cons, List.mem_nil_iff, or_false] at h
  rcases h with rfl | rfl <;> rfl⟩
instance : FlatI wayV := ⟨fun t d h => by
  simp only [wayV, List.mem_cons, List.mem_nil_iff, or_false] at h
  rcases h with rfl | rfl <;> exact .int _ _⟩
structure Region where
  name : List UInt8
  rev : Int
  ways : List Way
def Region.cells (r : Region) : List V := [.str r.name, .int .i64 r.rev, .slice (r.ways.map wayV)]
def Region.v (r : Region) : V := .agg r.cells
def Way.bad (w : Way) : Prop := w.vid < 1 ∨ 4094 < w.vid ∨ w.tree < 1 ∨ 15 < w.tree
instance wayBadDec (w : Way) : Decidable w.bad := by unfold Way.bad; infer_instance
def waysW (last : Int) : List Way → Int
  | [] => 0
  | w :: r => if w.bad then 3 else if w.vid ≤ last then 2 else waysW w.vid r
def okC (c : UInt8) : Bool := 32 ≤ c.toNat && c.toNat ≤ 126
def Region.wrong (r : Region) : Int :=
  if r.name.length < 1 ∨ 32 < r.name.length then 7 else if r.name.all okC = false then 7 else if r.rev < 0 ∨ 65535 < r.rev then 3 else waysW 0 r.ways
def treeOf : List Way → Int → Int
  | [], _ => 0
  | w :: r, v => if w.vid = v then w.tree else treeOf r v
structure Region.right (r : Region) : Prop where
  n1 : 1 ≤ r.name.length
  n2 : r.name.length ≤ 32
  nc : r.name.all okC = true
  r0 : 0 ≤ r.rev
  r1 : r.rev ≤ 65535
  w : ∀ w ∈ r.ways, ¬ w.bad
  s : r.ways.Pairwise (fun a b => a.vid < b.vid)
  l : r.ways.length ≤ 4094
theorem waysW_zero : ∀ (ws : List Way) (last : Int), 0 ≤ last → last ≤ 4094 → waysW last ws = 0 → (∀ w ∈ ws, ¬ w.bad ∧ last < w.vid) ∧ ws.Pairwise (fun a b => a.vid < b.vid) ∧ (ws.length : Int) ≤ 4094 - last
  | [], last, _, _, _ => by simp; omega
  | w :: r, last, h1, h2, h => by
    rw [waysW] at h
    split at h
    · cases h
    · rename_i hb
      split at h
      · cases h
      · rename_i hl
        have hb' := hb
        unfold Way.bad at hb'
        obtain ⟨k1, k2, k3⟩ := waysW_zero r w.vid (by omega) (by omega) h
        refine ⟨fun u hu => ?_, List.pairwise_cons.2 ⟨fun u hu => (k1 u hu).2, k2⟩, by simp; omega⟩
        rcases List.mem_cons.1 hu with rfl | hu
        · exact ⟨hb, by omega⟩
        · exact ⟨(k1 u hu).1, by have := (k1 u hu).2; omega⟩
theorem Region.right_of {r : Region} (h : r.wrong = 0) : r.right := by
  unfold Region.wrong at h
  split at h
  · cases h
  · split at h
    · cases h
    · split at h
      · cases h
      · rename_i a b c
        obtain ⟨k1, k2, k3⟩ := waysW_zero _ _ (by decide) (by decide) h
        exact ⟨by omega, by omega, by simpa using b, by omega, by omega, fun w hw => (k1 w hw).1, k2, by omega⟩
theorem treeOf_none {ws : List Way} {v : Int} (h : ∀ w ∈ ws, w.vid ≠ v) : treeOf ws v = 0 := by
  induction ws with
  | nil => rfl
  | cons w r ih =>
    rw [treeOf, if_neg (h w (List.mem_cons.2 (.inl rfl)))]
    exact ih (fun u hu => h u (List.mem_cons.2 (.inr hu)))
theorem treeOf_at {ws : List Way} {v : Int} (hs : ws.Pairwise (fun a b => a.vid < b.vid)) {i : Nat} {w : Way} (hi : ws[i]? = some w) (hv : w.vid = v) : treeOf ws v = w.tree := by
  induction ws generalizing i with
  | nil => cases hi
  | cons u r ih =>
    obtain ⟨h1, h2⟩ := List.pairwise_cons.1 hs
    rw [treeOf]
    cases i with
    | zero =>
      simp at hi
      subst hi
      rw [if_pos hv]
    | succ i =>
      have hi : r[i]? = some w := by simpa using hi
      have := h1 w (List.mem_of_getElem? hi)
      rw [if_neg (by omega)]
      exact ih h2 hi
end Go.Proofs.Ytpdoplmnedpdaaa
