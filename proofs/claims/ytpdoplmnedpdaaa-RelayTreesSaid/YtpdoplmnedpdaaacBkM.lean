/- Books: what is said of them; mathematics. -/
import Derived.Test.YtpdoplmnedpdaaacCmp
import Derived.Test.YtpdoplmnedpdaaabFz
import Derived.Test.YtpdoplmnedpdaaabRg
namespace Go.Proofs.Ytpdoplmnedpdaaa
open Go.RowKit

structure Ent where
  vid : Int
  addr : Int
  port : Int
  age : Int
def entV (e : Ent) : List V := [.int .i64 e.vid, .int .u64 e.addr, .int .i64 e.port, .int .i64 e.age]
instance : CellsI entV 4 := ⟨fun _ => rfl, fun t d h => by
  simp only [entV, List.mem_cons, List.mem_nil_iff, or_false] at h
  rcases h with rfl | rfl | rfl | rfl <;> rfl⟩
instance : FlatI entV := ⟨fun t d h => by
  simp only [entV, List.mem_cons, List.mem_nil_iff, or_false] at h
  rcases h with rfl | rfl | rfl | rfl <;> exact .int _ _⟩
def noEnt : Ent := ⟨0, 0, 0, 0⟩
def Ent.bad (e : Ent) : Prop := e.vid < 1 ∨ 4094 < e.vid ∨ 281474976710655 < e.addr ∨ e.port < 0 ∨ 30 < e.port ∨ e.age < 0 ∨ 300 < e.age
instance (e : Ent) : Decidable e.bad := by unfold Ent.bad; infer_instance
/-- It stands ahead of that way and address. -/
def Ent.lt (e : Ent) (v a : Int) : Prop := e.vid < v ∨ e.vid = v ∧ e.addr < a
instance (e : Ent) (v a : Int) : Decidable (e.lt v a) := by unfold Ent.lt; infer_instance
def Ent.is (e : Ent) (v a : Int) : Prop := e.vid = v ∧ e.addr = a
instance (e : Ent) (v a : Int) : Decidable (e.is v a) := by unfold Ent.is; infer_instance
def Ent.cmp (e : Ent) (v a : Int) : Int := orI [cmpI e.vid v, cmpI e.addr a]
theorem Ent.cmp_lt (e : Ent) (v a : Int) : e.cmp v a < 0 ↔ e.lt v a := by
  unfold Ent.cmp Ent.lt
  simp only [orI, cmpI]
  repeat' split
  all_goals (first | omega | (constructor <;> intro h <;> omega))
theorem Ent.cmp_is (e : Ent) (v a : Int) : e.cmp v a = 0 ↔ e.is v a := by
  unfold Ent.cmp Ent.is
  simp only [orI, cmpI]
  repeat' split
  all_goals (first | omega | (constructor <;> intro h <;> omega))
theorem Ent.lt_irrefl (e : Ent) : ¬ e.lt e.vid e.addr := by unfold Ent.lt; omega
theorem Ent.lt_trans {x y : Ent} {v a : Int} (h : x.lt y.vid y.addr) (k : y.lt v a) : x.lt v a := by unfold Ent.lt at *; omega
def bookW (last : Option Ent) (i : Nat) : List Ent → Int × Nat
  | [] => (0, 0)
  | e :: r => if e.bad then (3, i) else if last.any (fun p => !decide (p.lt e.vid e.addr)) then (2, i) else bookW (some e) (i + 1) r
def wrongB (l : List Ent) : Int × Nat := if 30 < l.length then (5, 0) else bookW none 0 l
def faultV (p : Int × Nat) : V := .agg [.int .i64 p.1, .int .i64 p.2]
structure rightB (l : List Ent) : Prop where
  n : l.length ≤ 30
  w : ∀ e ∈ l, ¬ e.bad
  s : l.Pairwise (fun x y => x.lt y.vid y.addr)
theorem bookW_zero : ∀ (l : List Ent) (last : Option Ent) (i : Nat), (bookW last i l).1 = 0 → (∀ e ∈ l, ¬ e.bad ∧ ∀ p, last = some p → p.lt e.vid e.addr) ∧ l.Pairwise (fun x y => x.lt y.vid y.addr)
  | [], _, _, _ => by simp
  | e :: r, last, i, h => by
    rw [bookW] at h
    split at h
    · cases h
    · rename_i hb
      split at h
      · cases h
      · rename_i hl
        obtain ⟨k1, k2⟩ := bookW_zero r (some e) (i + 1) h
        have hp : ∀ p, last = some p → p.lt e.vid e.addr := fun p hp => by subst hp; simpa using hl
        refine ⟨fun u hu => ?_, List.pairwise_cons.2 ⟨fun u hu => (k1 u hu).2 e rfl, k2⟩⟩
        rcases List.mem_cons.1 hu with rfl | hu
        · exact ⟨hb, hp⟩
        · exact ⟨(k1 u hu).1, fun p h => Ent.lt_trans (hp p h) ((k1 u hu).2 e rfl)⟩
theorem right_of {l : List Ent} (h : (wrongB l).1 = 0) : rightB l := by
  unfold wrongB at h
  split at h
  · cases h
  · rename_i hn
    obtain ⟨k1, k2⟩ := bookW_zero l none 0 h
    exact ⟨by omega, fun e he => (k1 e he).1, k2⟩
theorem bookW_right : ∀ (l : List Ent) (last : Option Ent) (i : Nat), (∀ e ∈ l, ¬ e.bad ∧ ∀ p, last = some p → p.lt e.vid e.addr) → l.Pairwise (fun x y => x.lt y.vid y.addr) → bookW last i l = (0, 0)
  | [], _, _, _, _ => rfl
  | e :: r, last, i, h, hs => by
    obtain ⟨h1, h2⟩ := List.pairwise_cons.1 hs
    have he := h e (List.mem_cons.2 (.inl rfl))
    have hl : ¬ (last.any (fun p => !decide (p.lt e.vid e.addr)) = true) := by
      cases last with
      | none => simp
      | some p => simpa using he.2 p rfl
    rw [bookW, if_neg he.1, if_neg hl]
    exact bookW_right r (some e) (i + 1) (fun u hu => ⟨(h u (List.mem_cons.2 (.inr hu))).1, fun p hp => by injection hp with hp; subst hp; exact h1 u hu⟩) h2
theorem right_w {l : List Ent} (h : rightB l) : wrongB l = (0, 0) := by
  unfold wrongB
  rw [if_neg (by have := h.n; omega)]
  exact bookW_right l none 0 (fun e he => ⟨h.w e he, fun p hp => by cases hp⟩) h.s

/-- slices.BinarySearchFunc, as it goes. -/
def bsG {α : Type} (c : α → Int) (d : α) (l : List α) : Nat → Nat → Nat → Nat
  | 0, i, _ => i
  | f + 1, i, j => if i < j then (if c (l.getD ((i + j) / 2) d) < 0 then bsG c d l f ((i + j) / 2 + 1) j else bsG c d l f i ((i + j) / 2)) else i
theorem bsG_end {α : Type} {c : α → Int} {d : α} {l : List α} {f i j : Nat} (h : ¬ i < j) : bsG c d l f i j = i := by
  cases f with
  | zero => rfl
  | succ f => rw [bsG, if_neg h]
theorem bsG_spec {α : Type} {c : α → Int} {d : α} {l : List α} {n : Nat} (hn : ∀ k, k < n → (c (l.getD k d) < 0)) (hn2 : ∀ k, n ≤ k → k < l.length → ¬ c (l.getD k d) < 0) (hnl : n ≤ l.length) :
    ∀ (f i j : Nat), j - i ≤ f → i ≤ n → n ≤ j → j ≤ l.length → bsG c d l f i j = n
  | 0, i, j, h1, h2, h3, h4 => by rw [bsG]; omega
  | f + 1, i, j, h1, h2, h3, h4 => by
    rw [bsG]
    split
    · split
      · rename_i hlt hc
        refine bsG_spec hn hn2 hnl f _ j (by omega) ?_ h3 h4
        by_cases hk : n ≤ (i + j) / 2
        · exact absurd hc (hn2 _ hk (by omega))
        · omega
      · rename_i hlt hc
        refine bsG_spec hn hn2 hnl f i _ (by omega) h2 ?_ (by omega)
        by_cases hk : (i + j) / 2 < n
        · exact absurd (hn _ hk) hc
        · omega
    · omega
/-- Where an address is, or would stand. -/
def findI (l : List Ent) (v a : Int) : Nat := bsG (fun e => e.cmp v a) noEnt l l.length 0 l.length
def findB (l : List Ent) (v a : Int) : Bool := decide (findI l v a < l.length) && decide ((l.getD (findI l v a) noEnt).cmp v a = 0)
theorem bsG_le {α : Type} {c : α → Int} {d : α} {l : List α} : ∀ (f i j : Nat), i ≤ j → i ≤ bsG c d l f i j ∧ bsG c d l f i j ≤ j
  | 0, i, j, h => by rw [bsG]; omega
  | f + 1, i, j, h => by
    rw [bsG]
    split
    · split
      · have := bsG_le (c := c) (d := d) (l := l) f ((i + j) / 2 + 1) j (by omega); omega
      · have := bsG_le (c := c) (d := d) (l := l) f i ((i + j) / 2) (by omega); omega
    · omega
theorem findI_le (l : List Ent) (v a : Int) : findI l v a ≤ l.length := (bsG_le l.length 0 l.length (Nat.zero_le _)).2
def lookE (l : List Ent) (v a : Int) : Int × Bool := if findB l v a then ((l.getD (findI l v a) noEnt).port, true) else (0, false)
def Ent.old (e : Ent) (later : Int) : Option Ent := if 0 ≤ later ∧ later ≤ 300 - e.age then some { e with age := e.age + later } else none
def oldL (l : List Ent) (later : Int) : List Ent := l.filterMap (·.old later)
def isGroup (a : Int) : Bool := decide (IntKind.u64.andI (IntKind.u64.shrI a 40) 1 = 1)
def putsB (v a p : Int) : Bool := isGroup a || decide (281474976710655 < a) || decide (v < 1) || decide (4094 < v) || decide (p < 0) || decide (30 < p)
def learnL (l : List Ent) (v a p : Int) : List Ent :=
  if putsB v a p then l else if findB l v a then l.set (findI l v a) ⟨v, a, p, 0⟩ else if l.length < 30 then l.take (findI l v a) ++ ⟨v, a, p, 0⟩ :: l.drop (findI l v a) else l
def flushL (l : List Ent) (p : Int) (ways : List Int) : List Ent := l.filter fun e => !(decide (e.port = p) && decide (e.vid ∈ ways))
end Go.Proofs.Ytpdoplmnedpdaaa
