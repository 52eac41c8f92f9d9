/- Gates, and what leaves by them: what is said of them; mathematics. -/
import Derived.Test.YtpdoplmnedpdaaacBkL
import Derived.Test.YtpdoplmnedpdaaadBkf
import Derived.Test.YtpdoplmnedpdaaadRef
import Derived.Test.YtpdoplmnedpdaaadFrw
namespace Go.Proofs.Ytpdoplmnedpdaaa
open Go.RowKit

structure Gate where
  port : Int
  ways : List Int
  plain : Int
  opens : List Bool
def boolV1 (b : Bool) : List V := [.bool b]
instance : CellsI boolV1 1 := ⟨fun _ => rfl, fun _ d h => by simp [boolV1] at h; subst h; rfl⟩
instance : FlatI boolV1 := ⟨fun _ d h => by simp [boolV1] at h; subst h; exact .bool _⟩
def gateV (g : Gate) : List V := [.int .i64 g.port, .slice (g.ways.map intV1), .int .i64 g.plain, .slice (g.opens.map boolV1)]
instance : CellsI gateV 4 := ⟨fun _ => rfl, fun t d h => by
  simp only [gateV, List.mem_cons, List.mem_nil_iff, or_false] at h
  rcases h with rfl | rfl | rfl | rfl <;> rfl⟩
def Gate.zero : Gate := ⟨0, [], 0, []⟩
def waysG (last : Int) : List Int → Int
  | [] => 0
  | v :: r => if v < 1 ∨ 4094 < v then 3 else if v ≤ last then 2 else waysG v r
def Gate.bad (g : Gate) : Prop := g.port < 0 ∨ 30 < g.port ∨ g.plain < 0 ∨ 4094 < g.plain
instance gateBadDec (g : Gate) : Decidable g.bad := by unfold Gate.bad; infer_instance
def Gate.wrong1 (g : Gate) : Int := if g.bad then 3 else if 16 < g.opens.length then 5 else waysG 0 g.ways
def gatesW (last : Option Int) (i : Nat) : List Gate → Int × Nat
  | [] => (0, 0)
  | g :: r => if g.wrong1 ≠ 0 then (g.wrong1, i) else if last.any (fun p => decide (g.port ≤ p)) then (2, i) else gatesW (some g.port) (i + 1) r
def wrongG (l : List Gate) : Int × Nat := gatesW none 0 l
def lastG (l : List Gate) : Nat → Option Int
  | 0 => none
  | k + 1 => (l[k]?).map (·.port)
def lastI (ws : List Int) : Nat → Int
  | 0 => 0
  | k + 1 => (ws[k]?).getD 0
structure Gate.right (g : Gate) : Prop where
  b : ¬ g.bad
  o : g.opens.length ≤ 16
  w : ∀ v ∈ g.ways, 1 ≤ v ∧ v ≤ 4094
  s : g.ways.Pairwise (· < ·)
  n : g.ways.length ≤ 4094
structure rightG (l : List Gate) : Prop where
  g : ∀ g ∈ l, g.right
  s : l.Pairwise (fun a b => a.port < b.port)
  n : l.length ≤ 31
theorem waysG_zero : ∀ (ws : List Int) (last : Int), 0 ≤ last → last ≤ 4094 → waysG last ws = 0 → (∀ v ∈ ws, 1 ≤ v ∧ v ≤ 4094 ∧ last < v) ∧ ws.Pairwise (· < ·) ∧ (ws.length : Int) ≤ 4094 - last
  | [], last, _, _, _ => by simp; omega
  | w :: r, last, h1, h2, h => by
    rw [waysG] at h
    split at h
    · cases h
    · rename_i hb
      split at h
      · cases h
      · rename_i hl
        obtain ⟨k1, k2, k3⟩ := waysG_zero r w (by omega) (by omega) h
        refine ⟨fun u hu => ?_, List.pairwise_cons.2 ⟨fun u hu => (k1 u hu).2.2, k2⟩, by simp; omega⟩
        rcases List.mem_cons.1 hu with rfl | hu
        · omega
        · have := k1 u hu; omega
theorem wrong1_zero {g : Gate} (h : g.wrong1 = 0) : g.right := by
  unfold Gate.wrong1 at h
  split at h
  · cases h
  · rename_i hb
    split at h
    · cases h
    · rename_i ho
      obtain ⟨k1, k2, k3⟩ := waysG_zero g.ways 0 (by omega) (by omega) h
      exact ⟨hb, by omega, fun v hv => ⟨(k1 v hv).1, (k1 v hv).2.1⟩, k2, by omega⟩
theorem gatesW_zero : ∀ (l : List Gate) (last : Option Int) (i : Nat) (m : Int), -1 ≤ m → m ≤ 30 → (∀ p, last = some p → p = m) → (gatesW last i l).1 = 0 → (∀ g ∈ l, g.right ∧ ∀ p, last = some p → p < g.port) ∧ l.Pairwise (fun a b => a.port < b.port) ∧ ((last = none → m = -1) → (l.length : Int) ≤ 30 - m)
  | [], _, _, m, h1, h2, h3, _ => by simp; omega
  | g :: r, last, i, m, h1, h2, h3, h => by
    rw [gatesW] at h
    split at h
    · rename_i hn; exact absurd h hn
    · rename_i hz
      split at h
      · cases h
      · rename_i hl
        have hr := wrong1_zero (Decidable.not_not.1 hz)
        have hb := hr.b
        unfold Gate.bad at hb
        obtain ⟨k1, k2, k3⟩ := gatesW_zero r (some g.port) (i + 1) g.port (by omega) (by omega) (fun p hp => by injection hp with hp; exact hp.symm) h
        have hp : ∀ p, last = some p → p < g.port := fun p hp => by subst hp; simpa using hl
        refine ⟨fun u hu => ?_, List.pairwise_cons.2 ⟨fun u hu => (k1 u hu).2 _ rfl, k2⟩, fun hm => ?_⟩
        · rcases List.mem_cons.1 hu with rfl | hu
          · exact ⟨hr, hp⟩
          · exact ⟨(k1 u hu).1, fun p h => Int.lt_trans (hp p h) ((k1 u hu).2 _ rfl)⟩
        · have h4 := k3 (fun h => by cases h)
          have : m < g.port := by
            cases last with
            | none => rw [hm rfl]; omega
            | some p => rw [← h3 p rfl]; exact hp p rfl
          simp only [List.length_cons]; omega
theorem rightG_of {l : List Gate} (h : (wrongG l).1 = 0) : rightG l := by
  obtain ⟨k1, k2, k3⟩ := gatesW_zero l none 0 (-1) (by omega) (by omega) (fun p hp => by cases hp) h
  exact ⟨fun g hg => (k1 g hg).1, k2, by have := k3 (fun _ => rfl); omega⟩
theorem treeOf_in {ws : List Way} (h : ∀ w ∈ ws, ¬ w.bad) (v : Int) : 0 ≤ treeOf ws v ∧ treeOf ws v ≤ 15 := by
  induction ws with
  | nil => simp [treeOf]
  | cons w r ih =>
    rw [treeOf]
    split
    · have := h w (List.mem_cons.2 (.inl rfl)); unfold Way.bad at this; omega
    · exact ih (fun u hu => h u (List.mem_cons.2 (.inr hu)))
def Gate.passes (g : Gate) (r : Region) (v : Int) : Bool := decide (v ∈ g.ways) && (g.opens[(treeOf r.ways v).toNat]?).getD false
def wayOf (g : Gate) (f : Frame) : Int := if f.tagged = true ∧ f.vid ≠ 0 then f.vid else g.plain
def leaveF (g : Gate) (f : Frame) (v : Int) : Frame :=
  if g.plain = v then { f with tagged := false, prio := 0, drop := false, vid := 0 }
  else { f with tagged := true, prio := if f.tagged then f.prio else 0, drop := f.tagged && f.drop, vid := v }
def reservedB (a : Int) : Bool := decide (IntKind.u64.shrI a 4 = 103282638848)
abbrev OutF := Int × Frame
def outV (p : OutF) : List V := .int .i64 p.1 :: p.2.cells
instance : CellsI outV 9 := ⟨fun _ => rfl, fun t d h => by
  simp only [outV, Frame.cells, List.mem_cons, List.mem_nil_iff, or_false] at h
  rcases h with rfl | rfl | rfl | rfl | rfl | rfl | rfl | rfl | rfl <;> rfl⟩
def skipG (r : Region) (v port at' : Int) (known : Bool) (g : Gate) : Bool := decide (g.port = port) || (known && decide (g.port ≠ at')) || !g.passes r v
def outsG (r : Region) (gs : List Gate) (v port at' : Int) (known : Bool) (f : Frame) : List OutF := (gs.filter (fun g => !skipG r v port at' known g)).map (fun g => (g.port, leaveF g f v))
def blockB (g : Gate) (r : Region) (f : Frame) : Bool := decide (wayOf g f = 0) || !g.passes r (wayOf g f) || reservedB f.dst
/-- What leaves, and the book then, of a frame that came in by a gate. -/
def relayG (r : Region) (gs : List Gate) (l : List Ent) (port : Int) (f : Frame) (g : Gate) : List OutF × List Ent × Int :=
  if blockB g r f then ([], l, 0) else
    (outsG r gs (wayOf g f) port (lookS (learnL l (wayOf g f) f.src port) (wayOf g f) f.dst).1 (lookS (learnL l (wayOf g f) f.src port) (wayOf g f) f.dst).2 f, learnL l (wayOf g f) f.src port, 0)
def gateAt (gs : List Gate) (port : Int) : Option Gate := gs.find? (fun g => decide (g.port = port))
def relayT (r : Region) (gs : List Gate) (l : List Ent) (port : Int) (f : Frame) : List OutF × List Ent × Int :=
  match gateAt gs port with
  | none => ([], [], 6)
  | some g => relayG r gs l port f g
theorem relayT_none {r : Region} {gs : List Gate} {l : List Ent} {port : Int} {f : Frame} (h : gateAt gs port = none) : relayT r gs l port f = ([], [], 6) := by unfold relayT; rw [h]
theorem relayT_some {r : Region} {gs : List Gate} {l : List Ent} {port : Int} {f : Frame} {g : Gate} (h : gateAt gs port = some g) : relayT r gs l port f = relayG r gs l port f g := by unfold relayT; rw [h]
/-- What leaves, the book then, and what is wrong. -/
def relayS (r : Region) (gs : List Gate) (l : List Ent) (port : Int) (f : Frame) : List OutF × List Ent × Int :=
  if r.wrong ≠ 0 then ([], [], r.wrong) else if (wrongG gs).1 ≠ 0 then ([], [], (wrongG gs).1) else if (wrongB l).1 ≠ 0 then ([], [], (wrongB l).1) else if f.wrong ≠ 0 then ([], [], f.wrong)
  else relayT r gs l port f
structure AllRight (r : Region) (gs : List Gate) (l : List Ent) (f : Frame) : Prop where
  r : r.wrong = 0
  g : (wrongG gs).1 = 0
  b : (wrongB l).1 = 0
  f : f.wrong = 0
theorem relayS_right {r : Region} {gs : List Gate} {l : List Ent} {port : Int} {f : Frame} (h : AllRight r gs l f) : relayS r gs l port f = relayT r gs l port f := by
  unfold relayS; rw [if_neg (fun k => k h.r), if_neg (fun k => k h.g), if_neg (fun k => k h.b), if_neg (fun k => k h.f)]
theorem idxP_find {α : Type} {p : α → Bool} : ∀ {l : List α} {k : Nat}, (idxP p l k = -1 ∧ l.find? p = none) ∨ ∃ n x, idxP p l k = ((k + n : Nat) : Int) ∧ l[n]? = some x ∧ l.find? p = some x
  | [], _ => .inl ⟨rfl, rfl⟩
  | x :: r, k => by
    rw [idxP]
    by_cases hx : p x = true
    · rw [if_pos hx]
      exact .inr ⟨0, x, by rfl, rfl, by rw [List.find?_cons_of_pos hx]⟩
    · rw [if_neg hx]
      rcases idxP_find (p := p) (l := r) (k := k + 1) with ⟨h1, h2⟩ | ⟨n, y, h1, h2, h3⟩
      · exact .inl ⟨h1, by rw [List.find?_cons_of_neg hx, h2]⟩
      · exact .inr ⟨n + 1, y, by rw [h1]; congr 1; omega, h2, by rw [List.find?_cons_of_neg hx, h3]⟩
/-- slices.BinarySearch finds what is there. -/
def bsW (ws : List Int) (v : Int) : Nat := bsG (fun x => x - v) 0 ws ws.length 0 ws.length
theorem bsW_spec {ws : List Int} (hs : ws.Pairwise (· < ·)) (v : Int) : (decide (bsW ws v < ws.length) && decide (ws.getD (bsW ws v) 0 = v)) = decide (v ∈ ws) := by
  have hsplit : ∃ l1 l2, ws = l1 ++ l2 ∧ (∀ x ∈ l1, x < v) ∧ ∀ x ∈ l2, ¬ x < v := by
    induction ws with
    | nil => exact ⟨[], [], rfl, by simp, by simp⟩
    | cons x r ih =>
      obtain ⟨h1, h2⟩ := List.pairwise_cons.1 hs
      by_cases hx : x < v
      · obtain ⟨l1, l2, e, k1, k2⟩ := ih h2
        exact ⟨x :: l1, l2, by rw [e]; rfl, fun y hy => (List.mem_cons.1 hy).elim (fun h => h ▸ hx) (k1 y), k2⟩
      · refine ⟨[], x :: r, rfl, by simp, fun y hy => ?_⟩
        rcases List.mem_cons.1 hy with rfl | hy
        · exact hx
        · have := h1 y hy; omega
  obtain ⟨l1, l2, rfl, k1, k2⟩ := hsplit
  have hb : bsW (l1 ++ l2) v = l1.length := by
    refine bsG_spec (fun k hk => ?_) (fun k hk hk2 => ?_) (by simp) _ _ _ (by omega) (by omega) (by simp) (by omega)
    · have : (l1 ++ l2).getD k 0 ∈ l1 := by
        rw [List.getD_eq_getElem?_getD, List.getElem?_append_left hk, List.getElem?_eq_getElem hk]; exact List.getElem_mem hk
      have := k1 _ this; show (l1 ++ l2).getD k 0 - v < 0; omega
    · have : (l1 ++ l2).getD k 0 ∈ l2 := by
        rw [List.length_append] at hk2
        rw [List.getD_eq_getElem?_getD, List.getElem?_append_right hk, List.getElem?_eq_getElem (by omega)]; exact List.getElem_mem _
      have := k2 _ this; show ¬ (l1 ++ l2).getD k 0 - v < 0; omega
  rw [hb]
  rw [Bool.eq_iff_iff]
  simp only [Bool.and_eq_true, decide_eq_true_eq, List.length_append]
  constructor
  · rintro ⟨h1, h2⟩
    rw [List.getD_eq_getElem?_getD, List.getElem?_append_right (Nat.le_refl _), Nat.sub_self, List.getElem?_eq_getElem (by omega)] at h2
    rw [← h2]
    exact List.mem_append.2 (.inr (List.getElem_mem _))
  · intro hm
    rcases List.mem_append.1 hm with h | h
    · have := k1 v h; omega
    · obtain ⟨a, r, rfl⟩ : ∃ a r, l2 = a :: r := by cases l2 with | nil => cases h | cons a r => exact ⟨a, r, rfl⟩
      refine ⟨by simp, ?_⟩
      rw [List.getD_eq_getElem?_getD, List.getElem?_append_right (Nat.le_refl _), Nat.sub_self]
      simp only [List.getElem?_cons_zero, Option.getD_some]
      rcases List.mem_cons.1 h with rfl | h
      · rfl
      · have h1 : ¬ a < v := k2 a (List.mem_cons.2 (.inl rfl))
        have h2 := (List.pairwise_cons.1 (List.pairwise_append.1 hs).2.1).1 v h
        omega
end Go.Proofs.Ytpdoplmnedpdaaa
