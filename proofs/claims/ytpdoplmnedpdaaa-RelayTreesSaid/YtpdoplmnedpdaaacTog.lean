/- A gate that is open, or shut, on another tree: relaying is the same; mathematics. -/
import Derived.Test.YtpdoplmnedpdaaadSam
namespace Go.Proofs.Ytpdoplmnedpdaaa
open Go.RowKit

/-- As far as a way is concerned, the same gate. -/
structure SimG (r : Region) (v : Int) (a b : Gate) : Prop where
  p : a.port = b.port
  w : a.ways = b.ways
  l : a.plain = b.plain
  n : a.opens.length = b.opens.length
  s : a.passes r v = b.passes r v
theorem SimG.refl (r : Region) (v : Int) (a : Gate) : SimG r v a a := ⟨rfl, rfl, rfl, rfl, rfl⟩
theorem SimG.wrong {r : Region} {v : Int} {a b : Gate} (h : SimG r v a b) : a.wrong1 = b.wrong1 := by
  have hb : a.bad ↔ b.bad := by unfold Gate.bad; rw [h.p, h.l]
  unfold Gate.wrong1
  by_cases hx : b.bad
  · rw [if_pos hx, if_pos (hb.2 hx)]
  · rw [if_neg hx, if_neg (fun k => hx (hb.1 k)), h.w, h.n]
inductive SimL (r : Region) (v : Int) : List Gate → List Gate → Prop
  | nil : SimL r v [] []
  | cons {a b : Gate} {x y : List Gate} (h : SimG r v a b) (t : SimL r v x y) : SimL r v (a :: x) (b :: y)
theorem SimL.refl (r : Region) (v : Int) : ∀ l : List Gate, SimL r v l l
  | [] => .nil
  | a :: l => .cons (.refl r v a) (SimL.refl r v l)
theorem SimL.set {r : Region} {v : Int} : ∀ {l : List Gate} {k : Nat} {a b : Gate}, l[k]? = some a → SimG r v a b → SimL r v l (l.set k b)
  | [], k, a, b, h, _ => by simp at h
  | x :: l, 0, a, b, h, hs => by
    simp at h
    subst h
    exact .cons hs (.refl r v l)
  | x :: l, k + 1, a, b, h, hs => .cons (.refl r v x) (SimL.set (by simpa using h) hs)
theorem SimL.wrong {r : Region} {v : Int} {x y : List Gate} (h : SimL r v x y) : ∀ (last : Option Int) (i : Nat), gatesW last i x = gatesW last i y := by
  induction h with
  | nil => intros; rfl
  | cons h t ih =>
    intro last i
    rw [gatesW, gatesW, h.wrong, h.p, ih]
theorem SimL.at {r : Region} {v : Int} {x y : List Gate} (h : SimL r v x y) {port : Int} {g : Gate} (hg : gateAt x port = some g) : ∃ g', gateAt y port = some g' ∧ SimG r v g g' := by
  unfold gateAt at *
  induction h with
  | nil => simp at hg
  | @cons a b x y h t ih =>
    by_cases hp : a.port = port
    · rw [List.find?_cons_of_pos (by simp [hp])] at hg
      injection hg with hg
      subst hg
      exact ⟨b, by rw [List.find?_cons_of_pos (by simp [← h.p, hp])], h⟩
    · rw [List.find?_cons_of_neg (by simp [hp])] at hg
      obtain ⟨g', e1, e2⟩ := ih hg
      exact ⟨g', by rw [List.find?_cons_of_neg (by simp [← h.p, hp])]; exact e1, e2⟩
theorem SimL.outs {r : Region} {v : Int} {x y : List Gate} (h : SimL r v x y) (port at' : Int) (known : Bool) (f : Frame) : outsG r x v port at' known f = outsG r y v port at' known f := by
  unfold outsG
  induction h with
  | nil => rfl
  | @cons a b x y h t ih =>
    have hs : skipG r v port at' known a = skipG r v port at' known b := by unfold skipG; rw [h.p, h.s]
    have hl : leaveF a f v = leaveF b f v := by unfold leaveF; rw [h.l]
    rw [List.filter_cons, List.filter_cons, hs]
    split
    · rw [List.map_cons, List.map_cons, h.p, hl, ih]
    · exact ih
theorem tog_sim {r : Region} {v : Int} {u : Gate} {t : Nat} (b : Bool) (ht : (t : Int) ≠ treeOf r.ways v) (h0 : 0 ≤ treeOf r.ways v) : SimG r v u { u with opens := u.opens.set t b } := by
  refine ⟨rfl, rfl, rfl, by simp, ?_⟩
  unfold Gate.passes
  simp only
  rw [List.getElem?_set_ne (by omega)]
/-- What the law says. -/
theorem relay_tog {r : Region} {gs : List Gate} {l : List Ent} {port : Int} {f : Frame} {g u : Gate} {w t : Nat} (b : Bool) (ha : AllRight r gs l f) (hg : gateAt gs port = some g) (hu : gs[w]? = some u)
    (ht : (t : Int) ≠ treeOf r.ways (wayOf g f)) (h0 : 0 ≤ treeOf r.ways (wayOf g f)) : relayS r (gs.set w { u with opens := u.opens.set t b }) l port f = relayG r gs l port f g := by
  have hl : SimL r (wayOf g f) gs (gs.set w { u with opens := u.opens.set t b }) := SimL.set hu (tog_sim b ht h0)
  obtain ⟨g', e1, e2⟩ := hl.at hg
  have hw : wrongG (gs.set w { u with opens := u.opens.set t b }) = wrongG gs := (hl.wrong none 0).symm
  rw [relayS_right ⟨ha.r, by rw [hw]; exact ha.g, ha.b, ha.f⟩, relayT_some e1]
  have hv : wayOf g' f = wayOf g f := by unfold wayOf; rw [e2.l]
  unfold relayG blockB
  rw [hv, ← e2.s]
  split
  · rfl
  · rw [hl.outs]
end Go.Proofs.Ytpdoplmnedpdaaa
