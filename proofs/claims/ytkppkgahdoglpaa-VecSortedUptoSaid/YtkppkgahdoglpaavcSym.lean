/- What insertionSort and symMerge hold at each turn; mathematics. -/
import Derived.Test.YtkppkgahdoglpaavdSwr
namespace Go.Proofs.Ytkppkgahdoglpaa
open Go.RowKit
theorem Vec.lt_of_le {a b c : Vec} (h : a.le b = true) (k : b.cmp c < 0) : a.cmp c < 0 := by rw [Vec.le_iff'] at h; rw [Vec.cmp_neg] at *; omega
theorem Vec.lt_of_lt {a b c : Vec} (h : a.cmp b < 0) (k : b.le c = true) : a.cmp c < 0 := by rw [Vec.le_iff'] at k; rw [Vec.cmp_neg] at *; omega
theorem Vec.not_lt {a b : Vec} (h : ¬ a.cmp b < 0) : b.le a = true := by rw [Vec.le_iff]; exact h
theorem sortSeg_mem {xs : List Vec} {a b p : Nat} (h : a ≤ b) (hb : b ≤ xs.length) (h1 : a ≤ p) (h2 : p < b) : ∃ q, a ≤ q ∧ q < b ∧ vat (sortSeg xs a b) p = vat xs q := by
  have e1 : (xs.take a).length = a := by rw [List.length_take]; omega
  have e2 : (sortL ((xs.take b).drop a)).length = b - a := by rw [sortL_len, List.length_drop, List.length_take]; omega
  have hk : p - a < (sortL ((xs.take b).drop a)).length := by omega
  have key : vat (sortSeg xs a b) p = (sortL ((xs.take b).drop a))[p - a] := by
    apply vat_eq
    unfold sortSeg
    rw [List.getElem?_append_right (by omega), e1, List.getElem?_append_left (by omega), List.getElem?_eq_getElem hk]
  have hm : (sortL ((xs.take b).drop a))[p - a] ∈ (xs.take b).drop a := (sortL_perm _).mem_iff.1 (List.getElem_mem hk)
  obtain ⟨j, hj, he⟩ := List.getElem_of_mem hm
  rw [List.length_drop, List.length_take] at hj
  refine ⟨a + j, by omega, by omega, ?_⟩
  rw [key, ← he, List.getElem_drop, List.getElem_take]
  exact (vat_eq (List.getElem?_eq_getElem (by omega))).symm
structure Ins (xs ys : List Vec) (a i j : Nat) : Prop where
  p : ys.Perm xs
  o : ∀ k, k < a ∨ i + 1 ≤ k → vat ys k = vat xs k
  s : ∀ x y, a ≤ x → x < y → y ≤ i → x ≠ j → y ≠ j → (vat ys x).le (vat ys y) = true
  l : ∀ y, j < y → y ≤ i → (vat ys j).le (vat ys y) = true
theorem Ins.start {xs : List Vec} {a i : Nat} (h : a ≤ i) (hi : i < xs.length) : Ins xs (sortSeg xs a i) a i i := by
  refine ⟨sortSeg_perm xs h, fun k hk => sortSeg_out h (by omega) (by omega), fun x y h1 h2 h3 h4 h5 => sortSeg_srt h (by omega) x y h1 h2 (by omega), fun y h1 h2 => by omega⟩
theorem Ins.step {xs ys : List Vec} {a i j : Nat} (h : Ins xs ys a i j) (haj : a < j) (hji : j ≤ i) (hi : i < xs.length) (hc : (vat ys j).cmp (vat ys (j - 1)) < 0) : Ins xs (swp ys j (j - 1)) a i (j - 1) := by
  have hl := h.p.length_eq
  have hat := swp_at (xs := ys) (i := j) (j := j - 1) (by omega) (by omega)
  refine ⟨(swp_perm (by omega) (by omega)).trans h.p, fun k hk => ?_, fun x y h1 h2 h3 h4 h5 => ?_, fun y h1 h2 => ?_⟩
  · rw [hat, if_neg (by omega), if_neg (by omega)]
    exact h.o k hk
  · rw [hat, hat, if_neg h4, if_neg h5]
    by_cases e1 : x = j
    · subst e1
      rw [if_pos rfl, if_neg (by omega)]
      exact h.s (x - 1) y (by omega) (by omega) h3 (by omega) (by omega)
    · rw [if_neg e1]
      by_cases e2 : y = j
      · subst e2
        rw [if_pos rfl]
        exact h.s x (y - 1) h1 (by omega) (by omega) e1 (by omega)
      · rw [if_neg e2]
        exact h.s x y h1 h2 h3 e1 e2
  · rw [hat, hat, if_pos rfl, if_neg (by omega)]
    by_cases e : y = j
    · subst e
      rw [if_pos rfl]
      exact Vec.lt_le hc
    · rw [if_neg e]
      exact h.l y (by omega) h2
theorem Ins.stop {xs ys : List Vec} {a i j : Nat} (h : Ins xs ys a i j) (haj : a ≤ j) (hji : j ≤ i) (hi : i < xs.length) (hc : j = a ∨ ¬ (vat ys j).cmp (vat ys (j - 1)) < 0) : ys = sortSeg xs a (i + 1) := by
  refine sortSeg_eq (by omega) (by omega) h.p h.o (fun x y h1 h2 h3 => ?_)
  by_cases e1 : x = j
  · subst e1
    exact h.l y h2 (by omega)
  · by_cases e2 : y = j
    · subst e2
      rcases hc with hc | hc
      · omega
      · have hle : (vat ys (y - 1)).le (vat ys y) = true := Vec.not_lt hc
        by_cases e3 : x = y - 1
        · subst e3; exact hle
        · exact Vec.le_trans (h.s x (y - 1) h1 (by omega) (by omega) e1 (by omega)) hle
    · exact h.s x y h1 h2 (by omega) e1 e2
structure Up (xs ys : List Vec) (a k : Nat) : Prop where
  p : ys.Perm xs
  v : ∀ q, vat ys q = if a ≤ q ∧ q < k then vat xs (q + 1) else if q = k then vat xs a else vat xs q
theorem Up.start (xs : List Vec) (a : Nat) : Up xs xs a a := ⟨List.Perm.refl _, fun q => by
  rw [if_neg (by omega)]; split
  · rename_i h; rw [h]
  · rfl⟩
theorem Up.step {xs ys : List Vec} {a k : Nat} (h : Up xs ys a k) (hak : a ≤ k) (hk : k + 1 < xs.length) : Up xs (swp ys k (k + 1)) a (k + 1) := by
  have hl := h.p.length_eq
  have hat := swp_at (xs := ys) (i := k) (j := k + 1) (by omega) (by omega)
  refine ⟨(swp_perm (by omega) (by omega)).trans h.p, fun q => ?_⟩
  rw [hat, h.v, h.v, h.v]
  by_cases e1 : q = k + 1
  · rw [if_pos e1, if_neg (by omega), if_pos rfl, if_neg (by omega), if_pos e1]
  · rw [if_neg e1]
    by_cases e2 : q = k
    · rw [if_pos e2, if_neg (by omega), if_neg (by omega), if_pos (by omega), e2]
    · rw [if_neg e2]
      by_cases e3 : a ≤ q ∧ q < k
      · rw [if_pos e3, if_pos (by omega)]
      · rw [if_neg e3, if_neg e2, if_neg (by omega), if_neg e1]
theorem Up.stop {xs ys : List Vec} {a b i : Nat} (h : Up xs ys a (i - 1)) (hai : a + 1 ≤ i) (hib : i ≤ b) (hb : b ≤ xs.length) (hs : Srt xs (a + 1) b) (h1 : ∀ q, a + 1 ≤ q → q < i → (vat xs q).cmp (vat xs a) < 0) (h2 : ∀ q, i ≤ q → q < b → ¬ (vat xs q).cmp (vat xs a) < 0) : ys = sortSeg xs a b := by
  refine sortSeg_eq (by omega) hb h.p (fun k hk => by rw [h.v, if_neg (by omega), if_neg (by omega)]) (fun x y g1 g2 g3 => ?_)
  rw [h.v, h.v]
  by_cases e1 : x < i - 1
  · rw [if_pos (by omega)]
    by_cases e2 : y < i - 1
    · rw [if_pos (by omega)]
      exact hs (x + 1) (y + 1) (by omega) (by omega) (by omega)
    · rw [if_neg (by omega)]
      by_cases e3 : y = i - 1
      · rw [if_pos e3]
        exact Vec.lt_le (h1 (x + 1) (by omega) (by omega))
      · rw [if_neg e3]
        exact hs.le (by omega) (by omega) g3
  · rw [if_neg (by omega)]
    by_cases e3 : x = i - 1
    · rw [if_pos e3, if_neg (by omega), if_neg (by omega)]
      exact Vec.not_lt (h2 y (by omega) g3)
    · rw [if_neg e3, if_neg (by omega), if_neg (by omega)]
      exact hs x y (by omega) g2 g3
structure Dn (xs ys : List Vec) (m k : Nat) : Prop where
  p : ys.Perm xs
  v : ∀ q, vat ys q = if k < q ∧ q ≤ m then vat xs (q - 1) else if q = k then vat xs m else vat xs q
theorem Dn.start (xs : List Vec) (m : Nat) : Dn xs xs m m := ⟨List.Perm.refl _, fun q => by
  rw [if_neg (by omega)]; split
  · rename_i h; rw [h]
  · rfl⟩
theorem Dn.step {xs ys : List Vec} {m k : Nat} (h : Dn xs ys m k) (h0 : 0 < k) (hkm : k ≤ m) (hm : m < xs.length) : Dn xs (swp ys k (k - 1)) m (k - 1) := by
  have hl := h.p.length_eq
  have hat := swp_at (xs := ys) (i := k) (j := k - 1) (by omega) (by omega)
  refine ⟨(swp_perm (by omega) (by omega)).trans h.p, fun q => ?_⟩
  rw [hat, h.v, h.v, h.v]
  by_cases e1 : q = k - 1
  · rw [if_pos e1, if_neg (by omega), if_pos rfl, if_neg (by omega), if_pos e1]
  · rw [if_neg e1]
    by_cases e2 : q = k
    · rw [if_pos e2, if_neg (by omega), if_neg (by omega), if_pos (by omega), e2]
    · rw [if_neg e2]
      by_cases e3 : k < q ∧ q ≤ m
      · rw [if_pos e3, if_pos (by omega)]
      · rw [if_neg e3, if_neg e2, if_neg (by omega), if_neg e1]
theorem Dn.stop {xs ys : List Vec} {a m i : Nat} (h : Dn xs ys m i) (hai : a ≤ i) (hib : i ≤ m) (hb : m < xs.length) (hs : Srt xs a m) (h1 : ∀ q, a ≤ q → q < i → ¬ (vat xs m).cmp (vat xs q) < 0) (h2 : ∀ q, i ≤ q → q < m → (vat xs m).cmp (vat xs q) < 0) : ys = sortSeg xs a (m + 1) := by
  refine sortSeg_eq (by omega) (by omega) h.p (fun k hk => by rw [h.v, if_neg (by omega), if_neg (by omega)]) (fun x y g1 g2 g3 => ?_)
  rw [h.v, h.v]
  by_cases e1 : x < i
  · rw [if_neg (by omega), if_neg (by omega)]
    by_cases e2 : y < i
    · rw [if_neg (by omega), if_neg (by omega)]
      exact hs x y g1 g2 (by omega)
    · by_cases e3 : y = i
      · rw [if_neg (by omega), if_pos e3]
        exact Vec.not_lt (h1 x g1 e1)
      · rw [if_pos (by omega)]
        exact hs.le g1 (by omega) (by omega)
  · by_cases e3 : x = i
    · rw [if_neg (by omega), if_pos e3, if_pos (by omega)]
      exact Vec.lt_le (h2 (y - 1) (by omega) (by omega))
    · rw [if_pos (by omega), if_pos (by omega)]
      exact hs (x - 1) (y - 1) (by omega) (by omega) (by omega)
theorem rotL_id {xs : List Vec} {a m b : Nat} (h1 : a ≤ m) (h2 : m ≤ b) (hb : b ≤ xs.length) (h : a = m ∨ m = b) : rotL xs a m b = xs := by
  refine vat_ext (rotL_perm xs h1 h2).length_eq (fun k _ => ?_)
  rw [rotL_at h1 h2 hb]
  by_cases c1 : k < a
  · rw [if_pos c1]
  · rw [if_neg c1]
    by_cases c2 : k < a + (b - m)
    · rw [if_pos c2]; congr 1; omega
    · rw [if_neg c2]
      by_cases c3 : k < b
      · rw [if_pos c3]; congr 1; omega
      · rw [if_neg c3]
theorem sym_join {xs : List Vec} {a m b mid st en : Nat} (h1 : a ≤ st) (h2 : st ≤ m) (h3 : m ≤ en) (h4 : en ≤ b) (hb : b ≤ xs.length) (hmid : st + (en - m) = mid) (hs1 : Srt xs a m) (hs2 : Srt xs m b)
    (c1 : st = a ∨ en = b ∨ (vat xs (st - 1)).le (vat xs en) = true) (c2 : st = m ∨ en = m ∨ (vat xs (en - 1)).cmp (vat xs st) < 0) :
    sortSeg (sortSeg (rotL xs st m en) a mid) mid b = sortSeg xs a b ∧ Srt (rotL xs st m en) a st ∧ Srt (rotL xs st m en) st mid ∧ Srt (rotL xs st m en) mid en ∧ Srt (rotL xs st m en) en b := by
  have hat := rotL_at h2 h3 (show en ≤ xs.length by omega)
  rw [hmid] at hat
  have hl := (rotL_perm xs h2 h3).length_eq
  have hp := rotL_perm xs h2 h3
  generalize hz : rotL xs st m en = zs at hat hl hp
  have v1 : ∀ k, k < st → vat zs k = vat xs k := fun k hk => by rw [hat, if_pos hk]
  have v2 : ∀ k, st ≤ k → k < mid → vat zs k = vat xs (k - st + m) := fun k g1 g2 => by rw [hat, if_neg (by omega), if_pos g2]
  have v3 : ∀ k, mid ≤ k → k < en → vat zs k = vat xs (k - (en - m)) := fun k g1 g2 => by rw [hat, if_neg (by omega), if_neg (by omega), if_pos g2]
  have v4 : ∀ k, en ≤ k → vat zs k = vat xs k := fun k g1 => by rw [hat, if_neg (by omega), if_neg (by omega), if_neg (by omega)]
  have s1 : Srt zs a st := fun x y g1 g2 g3 => by rw [v1 x (by omega), v1 y g3]; exact hs1 x y g1 g2 (by omega)
  have s2 : Srt zs st mid := fun x y g1 g2 g3 => by rw [v2 x g1 (by omega), v2 y (by omega) g3]; exact hs2 _ _ (by omega) (by omega) (by omega)
  have s3 : Srt zs mid en := fun x y g1 g2 g3 => by rw [v3 x g1 (by omega), v3 y (by omega) g3]; exact hs1 _ _ (by omega) (by omega) (by omega)
  have s4 : Srt zs en b := fun x y g1 g2 g3 => by rw [v4 x g1, v4 y (by omega)]; exact hs2 x y (by omega) g2 g3
  have cross : ∀ x y, a ≤ x → x < mid → mid ≤ y → y < b → (vat zs x).le (vat zs y) = true := fun x y g1 g2 g3 g4 => by
    by_cases e1 : x < st
    · rw [v1 x e1]
      by_cases e2 : y < en
      · rw [v3 y g3 e2]
        exact hs1.le g1 (by omega) (by omega)
      · rw [v4 y (by omega)]
        rcases c1 with c1 | c1 | c1
        · omega
        · omega
        · exact Vec.le_trans (hs1.le g1 (by omega) (by omega)) (Vec.le_trans c1 (hs2.le h3 (by omega) g4))
    · rw [v2 x (by omega) g2]
      by_cases e2 : y < en
      · rw [v3 y g3 e2]
        rcases c2 with c2 | c2 | c2
        · omega
        · omega
        · exact Vec.le_trans (hs2.le (by omega) (by omega) (by omega)) (Vec.le_trans (Vec.lt_le c2) (hs1.le (by omega) (by omega) (by omega)))
      · rw [v4 y (by omega)]
        exact hs2.le (by omega) (by omega) g4
  refine ⟨?_, s1, s2, s3, s4⟩
  have l1 := sortSeg_len zs (a := a) (b := mid) (by omega)
  have m1 := fun p (g1 : a ≤ p) (g2 : p < mid) => sortSeg_mem (xs := zs) (show a ≤ mid by omega) (by omega) g1 g2
  have o1 := fun k (g : k < a ∨ mid ≤ k) => sortSeg_out (xs := zs) (show a ≤ mid by omega) (by omega) g
  have p1 := sortSeg_perm zs (show a ≤ mid by omega)
  have t1 := sortSeg_srt (xs := zs) (show a ≤ mid by omega) (by omega)
  generalize sortSeg zs a mid = us at l1 m1 o1 p1 t1
  have m2 := fun p (g1 : mid ≤ p) (g2 : p < b) => sortSeg_mem (xs := us) (show mid ≤ b by omega) (by omega) g1 g2
  have o2 := fun k (g : k < mid ∨ b ≤ k) => sortSeg_out (xs := us) (show mid ≤ b by omega) (by omega) g
  have p2 := sortSeg_perm us (show mid ≤ b by omega)
  have t2 := sortSeg_srt (xs := us) (show mid ≤ b by omega) (by omega)
  generalize sortSeg us mid b = ws at m2 o2 p2 t2
  refine sortSeg_eq (by omega) hb (p2.trans (p1.trans hp)) (fun k hk => ?_) (fun x y g1 g2 g3 => ?_)
  · rw [o2 k (by omega), o1 k (by omega)]
    rcases hk with hk | hk
    · exact v1 k (by omega)
    · exact v4 k (by omega)
  · by_cases e1 : y < mid
    · rw [o2 x (by omega), o2 y (by omega)]
      exact t1 x y g1 g2 e1
    · by_cases e2 : x < mid
      · rw [o2 x (by omega)]
        obtain ⟨q, q1, q2, q3⟩ := m1 x g1 e2
        obtain ⟨r, r1, r2, r3⟩ := m2 y (by omega) g3
        rw [q3, r3, o1 r (by omega)]
        exact cross q r q1 q2 r1 r2
      · exact t2 x y (by omega) g2 g3
end Go.Proofs.Ytkppkgahdoglpaa
