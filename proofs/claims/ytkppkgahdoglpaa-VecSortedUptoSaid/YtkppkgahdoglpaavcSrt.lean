/- Vectors in order; mathematics of sorting. -/
import Derived.Test.YtkppkgahdoglpaavcVec
namespace Go.Proofs.Ytkppkgahdoglpaa
open Go.RowKit
theorem Vec.ext4 {a b : Vec} (h1 : a.root = b.root) (h2 : a.cost = b.cost) (h3 : a.bridge = b.bridge) (h4 : a.port = b.port) : a = b := by
  cases a; cases b; simp_all
instance vecDec : DecidableEq Vec := fun a b =>
  if h : a.root = b.root ∧ a.cost = b.cost ∧ a.bridge = b.bridge ∧ a.port = b.port then isTrue (Vec.ext4 h.1 h.2.1 h.2.2.1 h.2.2.2) else isFalse (fun e => h (by subst e; exact ⟨rfl, rfl, rfl, rfl⟩))
def Vec.le (a b : Vec) : Bool := !decide (b.cmp a < 0)
theorem Vec.cmp_neg {a b : Vec} : a.cmp b < 0 ↔ a.root < b.root ∨ (a.root = b.root ∧ (a.cost < b.cost ∨ (a.cost = b.cost ∧ (a.bridge < b.bridge ∨ (a.bridge = b.bridge ∧ a.port < b.port))))) := by
  unfold Vec.cmp
  simp only [orI, cmpI]
  repeat' split
  all_goals (first | omega | (constructor <;> intro h <;> omega))
theorem Vec.le_iff {a b : Vec} : a.le b = true ↔ ¬ b.cmp a < 0 := by unfold Vec.le; simp
theorem Vec.le_iff' {a b : Vec} : a.le b = true ↔ ¬ (b.root < a.root ∨ (b.root = a.root ∧ (b.cost < a.cost ∨ (b.cost = a.cost ∧ (b.bridge < a.bridge ∨ (b.bridge = a.bridge ∧ b.port < a.port)))))) := by
  rw [Vec.le_iff, Vec.cmp_neg]
theorem Vec.le_trans {a b c : Vec} (h : a.le b = true) (k : b.le c = true) : a.le c = true := by rw [Vec.le_iff'] at *; omega
theorem Vec.le_total (a b : Vec) : (a.le b || b.le a) = true := by rw [Bool.or_eq_true, Vec.le_iff', Vec.le_iff']; omega
theorem Vec.le_anti {a b : Vec} (h : a.le b = true) (k : b.le a = true) : a = b := by
  rw [Vec.le_iff'] at *
  exact Vec.ext4 (by omega) (by omega) (by omega) (by omega)
theorem Vec.le_refl (a : Vec) : a.le a = true := by rw [Vec.le_iff']; omega
theorem Vec.lt_le {a b : Vec} (h : a.cmp b < 0) : a.le b = true := by rw [Vec.le_iff']; rw [Vec.cmp_neg] at h; omega
def vat (xs : List Vec) (i : Nat) : Vec := xs.getD i .zero
theorem vat_get {xs : List Vec} {i : Nat} (h : i < xs.length) : xs[i]? = some (vat xs i) := by
  unfold vat; rw [List.getD_eq_getElem?_getD, List.getElem?_eq_getElem h]; rfl
theorem vat_eq {xs : List Vec} {i : Nat} {v : Vec} (h : xs[i]? = some v) : vat xs i = v := by
  unfold vat; rw [List.getD_eq_getElem?_getD, h]; rfl
theorem vat_ext {xs ys : List Vec} (hl : xs.length = ys.length) (h : ∀ i, i < xs.length → vat xs i = vat ys i) : xs = ys := by
  apply List.ext_getElem?
  intro i
  by_cases hi : i < xs.length
  · rw [vat_get hi, vat_get (by omega), h i hi]
  · rw [List.getElem?_eq_none (by omega), List.getElem?_eq_none (by omega)]
theorem vat_set {xs : List Vec} {i j : Nat} {v : Vec} (hi : i < xs.length) : vat (xs.set i v) j = if i = j then v else vat xs j := by
  unfold vat
  rw [List.getD_eq_getElem?_getD, List.getElem?_set, List.getD_eq_getElem?_getD]
  split
  · rename_i h; subst h; simp []
  · rfl
def swp (xs : List Vec) (i j : Nat) : List Vec := (xs.set i (vat xs j)).set j (vat xs i)
theorem swp_len (xs : List Vec) (i j : Nat) : (swp xs i j).length = xs.length := by simp [swp]
theorem swp_at {xs : List Vec} {i j : Nat} (hi : i < xs.length) (hj : j < xs.length) (k : Nat) : vat (swp xs i j) k = if k = j then vat xs i else if k = i then vat xs j else vat xs k := by
  unfold swp
  rw [vat_set (by simpa using hj)]
  by_cases h : j = k
  · rw [if_pos h, if_pos h.symm]
  · rw [if_neg h, if_neg (fun e => h e.symm), vat_set hi]
    by_cases h2 : i = k
    · rw [if_pos h2, if_pos h2.symm]
    · rw [if_neg h2, if_neg (fun e => h2 e.symm)]
theorem swp_perm {xs : List Vec} {i j : Nat} (hi : i < xs.length) (hj : j < xs.length) : (swp xs i j).Perm xs := by
  have h := @List.set_set_perm _ xs i j hi hj
  unfold swp
  rw [show vat xs j = xs[j] from vat_eq (List.getElem?_eq_getElem hj), show vat xs i = xs[i] from vat_eq (List.getElem?_eq_getElem hi)]
  exact h
def Srt (xs : List Vec) (a b : Nat) : Prop := ∀ i j, a ≤ i → i < j → j < b → (vat xs i).le (vat xs j) = true
theorem Srt.mono {xs : List Vec} {a b a' b' : Nat} (h : Srt xs a b) (h1 : a ≤ a') (h2 : b' ≤ b) : Srt xs a' b' := fun i j x y z => h i j (by omega) y (by omega)
theorem Srt.le {xs : List Vec} {a b i j : Nat} (h : Srt xs a b) (h1 : a ≤ i) (h2 : i ≤ j) (h3 : j < b) : (vat xs i).le (vat xs j) = true := by
  rcases Nat.lt_or_eq_of_le h2 with h2 | rfl
  · exact h i j h1 h2 h3
  · exact Vec.le_refl _
theorem Srt.congr {xs ys : List Vec} {a b : Nat} (h : Srt xs a b) (he : ∀ i, a ≤ i → i < b → vat ys i = vat xs i) : Srt ys a b := fun i j x y z => by
  rw [he i x (by omega), he j (by omega) z]; exact h i j x y z
theorem Srt.pairwise {xs : List Vec} (h : Srt xs 0 xs.length) : xs.Pairwise (fun a b => a.le b = true) := by
  rw [List.pairwise_iff_getElem]
  intro i j hi hj hij
  have := h i j (Nat.zero_le _) hij hj
  rwa [vat_eq (List.getElem?_eq_getElem hi), vat_eq (List.getElem?_eq_getElem hj)] at this
def sortL (l : List Vec) : List Vec := l.mergeSort Vec.le
theorem sortL_pw (l : List Vec) : (sortL l).Pairwise (fun a b => a.le b = true) := List.pairwise_mergeSort (le := Vec.le) (fun _ _ _ h k => Vec.le_trans h k) (fun a b => Vec.le_total a b) l
theorem sortL_perm (l : List Vec) : (sortL l).Perm l := List.mergeSort_perm l _
theorem sortL_len (l : List Vec) : (sortL l).length = l.length := List.length_mergeSort l
theorem sortL_eq {xs ys : List Vec} (h : ys.Perm xs) (hs : ys.Pairwise (fun a b => a.le b = true)) : ys = sortL xs :=
  List.Perm.eq_of_pairwise (fun _a _b _ _ h1 h2 => Vec.le_anti h1 h2) hs (sortL_pw xs) (h.trans (sortL_perm xs).symm)
def sortSeg (xs : List Vec) (a b : Nat) : List Vec := xs.take a ++ (sortL ((xs.take b).drop a) ++ xs.drop b)
theorem seg_split (xs : List Vec) {a b : Nat} (h : a ≤ b) : xs = xs.take a ++ ((xs.take b).drop a ++ xs.drop b) := by
  rw [← List.append_assoc]
  have : xs.take a ++ (xs.take b).drop a = xs.take b := by
    have h2 := List.take_append_drop a (xs.take b)
    rw [List.take_take, Nat.min_eq_left h] at h2
    exact h2
  rw [this, List.take_append_drop]
theorem sortSeg_perm (xs : List Vec) {a b : Nat} (h : a ≤ b) : (sortSeg xs a b).Perm xs := by
  have h2 : (sortSeg xs a b).Perm (xs.take a ++ ((xs.take b).drop a ++ xs.drop b)) := ((sortL_perm _).append_right _).append_left _
  rwa [← seg_split xs h] at h2
theorem sortSeg_len (xs : List Vec) {a b : Nat} (h : a ≤ b) : (sortSeg xs a b).length = xs.length := (sortSeg_perm xs h).length_eq
theorem sortSeg_out {xs : List Vec} {a b : Nat} (h : a ≤ b) (hb : b ≤ xs.length) {i : Nat} (hi : i < a ∨ b ≤ i) : vat (sortSeg xs a b) i = vat xs i := by
  unfold vat sortSeg
  rw [List.getD_eq_getElem?_getD, List.getD_eq_getElem?_getD]
  congr 1
  rcases hi with hi | hi
  · rw [List.getElem?_append_left (by rw [List.length_take]; omega), List.getElem?_take, if_pos hi]
  · have e1 : (xs.take a).length = a := by rw [List.length_take]; omega
    have e2 : (sortL ((xs.take b).drop a)).length = b - a := by rw [sortL_len, List.length_drop, List.length_take]; omega
    rw [List.getElem?_append_right (by omega), List.getElem?_append_right (by omega), e1, e2, List.getElem?_drop]
    congr 1; omega
theorem sortSeg_srt {xs : List Vec} {a b : Nat} (h : a ≤ b) (hb : b ≤ xs.length) : Srt (sortSeg xs a b) a b := fun i j h1 h2 h3 => by
  have e1 : (xs.take a).length = a := by rw [List.length_take]; omega
  have e2 : (sortL ((xs.take b).drop a)).length = b - a := by rw [sortL_len, List.length_drop, List.length_take]; omega
  have key : ∀ k, a ≤ k → k < b → ∀ hk, vat (sortSeg xs a b) k = (sortL ((xs.take b).drop a))[k - a]'hk := fun k g1 g2 hk => by
    apply vat_eq
    unfold sortSeg
    rw [List.getElem?_append_right (by omega), e1, List.getElem?_append_left (by omega), List.getElem?_eq_getElem hk]
  rw [key i h1 (by omega) (by omega), key j (by omega) h3 (by omega)]
  exact List.pairwise_iff_getElem.1 (sortL_pw _) (i - a) (j - a) _ _ (by omega)
theorem sortSeg_eq {xs ys : List Vec} {a b : Nat} (h : a ≤ b) (hb : b ≤ xs.length) (hp : ys.Perm xs) (ho : ∀ i, i < a ∨ b ≤ i → vat ys i = vat xs i) (hs : Srt ys a b) : ys = sortSeg xs a b := by
  have hl := hp.length_eq
  have t1 : ys.take a = xs.take a := by
    apply vat_ext (by simp [hl])
    intro i hi
    rw [List.length_take] at hi
    have := ho i (.inl (by omega))
    unfold vat at *
    rw [List.getD_eq_getElem?_getD, List.getD_eq_getElem?_getD] at *
    rw [List.getElem?_take, List.getElem?_take, if_pos (by omega), if_pos (by omega)]
    exact this
  have t2 : ys.drop b = xs.drop b := by
    apply vat_ext (by simp [hl])
    intro i hi
    have := ho (b + i) (.inr (by omega))
    unfold vat at *
    rw [List.getD_eq_getElem?_getD, List.getD_eq_getElem?_getD] at *
    rw [List.getElem?_drop, List.getElem?_drop]
    exact this
  have hp2 : ((ys.take b).drop a).Perm ((xs.take b).drop a) := by
    have e1 := seg_split ys h
    have e2 := seg_split xs h
    have hp' := hp
    rw [e1, e2, t1, t2] at hp'
    have := (List.perm_append_left_iff _).1 hp'
    exact (List.perm_append_right_iff _).1 this
  have hs2 : ((ys.take b).drop a).Pairwise (fun a b => a.le b = true) := by
    rw [List.pairwise_iff_getElem]
    intro i j hi hj hij
    rw [List.length_drop, List.length_take] at hi hj
    have := hs (a + i) (a + j) (by omega) (by omega) (by omega)
    rw [vat_eq (List.getElem?_eq_getElem (show a + i < ys.length by omega)), vat_eq (List.getElem?_eq_getElem (show a + j < ys.length by omega))] at this
    rw [List.getElem_drop, List.getElem_drop, List.getElem_take, List.getElem_take]
    exact this
  rw [seg_split ys h, t1, t2, sortL_eq hp2 hs2]
  rfl
theorem sortSeg_id {xs : List Vec} {a b : Nat} (h : a ≤ b) (hb : b ≤ xs.length) (hs : Srt xs a b) : sortSeg xs a b = xs := (sortSeg_eq h hb (List.Perm.refl _) (fun _ _ => rfl) hs).symm
def swapR (xs : List Vec) (a b : Nat) : Nat → List Vec
  | 0 => xs
  | n + 1 => swp (swapR xs a b n) (a + n) (b + n)
theorem swapR_len (xs : List Vec) (a b n : Nat) : (swapR xs a b n).length = xs.length := by
  induction n with
  | zero => rfl
  | succ n ih => rw [swapR, swp_len, ih]
theorem swapR_perm {xs : List Vec} {a b n : Nat} (h1 : a + n ≤ xs.length) (h2 : b + n ≤ xs.length) : (swapR xs a b n).Perm xs := by
  induction n with
  | zero => exact List.Perm.refl _
  | succ n ih => exact (swp_perm (by rw [swapR_len]; omega) (by rw [swapR_len]; omega)).trans (ih (by omega) (by omega))
theorem swapR_at {xs : List Vec} {a b n : Nat} (h : a + n ≤ b) (h2 : b + n ≤ xs.length) (k : Nat) :
    vat (swapR xs a b n) k = if a ≤ k ∧ k < a + n then vat xs (b + (k - a)) else if b ≤ k ∧ k < b + n then vat xs (a + (k - b)) else vat xs k := by
  induction n generalizing k with
  | zero => rw [if_neg (by omega), if_neg (by omega)]; rfl
  | succ n ih =>
    rw [swapR, swp_at (by rw [swapR_len]; omega) (by rw [swapR_len]; omega)]
    have ih := ih (by omega) (by omega)
    by_cases e1 : k = b + n
    · subst e1
      rw [if_pos rfl, ih, if_neg (by omega), if_neg (by omega), if_neg (by omega), if_pos (by omega)]
      congr 1; omega
    · rw [if_neg e1]
      by_cases e2 : k = a + n
      · subst e2
        rw [if_pos rfl, ih, if_neg (by omega), if_neg (by omega), if_pos (by omega)]
        congr 1; omega
      · rw [if_neg e2, ih]
        by_cases c1 : a ≤ k ∧ k < a + n
        · rw [if_pos c1, if_pos (show a ≤ k ∧ k < a + (n + 1) by omega)]
        · rw [if_neg c1, if_neg (show ¬ (a ≤ k ∧ k < a + (n + 1)) by omega)]
          by_cases c2 : b ≤ k ∧ k < b + n
          · rw [if_pos c2, if_pos (show b ≤ k ∧ k < b + (n + 1) by omega)]
          · rw [if_neg c2, if_neg (show ¬ (b ≤ k ∧ k < b + (n + 1)) by omega)]
def rotL (xs : List Vec) (a m b : Nat) : List Vec := xs.take a ++ ((xs.take b).drop m ++ ((xs.take m).drop a ++ xs.drop b))
theorem rotL_perm (xs : List Vec) {a m b : Nat} (h1 : a ≤ m) (h2 : m ≤ b) : (rotL xs a m b).Perm xs := by
  have e : xs = xs.take a ++ ((xs.take m).drop a ++ ((xs.take b).drop m ++ xs.drop b)) := by
    have e1 := seg_split xs h1
    have e2 : xs.drop m = (xs.take b).drop m ++ xs.drop b := by
      have := congrArg (List.drop m) (List.take_append_drop b xs)
      rw [List.drop_append] at this
      by_cases hb : b ≤ xs.length
      · rw [show m - (xs.take b).length = 0 by rw [List.length_take]; omega] at this
        exact this.symm
      · rw [List.take_of_length_le (by omega), List.drop_eq_nil_of_le (show xs.length ≤ b by omega)]; simp
    rw [← e2]
    exact e1
  have hp : (rotL xs a m b).Perm (xs.take a ++ ((xs.take m).drop a ++ ((xs.take b).drop m ++ xs.drop b))) := by
    refine List.Perm.append_left _ ?_
    rw [← List.append_assoc, ← List.append_assoc]
    exact List.Perm.append_right _ List.perm_append_comm
  rwa [← e] at hp
theorem rotL_at {xs : List Vec} {a m b : Nat} (h1 : a ≤ m) (h2 : m ≤ b) (hb : b ≤ xs.length) (k : Nat) :
    vat (rotL xs a m b) k = if k < a then vat xs k else if k < a + (b - m) then vat xs (k - a + m) else if k < b then vat xs (k - (b - m)) else vat xs k := by
  have l1 : (xs.take a).length = a := by rw [List.length_take]; omega
  have l2 : ((xs.take b).drop m).length = b - m := by rw [List.length_drop, List.length_take]; omega
  have l3 : ((xs.take m).drop a).length = m - a := by rw [List.length_drop, List.length_take]; omega
  unfold vat rotL
  simp only [List.getD_eq_getElem?_getD]
  by_cases c1 : k < a
  · rw [if_pos c1, List.getElem?_append_left (by omega), List.getElem?_take, if_pos c1]
  rw [if_neg c1, List.getElem?_append_right (by omega), l1]
  by_cases c2 : k < a + (b - m)
  · rw [if_pos c2, List.getElem?_append_left (by omega), List.getElem?_drop, List.getElem?_take, if_pos (by omega)]
    congr 2; omega
  rw [if_neg c2, List.getElem?_append_right (by omega), l2]
  by_cases c3 : k < b
  · rw [if_pos c3, List.getElem?_append_left (by omega), List.getElem?_drop, List.getElem?_take, if_pos (by omega)]
    congr 2; omega
  · rw [if_neg c3, List.getElem?_append_right (by omega), l3, List.getElem?_drop]
    congr 2; omega
end Go.Proofs.Ytkppkgahdoglpaa
