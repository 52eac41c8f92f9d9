/- Regions: tables, digests, identities; mathematics. -/
import Derived.Test.YtppficphaidoaaacRgW
import Derived.Test.YtppficphaidoaaadMam
namespace Go.Proofs.Ytppficphaidoaaa
open Go.RowKit
/-- The table of all ways. -/
def tableT (ws : List Way) : List UInt8 := ws.foldl (fun t w => t.set w.vid.toNat (byteAt w.tree 0)) (List.replicate 4096 0)
def inter (l : List UInt8) : List UInt8 := l.flatMap fun c => [0, c]
theorem inter_len (l : List UInt8) : (inter l).length = 2 * l.length := by
  induction l with
  | nil => rfl
  | cons c r ih => simp only [inter, List.flatMap_cons, List.length_append, List.length_cons, List.length_nil] at *; omega
theorem inter_set : ∀ (l : List UInt8) (i : Nat) (c : UInt8), inter (l.set i c) = (inter l).set (2 * i + 1) c
  | [], i, c => rfl
  | a :: r, 0, c => rfl
  | a :: r, i + 1, c => by
    have ih := inter_set r i c
    simp only [inter, List.set_cons_succ, List.flatMap_cons] at *
    rw [ih, show 2 * (i + 1) + 1 = (2 * i + 1) + 1 + 1 by omega]
    rfl
theorem inter_zero : ∀ n, inter (List.replicate n 0) = List.replicate (2 * n) 0
  | 0 => rfl
  | n + 1 => by
    have ih := inter_zero n
    rw [List.replicate_succ, show 2 * (n + 1) = 2 * n + 1 + 1 by omega, List.replicate_succ, List.replicate_succ, ← ih]
    rfl
def keyR : List UInt8 := [19, 172, 6, 166, 46, 71, 253, 81, 249, 93, 43, 162, 67, 205, 3, 70]
def digestR (ws : List Way) : List UInt8 := macS keyR (inter (tableT ws))
def identR (r : Region) : List UInt8 := r.name ++ List.replicate (32 - r.name.length) 0 ++ [byteAt r.rev 1, byteAt r.rev 0] ++ digestR r.ways
theorem foldl_set_len (ws : List Way) : ∀ t : List UInt8, (ws.foldl (fun t w => t.set w.vid.toNat (byteAt w.tree 0)) t).length = t.length := by
  induction ws with
  | nil => intro t; rfl
  | cons w r ih => intro t; rw [List.foldl_cons, ih, List.length_set]
theorem tableT_len (ws : List Way) : (tableT ws).length = 4096 := by unfold tableT; rw [foldl_set_len, List.length_replicate]
theorem table_at (ws : List Way) (h0 : ∀ w ∈ ws, ¬ w.bad) (hs : ws.Pairwise (fun a b => a.vid < b.vid)) : ∀ (t : List UInt8) (k : Nat), k < t.length → (∀ w ∈ ws, w.vid.toNat < t.length) →
    (ws.foldl (fun t w => t.set w.vid.toNat (byteAt w.tree 0)) t)[k]? = if (∃ w ∈ ws, w.vid = (k : Int)) then some (byteAt (treeOf ws k) 0) else t[k]? := by
  induction ws with
  | nil => intro t k _ _; simp
  | cons w r ih =>
    intro t k hk hl
    obtain ⟨h1, h2⟩ := List.pairwise_cons.1 hs
    have hb := h0 w (List.mem_cons.2 (.inl rfl))
    unfold Way.bad at hb
    have hwl := hl w (List.mem_cons.2 (.inl rfl))
    rw [List.foldl_cons, ih (fun u hu => h0 u (List.mem_cons.2 (.inr hu))) h2 _ k (by simpa using hk) (fun u hu => by simpa using hl u (List.mem_cons.2 (.inr hu)))]
    by_cases hw : w.vid = (k : Int)
    · have hn : ¬ ∃ u ∈ r, u.vid = (k : Int) := fun ⟨u, hu, e⟩ => by have := h1 u hu; omega
      have hex : ∃ u ∈ w :: r, u.vid = (k : Int) := ⟨w, List.mem_cons.2 (.inl rfl), hw⟩
      rw [if_neg hn, if_pos hex, treeOf, if_pos hw, List.getElem?_set, if_pos (by omega), if_pos (by omega)]
    · rw [treeOf, if_neg hw]
      by_cases hx : ∃ u ∈ r, u.vid = (k : Int)
      · have hex : ∃ u ∈ w :: r, u.vid = (k : Int) := by obtain ⟨u, hu, e⟩ := hx; exact ⟨u, List.mem_cons.2 (.inr hu), e⟩
        rw [if_pos hx, if_pos hex]
      · have hex : ¬ ∃ u ∈ w :: r, u.vid = (k : Int) := fun ⟨u, hu, e⟩ => by
          rcases List.mem_cons.1 hu with rfl | hu
          · exact hw e
          · exact hx ⟨u, hu, e⟩
        rw [if_neg hx, if_neg hex, List.getElem?_set, if_neg (by omega)]
theorem table_tree (ws : List Way) (h0 : ∀ w ∈ ws, ¬ w.bad) (hs : ws.Pairwise (fun a b => a.vid < b.vid)) (k : Nat) (hk : k < 4096) : (tableT ws)[k]? = some (byteAt (treeOf ws k) 0) := by
  have hl : ∀ w ∈ ws, w.vid.toNat < (List.replicate 4096 (0 : UInt8)).length := fun w hw => by
    have := h0 w hw
    unfold Way.bad at this
    rw [List.length_replicate]; omega
  unfold tableT
  rw [table_at ws h0 hs _ k (by rw [List.length_replicate]; exact hk) hl]
  split
  · rfl
  · rename_i hx
    rw [treeOf_none (fun w hw e => hx ⟨w, hw, e⟩), List.getElem?_replicate, if_pos hk]
    rfl
theorem digest_alike {a b : List Way} (ha : ∀ w ∈ a, ¬ w.bad) (ha2 : a.Pairwise (fun a b => a.vid < b.vid)) (hb : ∀ w ∈ b, ¬ w.bad) (hb2 : b.Pairwise (fun a b => a.vid < b.vid))
    (h : ∀ v : Int, 1 ≤ v → v ≤ 4094 → treeOf a v = treeOf b v) : digestR a = digestR b := by
  have : tableT a = tableT b := by
    apply List.ext_getElem?
    intro k
    by_cases hk : k < 4096
    · rw [table_tree a ha ha2 k hk, table_tree b hb hb2 k hk]
      by_cases h1 : 1 ≤ k ∧ k ≤ 4094
      · rw [h k (by omega) (by omega)]
      · have na : ∀ w ∈ a, w.vid ≠ (k : Int) := fun w hw => by have := ha w hw; unfold Way.bad at this; omega
        have nb : ∀ w ∈ b, w.vid ≠ (k : Int) := fun w hw => by have := hb w hw; unfold Way.bad at this; omega
        rw [treeOf_none na, treeOf_none nb]
    · rw [List.getElem?_eq_none (by rw [tableT_len]; omega), List.getElem?_eq_none (by rw [tableT_len]; omega)]
  unfold digestR; rw [this]
theorem pad_inj : ∀ (a b : List UInt8) (n m : Nat), a.all okC = true → b.all okC = true → a ++ List.replicate n 0 = b ++ List.replicate m 0 → a = b
  | [], [], _, _, _, _, _ => rfl
  | [], c :: b, n, m, _, hb, h => by
    exfalso
    cases n with
    | zero => simp at h
    | succ n =>
      rw [List.replicate_succ] at h
      simp at h
      obtain ⟨rfl, _⟩ := h
      simp [okC] at hb
  | c :: a, [], n, m, ha, _, h => by
    exfalso
    cases m with
    | zero => simp at h
    | succ m =>
      rw [List.replicate_succ] at h
      simp at h
      obtain ⟨rfl, _⟩ := h
      simp [okC] at ha
  | c :: a, d :: b, n, m, ha, hb, h => by
    simp only [List.cons_append, List.cons.injEq] at h
    simp only [List.all_cons, Bool.and_eq_true] at ha hb
    rw [h.1, pad_inj a b n m ha.2 hb.2 h.2]
theorem digestR_len (ws : List Way) : (digestR ws).length = 16 := md5S_len _
theorem identR_eq {a b : Region} (ha : a.right) (hb : b.right) : identR a = identR b ↔ a.name = b.name ∧ a.rev = b.rev ∧ digestR a.ways = digestR b.ways := by
  constructor
  · intro h
    unfold identR at h
    have l1 := digestR_len a.ways
    have l2 := digestR_len b.ways
    have n1 := ha.n2
    have n2 := hb.n2
    obtain ⟨h1, h2⟩ := List.append_inj' h (by omega)
    obtain ⟨h3, h4⟩ := List.append_inj' h1 rfl
    refine ⟨pad_inj _ _ _ _ ha.nc hb.nc h3, ?_, h2⟩
    simp only [List.cons.injEq, and_true] at h4
    have e1 := congrArg UInt8.toNat h4.1
    have e2 := congrArg UInt8.toNat h4.2
    have a0 := byteAt_zero ha.r0
    have b0 := byteAt_zero hb.r0
    have a1 := byteAt_v ha.r0 1
    have b1 := byteAt_v hb.r0 1
    have := ha.r1
    have := hb.r1
    have := ha.r0
    have := hb.r0
    simp only [Nat.mul_one, show (2 : Int) ^ 8 = 256 by decide] at a1 b1
    omega
  · rintro ⟨h1, h2, h3⟩
    unfold identR
    rw [h1, h2, h3]
end Go.Proofs.Ytppficphaidoaaa
