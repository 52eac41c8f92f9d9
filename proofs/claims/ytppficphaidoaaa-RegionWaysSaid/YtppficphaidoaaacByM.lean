/- Mathematics of numbers as bytes. -/
import Derived.Test.YtppficphaidoaaacBy0
namespace Go.Proofs.Ytppficphaidoaaa
open Go.RowKit

theorem byteAt_succ {n : Int} (_ : 0 ≤ n) (k : Nat) : byteAt n (k + 1) = byteAt (n / 256) k := by
  unfold byteAt
  have : n / 2 ^ (8 * (k + 1)) = n / 256 / 2 ^ (8 * k) := by
    rw [Int.ediv_ediv_of_nonneg (by decide : (0:Int) ≤ 256), show (8 * (k + 1)) = 8 + 8 * k by omega, Int.pow_add]
    rfl
  rw [this]
theorem beBytes_snoc : ∀ (s : Nat) {n : Int} (_ : 0 ≤ n), beBytes n (s + 1) = beBytes (n / 256) s ++ [byteAt n 0]
  | 0, n, h => rfl
  | s + 1, n, h => by
    rw [beBytes, beBytes_snoc s h, byteAt_succ h, beBytes]
    rfl
theorem byteAt_zero {n : Int} (h0 : 0 ≤ n) : ((byteAt n 0).toNat : Int) = n % 256 := by
  rw [byteAt_v h0]; simp
theorem beNum_lt : ∀ (k : Nat) (l : List UInt8), l.length = k → k ≤ 8 → beNum l < 256 ^ k
  | 0, l, h, _ => by
    have : l = [] := List.length_eq_zero_iff.1 h
    subst this; decide
  | k + 1, l, h, h8 => by
    rcases List.eq_nil_or_concat l with rfl | ⟨l', c, rfl⟩
    · cases h
    · rw [List.concat_eq_append] at h ⊢
      have hl : l'.length = k := by simpa using h
      have ih := beNum_lt k l' hl (by omega)
      have h0 := (beNum_range l').1
      rw [beNum_snoc, Int.pow_succ]
      have hc := c.toNat_lt
      have : beNum l' * 256 + c.toNat < 256 ^ k * 256 := by omega
      have h1 : (beNum l' * 256 + c.toNat) % 18446744073709551616 ≤ beNum l' * 256 + c.toNat := by omega
      omega
theorem pow_le_7 {k : Nat} (h : k ≤ 7) : (256 : Int) ^ k ≤ 72057594037927936 := by
  rcases (by omega : k = 0 ∨ k = 1 ∨ k = 2 ∨ k = 3 ∨ k = 4 ∨ k = 5 ∨ k = 6 ∨ k = 7) with h | h | h | h | h | h | h | h <;> rw [h] <;> decide
theorem beNum_snoc8 {l : List UInt8} {c : UInt8} (h : l.length ≤ 7) : beNum (l ++ [c]) = beNum l * 256 + c.toNat := by
  have h1 := beNum_lt l.length l rfl (by omega)
  have h2 := pow_le_7 h
  have hc := c.toNat_lt
  have h0 := (beNum_range l).1
  rw [beNum_snoc]; omega
theorem be_num : ∀ (k : Nat) (l : List UInt8), l.length = k → k ≤ 8 → beBytes (beNum l) k = l
  | 0, l, h, _ => by
    have : l = [] := List.length_eq_zero_iff.1 h
    subst this; rfl
  | k + 1, l, h, h8 => by
    rcases List.eq_nil_or_concat l with rfl | ⟨l', c, rfl⟩
    · cases h
    · rw [List.concat_eq_append] at h ⊢
      have hl : l'.length = k := by simpa using h
      have ih := be_num k l' hl (by omega)
      have h0 := (beNum_range l').1
      have hc := c.toNat_lt
      rw [beBytes_snoc _ (beNum_range _).1, beNum_snoc8 (by omega)]
      have e1 : (beNum l' * 256 + (c.toNat : Int)) / 256 = beNum l' := by omega
      rw [e1, ih]
      have e2 : byteAt (beNum l' * 256 + c.toNat) 0 = c := by
        apply UInt8.toNat_inj.1
        have := byteAt_zero (n := beNum l' * 256 + c.toNat) (by omega)
        omega
      rw [e2]
theorem num_be : ∀ (s : Nat) (n : Int), 0 ≤ n → n < 256 ^ s → s ≤ 8 → beNum (beBytes n s) = n
  | 0, n, h0, h1, _ => by
    have : n = 0 := by simp at h1; omega
    subst this; rfl
  | s + 1, n, h0, h1, h8 => by
    rw [Int.pow_succ] at h1
    have hd : n / 256 < 256 ^ s := by omega
    rw [beBytes_snoc _ h0, beNum_snoc8 (by simp [beBytes_len]; omega), num_be s (n / 256) (by omega) hd (by omega), byteAt_zero h0]
    omega
theorem be2_inj {a b : List UInt8} (ha : a.length = 2) (hb : b.length = 2) (h : beNum a = beNum b) : a = b := by
  rw [← be_num 2 a ha (by decide), ← be_num 2 b hb (by decide), h]

theorem beNum_22 {n m : Int} (h0 : 0 ≤ n) (h1 : n < 65536) (k0 : 0 ≤ m) (k1 : m < 65536) : beNum (beBytes n 2 ++ beBytes m 2) = n * 65536 + m := by
  have e : beBytes n 2 ++ beBytes m 2 = beBytes (n * 65536 + m) 4 := by
    have e1 : beBytes (n * 65536 + m) 4 = beBytes ((n * 65536 + m) / 256) 3 ++ [byteAt (n * 65536 + m) 0] := beBytes_snoc 3 (by omega)
    have e2 : beBytes ((n * 65536 + m) / 256) 3 = beBytes ((n * 65536 + m) / 256 / 256) 2 ++ [byteAt ((n * 65536 + m) / 256) 0] := beBytes_snoc 2 (by omega)
    have e3 : (n * 65536 + m) / 256 / 256 = n := by omega
    have e4 : beBytes m 2 = beBytes (m / 256) 1 ++ [byteAt m 0] := beBytes_snoc 1 (by omega)
    have e5 : beBytes (m / 256) 1 = [byteAt (m / 256) 0] := rfl
    have f1 : byteAt (n * 65536 + m) 0 = byteAt m 0 := by
      apply UInt8.toNat_inj.1
      have := byteAt_zero (n := n * 65536 + m) (by omega)
      have := byteAt_zero (n := m) (by omega)
      omega
    have f2 : byteAt ((n * 65536 + m) / 256) 0 = byteAt (m / 256) 0 := by
      apply UInt8.toNat_inj.1
      have := byteAt_zero (n := (n * 65536 + m) / 256) (by omega)
      have := byteAt_zero (n := m / 256) (by omega)
      omega
    rw [e1, e2, e3, e4, e5, f1, f2]; simp
  rw [e, num_be 4 _ (by omega) (by omega) (by decide)]

theorem append_of {α : Type} {b x y : List α} {k : Nat} (h : b = x ++ y) (hl : x.length = k) : b.take k = x ∧ b.drop k = y := by
  subst h hl; simp
end Go.Proofs.Ytppficphaidoaaa
