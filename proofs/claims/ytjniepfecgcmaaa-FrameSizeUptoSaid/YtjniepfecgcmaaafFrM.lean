/- Mathematics of bytes and frames. -/
import Derived.Test.YtjniepfecgcmaaadFrp
namespace Go.Proofs.Ytjniepfecgcmaaa
open Go.RowKit

theorem byteAt_succ {n : Int} (h0 : 0 ≤ n) (k : Nat) : byteAt n (k + 1) = byteAt (n / 256) k := by
  unfold byteAt
  have : n / 2 ^ (8 * (k + 1)) = n / 256 / 2 ^ (8 * k) := by
    rw [Int.ediv_ediv_of_nonneg (by decide : (0:Int) ≤ 256), show (8 * (k + 1)) = 8 + 8 * k by omega, Int.pow_add]
    rfl
  rw [this]
theorem beBytes_snoc : ∀ (s : Nat) {n : Int} (_ : 0 ≤ n), beBytes n (s + 1) = beBytes (n / 256) s ++ [byteAt n 0]
  | 0, n, h => rfl
  | s + 1, n, h => by
    rw [beBytes, beBytes_snoc s h, byteAt_succ h, beBytes]
    rfl
theorem byteAt_zero {n : Int} (h0 : 0 ≤ n) : ((byteAt n 0).toNat : Int) = n % 256 := by
  rw [byteAt_v h0]; simp
theorem beNum_lt : ∀ (k : Nat) (l : List UInt8), l.length = k → k ≤ 8 → beNum l < 256 ^ k
  | 0, l, h, _ => by
    have : l = [] := List.length_eq_zero_iff.1 h
    subst this; decide
  | k + 1, l, h, h8 => by
    rcases List.eq_nil_or_concat l with rfl | ⟨l', c, rfl⟩
    · cases h
    · rw [List.concat_eq_append] at h ⊢
      have hl : l'.length = k := by simpa using h
      have ih := beNum_lt k l' hl (by omega)
      have h0 := (beNum_range l').1
      rw [beNum_snoc, Int.pow_succ]
      have hc := c.toNat_lt
      have : beNum l' * 256 + c.toNat < 256 ^ k * 256 := by omega
      have h1 : (beNum l' * 256 + c.toNat) % 18446744073709551616 ≤ beNum l' * 256 + c.toNat := by omega
      omega
theorem pow_le_7 {k : Nat} (h : k ≤ 7) : (256 : Int) ^ k ≤ 72057594037927936 := by
  rcases (by omega : k = 0 ∨ k = 1 ∨ k = 2 ∨ k = 3 ∨ k = 4 ∨ k = 5 ∨ k = 6 ∨ k = 7) with h | h | h | h | h | h | h | h <;> rw [h] <;> decide
theorem beNum_snoc8 {l : List UInt8} {c : UInt8} (h : l.length ≤ 7) : beNum (l ++ [c]) = beNum l * 256 + c.toNat := by
  have h1 := beNum_lt l.length l rfl (by omega)
  have h2 := pow_le_7 h
  have hc := c.toNat_lt
  have h0 := (beNum_range l).1
  rw [beNum_snoc]; omega
theorem be_num : ∀ (k : Nat) (l : List UInt8), l.length = k → k ≤ 8 → beBytes (beNum l) k = l
  | 0, l, h, _ => by
    have : l = [] := List.length_eq_zero_iff.1 h
    subst this; rfl
  | k + 1, l, h, h8 => by
    rcases List.eq_nil_or_concat l with rfl | ⟨l', c, rfl⟩
    · cases h
    · rw [List.concat_eq_append] at h ⊢
      have hl : l'.length = k := by simpa using h
      have ih := be_num k l' hl (by omega)
      have h0 := (beNum_range l').1
      have hc := c.toNat_lt
      rw [beBytes_snoc _ (beNum_range _).1, beNum_snoc8 (by omega)]
      have e1 : (beNum l' * 256 + (c.toNat : Int)) / 256 = beNum l' := by omega
      rw [e1, ih]
      have e2 : byteAt (beNum l' * 256 + c.toNat) 0 = c := by
        apply UInt8.toNat_inj.1
        have := byteAt_zero (n := beNum l' * 256 + c.toNat) (by omega)
        omega
      rw [e2]
theorem num_be : ∀ (s : Nat) (n : Int), 0 ≤ n → n < 256 ^ s → s ≤ 8 → beNum (beBytes n s) = n
  | 0, n, h0, h1, _ => by
    have : n = 0 := by simp at h1; omega
    subst this; rfl
  | s + 1, n, h0, h1, h8 => by
    rw [Int.pow_succ] at h1
    have hd : n / 256 < 256 ^ s := by omega
    rw [beBytes_snoc _ h0, beNum_snoc8 (by simp [beBytes_len]; omega), num_be s (n / 256) (by omega) hd (by omega), byteAt_zero h0]
    omega
theorem be2_inj {a b : List UInt8} (ha : a.length = 2) (hb : b.length = 2) (h : beNum a = beNum b) : a = b := by
  rw [← be_num 2 a ha (by decide), ← be_num 2 b hb (by decide), h]

theorem beNum_22 {n m : Int} (h0 : 0 ≤ n) (h1 : n < 65536) (k0 : 0 ≤ m) (k1 : m < 65536) : beNum (beBytes n 2 ++ beBytes m 2) = n * 65536 + m := by
  have e : beBytes n 2 ++ beBytes m 2 = beBytes (n * 65536 + m) 4 := by
    have e1 : beBytes (n * 65536 + m) 4 = beBytes ((n * 65536 + m) / 256) 3 ++ [byteAt (n * 65536 + m) 0] := beBytes_snoc 3 (by omega)
    have e2 : beBytes ((n * 65536 + m) / 256) 3 = beBytes ((n * 65536 + m) / 256 / 256) 2 ++ [byteAt ((n * 65536 + m) / 256) 0] := beBytes_snoc 2 (by omega)
    have e3 : (n * 65536 + m) / 256 / 256 = n := by omega
    have e4 : beBytes m 2 = beBytes (m / 256) 1 ++ [byteAt m 0] := beBytes_snoc 1 (by omega)
    have e5 : beBytes (m / 256) 1 = [byteAt (m / 256) 0] := rfl
    have f1 : byteAt (n * 65536 + m) 0 = byteAt m 0 := by
      apply UInt8.toNat_inj.1
      have := byteAt_zero (n := n * 65536 + m) (by omega)
      have := byteAt_zero (n := m) (by omega)
      omega
    have f2 : byteAt ((n * 65536 + m) / 256) 0 = byteAt (m / 256) 0 := by
      apply UInt8.toNat_inj.1
      have := byteAt_zero (n := (n * 65536 + m) / 256) (by omega)
      have := byteAt_zero (n := m / 256) (by omega)
      omega
    rw [e1, e2, e3, e4, e5, f1, f2]; simp
  rw [e, num_be 4 _ (by omega) (by omega) (by decide)]

/-- What a frame is read as that was written. -/
def Frame.back (f : Frame) : Frame := { f with prio := if f.tagged = true then f.prio else 0, drop := if f.tagged = true then f.drop else false, vid := if f.tagged = true then f.vid else 0 }
theorem Frame.back_same (f : Frame) : f.same f.back = true ∧ f.back.same f = true := by
  cases h : f.tagged <;> simp [Frame.same, Frame.back, h]
theorem Frame.back_wrong (f : Frame) : f.back.wrong = f.wrong := by
  cases h : f.tagged <;> simp [Frame.wrong, Frame.back, h]
theorem Frame.bytes_len (f : Frame) : f.bytes.length = 14 + f.data.length + (if f.tagged = true then 4 else 0) := by
  unfold Frame.bytes
  cases f.tagged <;> simp [beBytes_len] <;> omega
theorem append_of {α : Type} {b x y : List α} {k : Nat} (h : b = x ++ y) (hl : x.length = k) : b.take k = x ∧ b.drop k = y := by
  subst h hl; simp
theorem Frame.read_bytes (f : Frame) (hf : f.ok) (hw : f.wrong = 0) : Frame.read f.bytes = some f.back := by
  obtain ⟨r1, r2, r3, r4, r5, r6, r7, r8⟩ := Frame.right hw
  have hd0 := hf.d0
  have hs0 := hf.s0
  have hlen := f.bytes_len
  have d6 : ∀ n : Int, n ≤ 281474976710655 → n < 256 ^ 6 := fun n h => by
    have : (256 : Int) ^ 6 = 281474976710656 := by decide
    omega
  have nd := num_be 6 f.dst hd0 (d6 _ r1) (by decide)
  have ns := num_be 6 f.src hs0 (d6 _ r2) (by decide)
  have ld := beBytes_len f.dst 6
  have ls := beBytes_len f.src 6
  have e0 : f.bytes = beBytes f.dst 6 ++ (beBytes f.src 6 ++ ((if f.tagged = true then beBytes 33024 2 ++ beBytes f.tag 2 else []) ++ beBytes f.typ 2 ++ f.data)) := by
    unfold Frame.bytes; simp only [List.append_assoc]
  obtain ⟨t1, t2⟩ := append_of e0 ld
  obtain ⟨t3, t4⟩ := append_of t2 ls
  rw [List.drop_drop] at t4
  unfold Frame.read
  rw [t1, t3, nd, ns, if_neg (by omega)]
  cases ht : f.tagged with
  | false =>
    rw [ht] at t4 hlen
    simp only [Bool.false_eq_true, if_false, List.nil_append] at t4
    obtain ⟨t5, t6⟩ := append_of t4 (beBytes_len _ _)
    rw [List.drop_drop] at t6
    rw [t5, t6, num_be 2 f.typ (by omega) (by omega) (by decide), if_neg r7]
    simp [Frame.back, ht]
  | true =>
    obtain ⟨q1, q2, q3, q4⟩ := r4 ht
    rw [ht] at t4 hlen
    simp only [if_true, List.append_assoc] at t4 hlen
    obtain ⟨t5, t6⟩ := append_of t4 (beBytes_len _ _)
    rw [List.drop_drop, ← List.append_assoc] at t6
    obtain ⟨t7, t8⟩ := append_of t6 (k := 4) (by simp [beBytes_len])
    rw [List.drop_drop] at t8
    have htag : 0 ≤ f.tag ∧ f.tag < 65536 ∧ f.tag / 8192 = f.prio ∧ f.tag % 4096 = f.vid ∧ (f.tag / 4096 % 2 = 1 ↔ f.drop = true) := by
      unfold Frame.tag
      cases f.drop <;> simp <;> omega
    obtain ⟨g1, g2, g3, g4, g5⟩ := htag
    rw [t5, t7, t8, num_be 2 33024 (by decide) (by decide) (by decide), if_pos rfl, if_neg (by omega), beNum_22 g1 g2 (by omega) (by omega)]
    have k1 : (f.tag * 65536 + f.typ) / 65536 = f.tag := by omega
    have k2 : (f.tag * 65536 + f.typ) % 65536 = f.typ := by omega
    have k3 : decide (f.tag / 4096 % 2 = 1) = f.drop := by
      cases hd : f.drop with
      | true => exact decide_eq_true (g5.2 hd)
      | false => exact decide_eq_false (fun h => by rw [g5.1 h] at hd; cases hd)
    rw [k1, k2, k3, g3, g4]
    simp [Frame.back, ht]
theorem Frame.bytes_read {b : List UInt8} {f : Frame} (h : Frame.read b = some f) (hw : f.wrong = 0) : f.bytes = b := by
  have s6 : ∀ l : List UInt8, l.length = 6 → beBytes (beNum l) 6 = l := fun l hl => be_num 6 l hl (by decide)
  have s2 : ∀ l : List UInt8, l.length = 2 → beBytes (beNum l) 2 = l := fun l hl => be_num 2 l hl (by decide)
  unfold Frame.read at h
  split at h
  · cases h
  · rename_i h14
    have a1 := s6 (b.take 6) (by simp; omega)
    have a2 := s6 ((b.drop 6).take 6) (by simp; omega)
    split at h
    · rename_i ht
      split at h
      · cases h
      · rename_i h18
        injection h with h
        have hq : (b.drop 14).take 4 = (b.drop 14).take 2 ++ (b.drop 16).take 2 := by
          rw [show (b.drop 16) = (b.drop 14).drop 2 by rw [List.drop_drop], ← List.take_add]
        have l1 : ((b.drop 14).take 2).length = 2 := by simp; omega
        have l2 : ((b.drop 16).take 2).length = 2 := by simp; omega
        have hn : beNum ((b.drop 14).take 4) = beNum ((b.drop 14).take 2) * 65536 + beNum ((b.drop 16).take 2) := by
          rw [hq]
          have := beNum_22 (n := beNum ((b.drop 14).take 2)) (m := beNum ((b.drop 16).take 2)) (beNum_range _).1 (beNum_lt 2 _ l1 (by decide)) (beNum_range _).1 (beNum_lt 2 _ l2 (by decide))
          rw [s2 _ l1, s2 _ l2] at this
          exact this
        have m1 := (beNum_range ((b.drop 14).take 2)).1
        have m2 := beNum_lt 2 _ l1 (by decide)
        have m3 := (beNum_range ((b.drop 16).take 2)).1
        have m4 := beNum_lt 2 _ l2 (by decide)
        have p2 : (256 : Int) ^ 2 = 65536 := by decide
        rw [p2] at m2 m4
        have b1 := s2 _ l1
        have b2 := s2 _ l2
        have b3 := s2 ((b.drop 12).take 2) (by simp; omega)
        rw [ht] at b3
        have hsplit : b = b.take 6 ++ ((b.drop 6).take 6 ++ ((b.drop 12).take 2 ++ ((b.drop 14).take 2 ++ ((b.drop 16).take 2 ++ b.drop 18)))) := by
          have c1 : (b.drop 16).take 2 ++ b.drop 18 = b.drop 16 := by rw [show b.drop 18 = (b.drop 16).drop 2 by rw [List.drop_drop], List.take_append_drop]
          have c2 : (b.drop 14).take 2 ++ b.drop 16 = b.drop 14 := by rw [show b.drop 16 = (b.drop 14).drop 2 by rw [List.drop_drop], List.take_append_drop]
          have c3 : (b.drop 12).take 2 ++ b.drop 14 = b.drop 12 := by rw [show b.drop 14 = (b.drop 12).drop 2 by rw [List.drop_drop], List.take_append_drop]
          have c4 : (b.drop 6).take 6 ++ b.drop 12 = b.drop 6 := by rw [show b.drop 12 = (b.drop 6).drop 6 by rw [List.drop_drop], List.take_append_drop]
          rw [c1, c2, c3, c4, List.take_append_drop]
        rw [hn] at h
        generalize beNum ((b.drop 14).take 2) = t at h m1 m2 b1
        generalize beNum ((b.drop 16).take 2) = y at h m3 m4 b2
        have z1 : (t * 65536 + y) / 65536 = t := by omega
        have z2 : (t * 65536 + y) % 65536 = y := by omega
        rw [z1, z2] at h
        subst h
        have htag : t / 8192 * 8192 + t % 4096 + (if decide (t / 4096 % 2 = 1) = true then 4096 else 0) = t := by
          by_cases hh : t / 4096 % 2 = 1
          · simp [hh]; omega
          · simp [hh]; omega
        simp only [Frame.bytes, Frame.tag, if_true]
        rw [htag, a1, a2, b1, b2, b3]
        conv => rhs; rw [hsplit]
        simp only [List.append_assoc]
    · injection h with h
      subst h
      have b3 := s2 ((b.drop 12).take 2) (by simp; omega)
      simp only [Frame.bytes, Bool.false_eq_true, if_false, List.append_nil]
      rw [a1, a2, b3]
      have c3 : (b.drop 12).take 2 ++ b.drop 14 = b.drop 12 := by rw [show b.drop 14 = (b.drop 12).drop 2 by rw [List.drop_drop], List.take_append_drop]
      have c4 : (b.drop 6).take 6 ++ b.drop 12 = b.drop 6 := by rw [show b.drop 12 = (b.drop 6).drop 6 by rw [List.drop_drop], List.take_append_drop]
      simp only [List.append_assoc]
      rw [c3, c4, List.take_append_drop]
end Go.Proofs.Ytjniepfecgcmaaa
