/- Mathematics of hellos. -/
import Derived.Test.YtjniepfecgcmaaadHeq
import Derived.Test.YtjniepfecgcmaaacByM
namespace Go.Proofs.Ytjniepfecgcmaaa
open Go.RowKit

theorem Tale.read_bytes (t : Tale) (ht : t.ok) (hb : ¬ t.bad) (rest : List UInt8) : Tale.read (t.bytes ++ rest) = t ∧ (t.bytes ++ rest).drop 23 = rest := by
  unfold Tale.bad at hb
  have p1 : (256 : Int) ^ 1 = 256 := by decide
  have p4 : (256 : Int) ^ 4 = 4294967296 := by decide
  have p8 : (256 : Int) ^ 8 = 18446744073709551616 := by decide
  have q1 := ht.r0
  have q2 := ht.r1
  have q3 := ht.b0
  have q4 := ht.b1
  have e : t.bytes ++ rest = beBytes t.tree 1 ++ (beBytes t.age 1 ++ (beBytes t.root 8 ++ (beBytes t.cost 4 ++ (beBytes t.bridge 8 ++ (beBytes t.port 1 ++ rest))))) := by
    unfold Tale.bytes; simp only [List.append_assoc]
  obtain ⟨a1, a2⟩ := append_of e (beBytes_len _ _)
  obtain ⟨b1, b2⟩ := append_of a2 (beBytes_len _ _)
  rw [List.drop_drop] at b2
  obtain ⟨c1, c2⟩ := append_of b2 (beBytes_len _ _)
  rw [List.drop_drop] at c2
  obtain ⟨d1, d2⟩ := append_of c2 (beBytes_len _ _)
  rw [List.drop_drop] at d2
  obtain ⟨e1, e2⟩ := append_of d2 (beBytes_len _ _)
  rw [List.drop_drop] at e2
  obtain ⟨f1, f2⟩ := append_of e2 (beBytes_len _ _)
  rw [List.drop_drop] at f2
  refine ⟨?_, f2⟩
  unfold Tale.read
  rw [a1, b1]
  have c1' : ((t.bytes ++ rest).drop 2).take 8 = beBytes t.root 8 := c1
  have d1' : ((t.bytes ++ rest).drop 10).take 4 = beBytes t.cost 4 := d1
  have e1' : ((t.bytes ++ rest).drop 14).take 8 = beBytes t.bridge 8 := e1
  have f1' : ((t.bytes ++ rest).drop 22).take 1 = beBytes t.port 1 := f1
  rw [c1', d1', e1', f1', num_be 1 t.tree (by omega) (by omega) (by decide), num_be 1 t.age (by omega) (by omega) (by decide), num_be 8 t.root (by omega) (by omega) (by decide),
    num_be 4 t.cost (by omega) (by omega) (by decide), num_be 8 t.bridge (by omega) (by omega) (by decide), num_be 1 t.port (by omega) (by omega) (by decide)]
theorem talesR_B : ∀ (ts : List Tale), (∀ t ∈ ts, t.ok ∧ ¬ t.bad) → talesR ts.length (talesB ts) = ts
  | [], _ => rfl
  | t :: r, h => by
    obtain ⟨h1, h2⟩ := h t (List.mem_cons.2 (.inl rfl))
    have e : talesB (t :: r) = t.bytes ++ talesB r := by simp [talesB]
    obtain ⟨k1, k2⟩ := Tale.read_bytes t h1 h2 (talesB r)
    rw [List.length_cons, talesR, e, k1, k2, talesR_B r (fun u hu => h u (List.mem_cons.2 (.inr hu)))]
theorem Tale.bytes_read (r : List UInt8) (h : 23 ≤ r.length) : (Tale.read r).bytes = r.take 23 := by
  have s1 : ∀ l : List UInt8, l.length = 1 → beBytes (beNum l) 1 = l := fun l hl => be_num 1 l hl (by decide)
  have s4 : ∀ l : List UInt8, l.length = 4 → beBytes (beNum l) 4 = l := fun l hl => be_num 4 l hl (by decide)
  have s8 : ∀ l : List UInt8, l.length = 8 → beBytes (beNum l) 8 = l := fun l hl => be_num 8 l hl (by decide)
  simp only [Tale.bytes, Tale.read]
  rw [s1 (r.take 1) (by simp; omega), s1 ((r.drop 1).take 1) (by simp; omega), s8 ((r.drop 2).take 8) (by simp; omega), s4 ((r.drop 10).take 4) (by simp; omega), s8 ((r.drop 14).take 8) (by simp; omega), s1 ((r.drop 22).take 1) (by simp; omega)]
  rw [show 23 = 22 + 1 from rfl, List.take_add (i := 22), show 22 = 14 + 8 from rfl, List.take_add (i := 14), show 14 = 10 + 4 from rfl, List.take_add (i := 10), show 10 = 2 + 8 from rfl, List.take_add (i := 2), show 2 = 1 + 1 from rfl, List.take_add (i := 1)]
theorem talesB_R : ∀ (n : Nat) (r : List UInt8), r.length = 23 * n → talesB (talesR n r) = r
  | 0, r, h => by
    have : r = [] := List.length_eq_zero_iff.1 (by omega)
    subst this; rfl
  | n + 1, r, h => by
    have e : talesB (talesR (n + 1) r) = (Tale.read r).bytes ++ talesB (talesR n (r.drop 23)) := by simp [talesB, talesR]
    rw [e, Tale.bytes_read r (by omega), talesB_R n (r.drop 23) (by simp; omega), List.take_append_drop]
theorem Hello.bytes_len (h : Hello) : h.bytes.length = h.digest.length + 1 + 23 * h.tales.length := by
  unfold Hello.bytes; simp only [List.length_append, talesB_len, List.length_singleton]
theorem Hello.outB_len (h : Hello) : h.outB.length ≤ 385 := by
  unfold Hello.outB
  split
  · rename_i hw
    obtain ⟨r1, _, r3⟩ := Hello.right hw
    rw [h.bytes_len]; omega
  · simp
theorem Hello.read_bytes (h : Hello) (hk : h.ok) (hw : h.wrong = 0) : Hello.read h.bytes = some h := by
  obtain ⟨r1, r2, r3⟩ := Hello.right hw
  have e : h.bytes = h.digest ++ ([byteAt h.tales.length 0] ++ talesB h.tales) := by unfold Hello.bytes; simp only [List.append_assoc]
  obtain ⟨a1, a2⟩ := append_of e r1
  obtain ⟨b1, b2⟩ := append_of (k := 1) a2 rfl
  rw [List.drop_drop] at b2
  have hb : ((byteAt h.tales.length 0).toNat : Int) = h.tales.length := by rw [byteAt_zero (by omega)]; omega
  have hc : h.bytes[16]? = some (byteAt h.tales.length 0) := by
    have := List.getElem?_drop (xs := h.bytes) (i := 16) (j := 0)
    rw [a2] at this
    simpa using this.symm
  have hbl := h.bytes_len
  unfold Hello.read
  rw [hc]
  simp only
  rw [if_pos (by omega), a1]
  have b2' : h.bytes.drop 17 = talesB h.tales := b2
  rw [b2', show (byteAt h.tales.length 0).toNat = h.tales.length by omega, talesR_B _ (fun t ht => ⟨hk.1 t ht, r2 t ht⟩)]
theorem Hello.bytes_read {b : List UInt8} {h : Hello} (hr : Hello.read b = some h) : h.bytes = b := by
  unfold Hello.read at hr
  split at hr
  · cases hr
  · rename_i c hc
    split at hr
    · rename_i hl
      injection hr with hr
      subst hr
      have lc := c.toNat_lt
      have e : byteAt ((talesR c.toNat (b.drop 17)).length : Int) 0 = c := by
        rw [talesR_len]
        apply UInt8.toNat_inj.1
        have := byteAt_zero (n := (c.toNat : Int)) (by omega)
        omega
      simp only [Hello.bytes, e]
      rw [talesB_R _ _ (by simp; omega)]
      obtain ⟨h1, h2⟩ := List.getElem?_eq_some_iff.1 hc
      have : b.drop 16 = [c] ++ b.drop 17 := by rw [List.drop_eq_getElem_cons h1, h2]; rfl
      rw [List.append_assoc, ← this, List.take_append_drop]
    · cases hr
theorem Hello.pE_zero {b : List UInt8} (h : Hello.pE b = 0) : (Hello.pF b).wrong = 0 ∧ (Hello.pF b).outB = b := by
  unfold Hello.pE at h
  unfold Hello.pF Hello.outB
  cases hr : Hello.read b with
  | none => rw [hr] at h; cases h
  | some f =>
    rw [hr] at h
    simp only at h
    simp only [h, if_true, true_and]
    exact Hello.bytes_read hr
theorem Hello.pE_not {b : List UInt8} (h : ¬ Hello.pE b = 0) : Hello.pF b = .zero := by
  unfold Hello.pE at h
  unfold Hello.pF
  cases hr : Hello.read b with
  | none => rfl
  | some f =>
    rw [hr] at h
    simp only at h
    simp only [h, if_false]
theorem Hello.zero_ok : Hello.zero.ok := ⟨by simp [Hello.zero], by decide, by decide⟩
theorem Hello.pF_ok (b : List UInt8) : (Hello.pF b).ok := by
  unfold Hello.pF
  cases h : Hello.read b with
  | none => exact Hello.zero_ok
  | some f =>
    simp only
    split
    · exact (Hello.read_ok h).1
    · exact Hello.zero_ok
theorem Hello.outB_back {h : Hello} (hk : h.ok) (hw : h.wrong = 0) : Hello.pF h.outB = h ∧ Hello.pE h.outB = 0 := by
  unfold Hello.pF Hello.pE Hello.outB
  rw [if_pos hw, Hello.read_bytes h hk hw]
  simp only [hw, if_true, and_self]
def Hello.more (h : Hello) (t : Tale) : Hello := ⟨h.digest, h.tales ++ [t]⟩
theorem Hello.more_bytes (h : Hello) (t : Tale) (hw : h.wrong = 0) (hg : (h.more t).wrong = 0) : (h.more t).bytes.length = h.bytes.length + 23 ∧ h.bytes.take 16 = (h.more t).bytes.take 16 ∧
    h.bytes.drop 17 = ((h.more t).bytes.drop 17).take (h.bytes.length - 17) ∧ ∃ x y : UInt8, h.bytes[16]? = some x ∧ (h.more t).bytes[16]? = some y ∧ (y.toNat : Int) = x.toNat + 1 ∧ y.toNat ≤ 16 := by
  obtain ⟨r1, r2, r3⟩ := Hello.right hw
  obtain ⟨s1, s2, s3⟩ := Hello.right hg
  have l1 : (h.more t).tales.length = h.tales.length + 1 := by simp [Hello.more]
  have e : h.bytes = h.digest ++ ([byteAt h.tales.length 0] ++ talesB h.tales) := by unfold Hello.bytes; simp only [List.append_assoc]
  have e' : (h.more t).bytes = h.digest ++ ([byteAt (h.more t).tales.length 0] ++ (talesB h.tales ++ t.bytes)) := by
    unfold Hello.bytes; simp only [Hello.more, talesB_snoc, List.append_assoc]
  obtain ⟨a1, a2⟩ := append_of e r1
  obtain ⟨b1, b2⟩ := append_of (k := 1) a2 rfl
  rw [List.drop_drop] at b2
  obtain ⟨c1, c2⟩ := append_of e' r1
  obtain ⟨d1, d2⟩ := append_of (k := 1) c2 rfl
  rw [List.drop_drop] at d2
  have hl := h.bytes_len
  have hl' := (h.more t).bytes_len
  have hd : (h.more t).digest = h.digest := rfl
  have b2' : h.bytes.drop 17 = talesB h.tales := b2
  have d2' : (h.more t).bytes.drop 17 = talesB h.tales ++ t.bytes := d2
  refine ⟨by rw [hl, hl', hd, l1]; omega, by rw [a1, c1], ?_, byteAt h.tales.length 0, byteAt (h.more t).tales.length 0, ?_, ?_, ?_, ?_⟩
  · rw [b2', d2']
    have hk : h.bytes.length - 17 = (talesB h.tales).length := by rw [talesB_len, hl]; omega
    rw [hk]; simp
  · have := List.getElem?_drop (xs := h.bytes) (i := 16) (j := 0)
    rw [a2] at this
    simpa using this.symm
  · have := List.getElem?_drop (xs := (h.more t).bytes) (i := 16) (j := 0)
    rw [c2] at this
    simpa using this.symm
  · rw [byteAt_zero (by omega), byteAt_zero (by omega), l1]; omega
  · have := byteAt_zero (n := ((h.more t).tales.length : Int)) (by omega)
    omega
end Go.Proofs.Ytjniepfecgcmaaa
