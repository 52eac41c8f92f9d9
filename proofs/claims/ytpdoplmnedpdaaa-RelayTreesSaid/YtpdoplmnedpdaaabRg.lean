/- Strings indexed; strings as bytes of one's own. -/
import Derived.Test.YtpdoplmnedpdaaabSl
namespace Go.Proofs.Ytpdoplmnedpdaaa
open Go.RowKit
section
variable {P : Program} {e : Operand → D} {m : Mem} {dst : Option Tmp} {ty : TypeId} {pos : String} {af : Array Edge} {gd : Option (Nat × Bool)} {x y : Operand} {t s el : TypeId}
theorem S_ix_str {n n' : Bool} {k : IntKind} {i : Int} {l : List UInt8} {c : UInt8} (hu : P.underlying t = some .string) (h1 : e x = .dat n (.str l)) (h2 : e y = .dat n' (.int k i)) (hi : 0 ≤ i) (hc : l[i.toNat]? = some c) :
    SStep P ⟨dst, .index t x y, ty, pos, af, gd⟩ e m [] (.dat true (.int .u8 c.toNat)) [] :=
  .pure fun C m' ac _ hh hx => by
    have g1 := hx x (by simp [Op.operands]); rw [h1] at g1
    have g2 := rd_int (by have := hx y (by simp [Op.operands]); rwa [h2] at this)
    refine ⟨.int .u8 c.toNat, ?_, mk_int⟩
    have hg : (⟨l.toArray⟩ : ByteArray)[i.toNat]? = some c := by
      have h3 : i.toNat < l.length := (List.getElem?_eq_some_iff.1 hc).1
      have h4 : l[i.toNat] = c := (List.getElem?_eq_some_iff.1 hc).2
      have h5 : i.toNat < (⟨l.toArray⟩ : ByteArray).size := by simpa [ByteArray.size] using h3
      rw [getElem?_pos (⟨l.toArray⟩ : ByteArray) i.toNat h5]
      exact congrArg some h4
    simp [execOp, Instr.index, rd_str g1, g2, asIntOf, run_under hu, hi, hg]
theorem S_str_bytesO {n : Bool} {l : List UInt8} (g : Nat) [hu : SlcI P t el] (he : P.underlying el = some (.int .u8)) (ht : P.underlying s = some .string) (h : e x = .dat n (.str l)) (hl : l.length ≤ 140737488355328) (hg : m.at g = .gone) :
    SStep P ⟨dst, .convert s t x, ty, pos, af, gd⟩ e m [] (.own g 0 0 l.length) [(g, .row 0 false true 1 (l.map byteV))] := by
  intro C m' a next Q ha hm hx hn
  have g1 := hx x (by simp [Op.operands]); rw [h] at g1
  have hrun := run_bytes_of_string (P := P) C.w s t el ⟨l.toArray⟩ ht hu.out he
  have hsz : (⟨l.toArray⟩ : ByteArray).size = l.length := by simp [ByteArray.size]
  rw [hsz] at hrun
  generalize hcap : grownCap C.w l.length 0 el = cap at hrun
  have hge : l.length ≤ cap := by rw [← hcap]; exact grownCap_ge _ _ _ _
  have hle : cap ≤ maxLen := by rw [← hcap]; exact grownCap_le_maxLen _ _ _ _ (by unfold maxLen; omega)
  generalize hrow : bytesRow ⟨l.toArray⟩ cap = row at hrun
  have hrs : row.size = cap := by
    rw [← hrow]; unfold bytesRow
    simp
    omega
  have hrowg : ∀ (i : Nat) (b : UInt8), l[i]? = some b → row[i]? = some (Value.int .u8 b.toNat) := fun i b hb => by
    have hi : i < l.length := (List.getElem?_eq_some_iff.1 hb).1
    rw [← hrow]
    unfold bytesRow
    rw [Array.getElem?_append_left (by simpa using hi)]
    simp [hb]
  have hg' : m'.at g = .gone := (ha g (by simp)).trans hg
  have hexec : (execOp a.eval ⟨dst, .convert s t x, ty, pos, af, gd⟩).run P C.w = .ok (.value (.slice (some ⟨C.w.heap.size, 0, none⟩) l.length cap)) (C.w.drew.alloc (.cells row el (row.size, row.size + 1))) := by
    simp [execOp, rd_str g1, hrun]
  have hblk : (C.w.drew.alloc (.cells row el (row.size, row.size + 1))).heap[C.w.heap.size]? = some (.cells row el (row.size, row.size + 1)) := heap_alloc_new C.w.drew _
  have hget : ∀ (i j : Nat) (y : List V) (d : V), (l.map byteV)[i]? = some y → y[j]? = some d → ∃ b, l[i]? = some b ∧ y = [.int .u8 b.toNat] ∧ j = 0 ∧ d = .int .u8 b.toNat := fun i j y d hy hd => by
    simp only [List.getElem?_map, Option.map_eq_some_iff] at hy
    obtain ⟨b, hb, rfl⟩ := hy
    have hj : j = 0 := by have := (List.getElem?_eq_some_iff.1 hd).1; simp [byteV] at this; exact this
    subst hj
    simp [byteV] at hd
    exact ⟨b, hb, rfl, rfl, hd.symm⟩
  have hst := step_row (g := g) (xs := l.map byteV) (sz := 1) (nw := true) hm hg' (Grew.drewAlloc C.w (.cells row el (row.size, row.size + 1))) C.w.heap.size (Nat.le_refl _) hblk ⟨fun i hi h => by simp only at h; omega, Nat.le_succ _, .inl rfl⟩
    (by rw [List.length_map, hrs]; omega) (fun i y hy => map_len (f := byteV) l y (List.mem_of_getElem? hy)) (fun i j y d hy hd => by obtain ⟨b, _, _, _, rfl⟩ := hget i j y d hy hd; rfl)
    (fun i j y d u hy hd hu' => by
      obtain ⟨b, hb, _, rfl, rfl⟩ := hget i j y d hy hd
      have h3 := hrowg i b hb
      rw [show i * 1 + 0 = i by omega, h3] at hu'
      injection hu' with hu'
      rw [← hu']
      exact Rd.int _ _)
  refine wp_of_value hexec (hn _ _ hst ?_)
  refine ⟨0, false, true, 1, l.map byteV, Mem.at_cons_same _ _ _, Nat.le_refl _, ⟨_, _, _, rfl⟩, fun _ => ⟨by simp, ?_⟩⟩
  rw [Cf.set_same]
  exact ⟨cap, row, el, _, by simp, hblk, by rw [hrs]; simp, hge, hle⟩
end
end Go.Proofs.Ytpdoplmnedpdaaa
