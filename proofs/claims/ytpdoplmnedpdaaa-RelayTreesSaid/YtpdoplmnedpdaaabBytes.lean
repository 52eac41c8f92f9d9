/- Bytes and strings. -/
import Derived.Test.YtpdoplmnedpdaaabSlice
import Derived.Laws.IdiomStrings
import Derived.Laws.BytesArg
namespace Go.Proofs.Ytpdoplmnedpdaaa
open Go.RowKit

def bytesV (l : List UInt8) : List (List V) := l.map fun b => [.int .u8 b.toNat]
theorem bytesV_len (l : List UInt8) : (bytesV l).length = l.length := by simp [bytesV]

section
variable {P : Program} {e : Operand → D} {m : Mem} {dst : Option Tmp} {ty : TypeId} {pos : String} {af : Array Edge} {gd : Option (Nat × Bool)} {x : Operand} {t s el : TypeId}
theorem S_bytes_str {n : Bool} {l : List UInt8} [hu : SlcI P s el] (he : P.underlying el = some (.int .u8)) (ht : P.underlying t = some .string) (h : e x = .dat n (.slice (bytesV l))) :
    SStep P ⟨dst, .convert s t x, ty, pos, af, gd⟩ e m [] (.dat true (.str l)) [] :=
  .pure fun C m' ac _ _ hx => by
    have g1 := hx x (by simp [Op.operands]); rw [h] at g1
    have g1 : Rd (C.D n) C.w (.slice (bytesV l)) (ac.eval x) := g1
    refine ⟨.string ⟨l.toArray⟩, ?_, Rd.str l⟩
    have hrun : (convert s t (ac.eval x)).run P C.w = .ok (.string ⟨l.toArray⟩) C.w := by
      generalize hX : V.slice (bytesV l) = X at g1
      generalize ac.eval x = v at g1
      cases g1 with
      | nil =>
        injection hX with hX
        obtain rfl : l = [] := by cases l with | nil => rfl | cons _ _ => simp [bytesV] at hX
        exact run_convert_bytes_nil C.w s el hu.out he 0 0 t ht
      | mt a cap hm =>
        injection hX with hX
        obtain rfl : l = [] := by cases l with | nil => rfl | cons _ _ => simp [bytesV] at hX
        exact run_convert_bytes_back C.w s t el a cap [] hu.out he ht (fun j hj => by simp at hj)
      | slice xs b off cap sz cell hc hm hsz hone hS hw hr =>
        injection hX with hX
        subst hX
        have hl := bytesV_len l
        rw [hl]
        refine run_convert_bytes_back C.w s t el _ cap l hu.out he ht (fun j hj => ?_)
        have hx : (bytesV l)[j]? = some [.int .u8 l[j].toNat] := by simp [bytesV, hj]
        have h1 : sz = 1 := by rw [← hsz j _ hx]; rfl
        have h2 := hw j 0 _ _ hx rfl
        have h3 := hr j 0 _ _ hx rfl
        cases hcell : cell j 0 with
        | int k v =>
          rw [hcell] at h2 h3
          cases h3
          rw [aadd]
          rw [h1] at h2
          simpa using h2
        | _ => rw [hcell] at h3; cases h3
      | undef => cases hX
      | _ => cases hX
    simp [execOp, hrun]
theorem S_str_bytes {n : Bool} {l : List UInt8} [hu : SlcI P t el] (he : P.underlying el = some (.int .u8)) (ht : P.underlying s = some .string) (h : e x = .dat n (.str l)) (hl : l.length ≤ 140737488355328) :
    SStep P ⟨dst, .convert s t x, ty, pos, af, gd⟩ e m [] (.dat true (.slice (bytesV l))) [] := by
  intro C m' a next Q ha hm hx hn
  have g1 := hx x (by simp [Op.operands]); rw [h] at g1
  have hrun := run_bytes_of_string (P := P) C.w s t el ⟨l.toArray⟩ ht hu.out he
  have hsz : (⟨l.toArray⟩ : ByteArray).size = l.length := by simp [ByteArray.size]
  rw [hsz] at hrun
  generalize hcap : grownCap C.w l.length 0 el = cap at hrun
  have hge : l.length ≤ cap := by rw [← hcap]; exact grownCap_ge _ _ _ _
  have hle : cap ≤ maxLen := by rw [← hcap]; exact grownCap_le_maxLen _ _ _ _ (by unfold maxLen; omega)
  generalize hrow : bytesRow ⟨l.toArray⟩ cap = row at hrun
  have hrowg : ∀ (i : Nat) (b : UInt8), l[i]? = some b → row[i]? = some (Value.int .u8 b.toNat) := fun i b hb => by
    have hi : i < l.length := (List.getElem?_eq_some_iff.1 hb).1
    rw [← hrow]
    unfold bytesRow
    rw [Array.getElem?_append_left (by simpa using hi)]
    simp [hb]
  have hst := step_dat (w := C.w.drew.alloc (.cells row el (row.size, row.size + 1))) (fun k => k = C.w.heap.size) hm (Grew.drewAlloc _ _) (fun k hk => by subst hk; simp)
  have hexec : (execOp a.eval ⟨dst, .convert s t x, ty, pos, af, gd⟩).run P C.w = .ok (.value (.slice (some ⟨C.w.heap.size, 0, none⟩) l.length cap)) (C.w.drew.alloc (.cells row el (row.size, row.size + 1))) := by
    simp [execOp, rd_str g1, hrun]
  refine wp_of_value hexec (hn _ _ hst ?_)
  have hblk : (C.w.drew.alloc (.cells row el (row.size, row.size + 1))).heap[C.w.heap.size]? = some (.cells row el (row.size, row.size + 1)) := heap_alloc_new C.w.drew _
  have hget : ∀ (i j : Nat) (y : List V) (d : V), (bytesV l)[i]? = some y → y[j]? = some d → ∃ b, l[i]? = some b ∧ y = [.int .u8 b.toNat] ∧ j = 0 ∧ d = .int .u8 b.toNat := fun i j y d hy hd => by
    simp only [bytesV, List.getElem?_map, Option.map_eq_some_iff] at hy
    obtain ⟨b, hb, rfl⟩ := hy
    have hj : j = 0 := by have := (List.getElem?_eq_some_iff.1 hd).1; simp at this; exact this
    subst hj
    simp at hd
    exact ⟨b, hb, rfl, rfl, hd.symm⟩
  have := Rd.slice (S := (C.put (fun k => k = C.w.heap.size) (C.w.drew.alloc (.cells row el (row.size, row.size + 1)))).D true) (w := C.w.drew.alloc (.cells row el (row.size, row.size + 1))) (bytesV l) C.w.heap.size 0 cap 1
    (fun i _ => row.getD i undef) (by rw [bytesV_len]; exact hge) hle
    (fun i y hy => by simp only [bytesV, List.getElem?_map, Option.map_eq_some_iff] at hy; obtain ⟨b, _, rfl⟩ := hy; rfl)
    (fun i j y d hy hd => by obtain ⟨b, _, _, _, rfl⟩ := hget i j y d hy hd; rfl) (fun _ => .inr rfl)
    (fun i j y d hy hd => by
      obtain ⟨b, hb, _, rfl, _⟩ := hget i j y d hy hd
      rw [cell_of_arr hblk]
      simp [hrowg i b hb])
    (fun i j y d hy hd => by
      obtain ⟨b, hb, _, rfl, rfl⟩ := hget i j y d hy hd
      have : row.getD i undef = Value.int .u8 b.toNat := by simp [hrowg i b hb]
      rw [this]
      exact .int _ _)
  rw [bytesV_len] at this
  exact this
end
end Go.Proofs.Ytpdoplmnedpdaaa
