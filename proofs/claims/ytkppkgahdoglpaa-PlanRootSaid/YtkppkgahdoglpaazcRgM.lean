/- Regions: tables, digests, identities; mathematics. -/
import Derived.Test.YtkppkgahdoglpaazcRgW
import Derived.Test.YtkppkgahdoglpaazdMam
namespace Go.Proofs.Ytkppkgahdoglpaa
open Go.RowKit
def tableT (ws : List Way) : List UInt8 := ws.foldl (fun t w => t.set w.vid.toNat (byteAt w.tree 0)) (List.replicate 4096 0)
def inter (l : List UInt8) : List UInt8 := l.flatMap fun c => [0, c]
theorem inter_len (l : List UInt8) : (inter l).length = 2 * l.length := by
  induction l with
  | nil => rfl
  | cons c r ih => simp only [inter, List.flatMap_cons, List.length_append, List.length_cons, List.length_nil] at *; omega
theorem inter_set : ∀ (l : List UInt8) (i : Nat) (c : UInt8), inter (l.set i c) = (inter l).set (2 * i + 1) c
  | [], i, c => rfl
  | a :: r, 0, c => rfl
  | a :: r, i + 1, c => by
    have ih := inter_set r i c
    simp only [inter, List.set_cons_succ, List.flatMap_cons] at *
    rw [ih, show 2 * (i + 1) + 1 = (2 * i + 1) + 1 + 1 by omega]
    rfl
theorem inter_zero : ∀ n, inter (List.replicate n 0) = List.replicate (2 * n) 0
  | 0 => rfl
  | n + 1 => by
    have ih := inter_zero n
    rw [List.replicate_succ, show 2 * (n + 1) = 2 * n + 1 + 1 by omega, List.replicate_succ, List.replicate_succ, ← ih]
    rfl
def keyR : List UInt8 := [19, 172, 6, 166, 46, 71, 253, 81, 249, 93, 43, 162, 67, 205, 3, 70]
def digestR (ws : List Way) : List UInt8 := macS keyR (inter (tableT ws))
def identR (r : Region) : List UInt8 := r.name ++ List.replicate (32 - r.name.length) 0 ++ [byteAt r.rev 1, byteAt r.rev 0] ++ digestR r.ways
theorem foldl_set_len (ws : List Way) : ∀ t : List UInt8, (ws.foldl (fun t w => t.set w.vid.toNat (byteAt w.tree 0)) t).length = t.length := by
  induction ws with
  | nil => intro t; rfl
  | cons w r ih => intro t; rw [List.foldl_cons, ih, List.length_set]
theorem tableT_len (ws : List Way) : (tableT ws).length = 4096 := by unfold tableT; rw [foldl_set_len, List.length_replicate]
theorem digestR_len (ws : List Way) : (digestR ws).length = 16 := md5S_len _
end Go.Proofs.Ytkppkgahdoglpaa
