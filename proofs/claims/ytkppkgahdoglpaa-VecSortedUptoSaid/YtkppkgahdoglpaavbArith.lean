/- The D-machine, part 11: sums that fit; ends of regions. -/
import Derived.Test.YtkppkgahdoglpaavaBuild
namespace Go.Proofs.Ytkppkgahdoglpaa
open Go.RowKit
def InK : IntKind → Int → Prop
  | .i8, a => -128 ≤ a ∧ a ≤ 127
  | .i16, a => -32768 ≤ a ∧ a ≤ 32767
  | .i32, a => -2147483648 ≤ a ∧ a ≤ 2147483647
  | .i64, a => -9223372036854775808 ≤ a ∧ a ≤ 9223372036854775807
  | .u8, a => 0 ≤ a ∧ a ≤ 255
  | .u16, a => 0 ≤ a ∧ a ≤ 65535
  | .u32, a => 0 ≤ a ∧ a ≤ 4294967295
  | .u64, a => 0 ≤ a ∧ a ≤ 18446744073709551615
theorem wrap_in {k : IntKind} {a : Int} (h : InK k a) : k.wrap a = a := by
  cases k <;> simp only [InK] at h <;> simp only [IntKind.wrap, IntKind.bits, IntKind.signed] <;> simp <;> omega
section
variable {P : Program} {e : Operand → D} {m : Mem} {dst : Option Tmp} {ty : TypeId} {pos : String} {af : Array Edge} {gd : Option (Nat × Bool)} {x y z : Operand} {t : TypeId} {yt : TypeId}
theorem W_toInt {n : Bool} {k k' : IntKind} {s : TypeId} {a : Int} [hs : IntI P s k] [ht : IntI P t k'] (h : e x = .dat n (.int k a)) :
    SStep P ⟨dst, .convert s t x, ty, pos, af, gd⟩ e m [] (.dat true (.int k' (k'.wrap a))) [] := S_toInt hs.out ht.out h
theorem as_int {op : Op} {rd : List Nat} {k : IntKind} {a b : Int} (h : SStep P ⟨dst, op, ty, pos, af, gd⟩ e m rd (.dat true (.int k a)) []) (hb : a = b) : SStep P ⟨dst, op, ty, pos, af, gd⟩ e m rd (.dat true (.int k b)) [] := by
  subst hb; exact h
end
def V.flat0 : V → Bool
  | .bool _ | .int _ _ | .str _ | .undef => true
  | .slice [] => true
  | _ => false
def V.flatB : V → Bool
  | .agg cs => cs.all V.flat0
  | .tuple cs => cs.all fun c => match c with
    | .agg ds => ds.all V.flat0
    | c => c.flat0
  | x => x.flat0
theorem flat0_ok {x : V} (h : x.flat0 = true) : Flat x := by
  cases x with
  | bool b => exact .bool b
  | int k n => exact .int k n
  | str s => exact .str s
  | undef => exact .undef
  | slice xs => cases xs with
    | nil => exact .nil
    | cons a l => simp [V.flat0] at h
  | _ => simp [V.flat0] at h
theorem flat_of {x : V} (h : x.flatB = true) : Flat x := by
  cases x with
  | agg cs =>
    simp only [V.flatB, List.all_eq_true] at h
    exact .agg cs (fun j d hd => flat0_ok (h d (List.mem_of_getElem? hd)))
  | tuple cs =>
    simp only [V.flatB, List.all_eq_true] at h
    refine .tuple cs (fun j d hd => ?_)
    have := h d (List.mem_of_getElem? hd)
    cases d with
    | agg ds =>
      simp only [List.all_eq_true] at this
      exact .agg ds (fun j d hd => flat0_ok (this d (List.mem_of_getElem? hd)))
    | _ => exact flat0_ok this
  | _ => exact flat0_ok h
section
variable {P : Program} {ops : Array Oper} {r : List Oper} {env : Env} {mem : Mem} {nt : Nat} {acc : List (List Nat × List Nat)} {K : List (List Nat × List Nat) → St → Prop} {rd : List Nat} {val : D} {wr : Mem}
  {t : Nat} {op : Op} {ty : TypeId} {pos : String} {af : Array Edge}
theorem dt {bx : Box} (hd : Nat.blt t nt = true) (h : SStep P ⟨some t, op, ty, pos, af, none⟩ (ev ⟨env, mem, nt⟩) mem rd val [(t, bx)]) (k : DOps P ops r ⟨(t, val) :: env, (t, bx) :: mem, nt⟩ ((rd, [t]) :: acc) K) :
    DOps P ops (⟨some t, op, ty, pos, af, none⟩ :: r) ⟨env, mem, nt⟩ acc K := dstep hd (.plain rfl h) k
end
section
variable {P : Program} {ops : Array Oper} {r : List Oper} {env : Env} {mem : Mem} {nt : Nat} {acc : List (List Nat × List Nat)} {K : List (List Nat × List Nat) → St → Prop} {rd : List Nat} {val : D} {wr : Mem}
  {t : Nat} {c : Call} {ty : TypeId} {pos : String} {af : Array Edge}
theorem dpC (hd : Nat.blt t nt = true) (h : SStep P ⟨some t, .call c, ty, pos, af, none⟩ (ev ⟨env, mem, nt⟩) mem rd val []) (k : DOps P ops r ⟨(t, val) :: env, mem, nt⟩ ((rd, []) :: acc) K) :
    DOps P ops (⟨some t, .call c, ty, pos, af, none⟩ :: r) ⟨env, mem, nt⟩ acc K := dp hd h k
theorem dmC {g : Nat} {bx : Box} (hd : Nat.blt t nt = true) (h : SStep P ⟨some t, .call c, ty, pos, af, none⟩ (ev ⟨env, mem, nt⟩) mem rd val [(g, bx)]) (k : DOps P ops r ⟨(t, val) :: env, (g, bx) :: mem, nt⟩ ((rd, [g]) :: acc) K) :
    DOps P ops (⟨some t, .call c, ty, pos, af, none⟩ :: r) ⟨env, mem, nt⟩ acc K := dm hd h k
end
theorem dnilD {P : Program} {Q : Exit → St → Prop} {s : St} {l : List Oper} {acc : List (List Nat × List Nat)} (hc : chk l acc = true) (h : Q .normal s) : DOps P l.toArray [] s acc (fun acc s' => chk l acc = true ∧ Q .normal s') := dnil ⟨hc, h⟩
theorem dnilP {P : Program} {ops : Array Oper} {Q : Exit → St → Prop} {s : St} {acc : List (List Nat × List Nat)} (h : Q .normal s) : DOps P ops [] s acc (fun _ s' => Q .normal s') := dnil h
end Go.Proofs.Ytkppkgahdoglpaa
