/- The D-machine, part 1: plain data trees (V), symbolic slots (D), own boxes, and what it means that a world holds them. No program in sight. -/
import Derived.Below
import Derived.Orders
import Derived.Control
import Derived.Calls
import Derived.Laws.Sem
import Derived.Laws.World
import Derived.Laws.Strings
import Derived.Laws.Cells
import Derived.Laws.Entries
namespace Go.Proofs.Ytpdoplmnedpdaaa
open Go.RowKit

/-- Plain data, deep. A slice is the list of its elements, each the list of its cells. -/
inductive V where
  | bool (b : Bool)
  | int (k : IntKind) (n : Int)
  | str (s : List UInt8)
  | slice (xs : List (List V))
  | rp (cs : List V)
  | agg (cs : List V)
  | tuple (vs : List V)
  | fn (f : FuncId) (cap : List V)
  | undef

/-- What may lie in one cell. -/
def V.one : V → Bool
  | .agg _ | .tuple _ | .undef => false
  | _ => true

/-- What a slot holds. -/
inductive D where
  | any
  | nil
  | grd (b : Bool) (d : D)
  | dat (n : Bool) (x : V)
  | own (g ver lo len : Nat)
  | ptr (g off : Nat)
  | rptr (g ver i off : Nat)
  | mp (g : Nat)
  | sl (g n : Nat)
  | aggd (cs : List D)

/-- Memory of the call's own. -/
inductive Box where
  | gone
  | cells (frz nw : Bool) (cs : List D)
  | row (ver : Nat) (frz nw : Bool) (sz : Nat) (xs : List (List V))
  | mapb (kt et : TypeId) (es : List (V × V))

def Box.mut : Box → Bool
  | .gone => false
  | .cells frz _ _ => !frz
  | .row _ frz _ _ _ => !frz
  | .mapb _ _ _ => true

def look {α : Type} (d : α) : List (Nat × α) → Nat → α
  | [], _ => d
  | (k, x) :: r, t => bif Nat.beq k t then x else look d r t

theorem look_cons {α : Type} (d : α) (k : Nat) (x : α) (r : List (Nat × α)) (t : Nat) : look d ((k, x) :: r) t = if k = t then x else look d r t := by
  simp only [look]
  by_cases h : k = t
  · have : Nat.beq k t = true := by simpa using h
    simp [h]
  · have : Nat.beq k t = false := by
      cases hb : Nat.beq k t
      · rfl
      · exact absurd (Nat.eq_of_beq_eq_true hb) h
    simp [this, h]
theorem look_same {α : Type} (d : α) (k : Nat) (x : α) (r : List (Nat × α)) : look d ((k, x) :: r) k = x := by simp [look_cons]
theorem look_other {α : Type} (d : α) (k : Nat) (x : α) (r : List (Nat × α)) (t : Nat) (h : k ≠ t) : look d ((k, x) :: r) t = look d r t := by simp [look_cons, h]

abbrev Mem := List (Nat × Box)
abbrev Env := List (Nat × D)
def Mem.at (m : Mem) (g : Nat) : Box := look .gone m g
def Env.at (e : Env) (t : Nat) : D := look .any e t

structure Cf where
  ι : Nat → Option Nat
  S : Nat → Prop
  N : Nat → Prop
  w : World

/-- A value reads as plain data, out of blocks of S alone. -/
inductive Rd (S : Nat → Prop) (w : World) : V → Value → Prop
  | bool (b : Bool) : Rd S w (.bool b) (.bool b)
  | int (k : IntKind) (n : Int) : Rd S w (.int k n) (.int k n)
  | str (s : List UInt8) : Rd S w (.str s) (.string ⟨s.toArray⟩)
  | nil : Rd S w (.slice []) (.slice none 0 0)
  | mt (a : Addr) (cap : Nat) (hm : cap ≤ maxLen) : Rd S w (.slice []) (.slice (some a) 0 cap)
  | slice (xs : List (List V)) (b off cap sz : Nat) (cell : Nat → Nat → Value) (hc : xs.length ≤ cap) (hm : cap ≤ maxLen)
      (hsz : ∀ (i : Nat) (e : List V), xs[i]? = some e → e.length = sz) (h1 : ∀ (i j : Nat) (e : List V) (d : V), xs[i]? = some e → e[j]? = some d → d.one = true) (hS : xs ≠ [] → S b)
      (hw : ∀ (i j : Nat) (e : List V) (d : V), xs[i]? = some e → e[j]? = some d → w.cell? ⟨b, off + i * sz + j, none⟩ = some (cell i j))
      (hr : ∀ (i j : Nat) (e : List V) (d : V), xs[i]? = some e → e[j]? = some d → Rd S w d (cell i j)) : Rd S w (.slice xs) (.slice (some ⟨b, off, none⟩) xs.length cap)
  | rp (cs : List V) (b off : Nat) (cell : Nat → Value) (h1 : ∀ (j : Nat) (d : V), cs[j]? = some d → d.one = true) (hS : S b)
      (hw : ∀ (j : Nat) (d : V), cs[j]? = some d → w.cell? ⟨b, off + j, none⟩ = some (cell j))
      (hr : ∀ (j : Nat) (d : V), cs[j]? = some d → Rd S w d (cell j)) : Rd S w (.rp cs) (.pointer (some ⟨b, off, none⟩))
  | agg (cs : List V) (vs : Array Value) (hl : vs.size = cs.length) (hr : ∀ (j : Nat) d c, cs[j]? = some d → vs[j]? = some c → Rd S w d c) : Rd S w (.agg cs) (.agg vs)
  | tuple (cs : List V) (vs : Array Value) (hl : vs.size = cs.length) (hr : ∀ (j : Nat) d c, cs[j]? = some d → vs[j]? = some c → Rd S w d c) : Rd S w (.tuple cs) (.tuple vs)
  | fn (f : FuncId) (cap : List V) (vs : Array Value) (hl : vs.size = cap.length) (hr : ∀ (j : Nat) d c, cap[j]? = some d → vs[j]? = some c → Rd S w d c) : Rd S w (.fn f cap) (.func (.func f) #[] vs)
  | undef (v : Value) : Rd S w .undef v

theorem cell_of_block {w w' : World} {a : Addr} (h : w'.heap[a.block]? = w.heap[a.block]?) : w'.cell? a = w.cell? a := by
  unfold World.cell?; rw [h]

theorem Rd.mono {S S' : Nat → Prop} {w w' : World} {x : V} {v : Value} (h : Rd S w x v) (hS : ∀ b, S b → S' b) (hw : ∀ b, S b → w'.heap[b]? = w.heap[b]?) : Rd S' w' x v := by
  induction h with
  | bool b => exact .bool b
  | int k n => exact .int k n
  | str s => exact .str s
  | nil => exact .nil
  | mt a cap hm => exact .mt a cap hm
  | slice xs b off cap sz cell hc hm hsz h1' hS' hw' hr ih =>
    refine .slice xs b off cap sz cell hc hm hsz h1' (fun h => hS b (hS' h)) (fun i j e d h1 h2 => ?_) ih
    have hne : xs ≠ [] := by rintro rfl; simp at h1
    rw [cell_of_block (hw b (hS' hne))]
    exact hw' i j e d h1 h2
  | rp cs b off cell h1' hS' hw' hr ih =>
    refine .rp cs b off cell h1' (hS b hS') (fun j d h1 => ?_) ih
    rw [cell_of_block (hw b hS')]
    exact hw' j d h1
  | agg cs vs hl hr ih => exact .agg cs vs hl ih
  | tuple cs vs hl hr ih => exact .tuple cs vs hl ih
  | fn f cap vs hl hr ih => exact .fn f cap vs hl ih
  | undef v => exact .undef v

/-- Data without an address in it. -/
inductive Flat : V → Prop
  | bool (b : Bool) : Flat (.bool b)
  | int (k : IntKind) (n : Int) : Flat (.int k n)
  | str (s : List UInt8) : Flat (.str s)
  | nil : Flat (.slice [])
  | agg (cs : List V) (h : ∀ (j : Nat) d, cs[j]? = some d → Flat d) : Flat (.agg cs)
  | tuple (cs : List V) (h : ∀ (j : Nat) d, cs[j]? = some d → Flat d) : Flat (.tuple cs)
  | undef : Flat .undef

theorem Rd.flat {S S' : Nat → Prop} {w w' : World} {x : V} {v : Value} (h : Rd S w x v) (hf : Flat x) : Rd S' w' x v := by
  induction h with
  | bool b => exact .bool b
  | int k n => exact .int k n
  | str s => exact .str s
  | nil => exact .nil
  | mt a cap hm => exact .mt a cap hm
  | slice xs b off cap sz cell hc hm hsz h1' hS' hw' hr ih =>
    cases hf
    exact .slice [] b off cap sz cell hc hm (by simp) (by simp) (fun h => absurd rfl h) (by simp) (by simp)
  | rp cs b off cell h1' hS' hw' hr ih => cases hf
  | agg cs vs hl hr ih => cases hf with | agg _ hf => exact .agg cs vs hl (fun j d c h1 h2 => ih j d c h1 h2 (hf j d h1))
  | tuple cs vs hl hr ih => cases hf with | tuple _ hf => exact .tuple cs vs hl (fun j d c h1 h2 => ih j d c h1 h2 (hf j d h1))
  | fn f cap vs hl hr ih => cases hf
  | undef v => exact .undef v

def Cf.D (C : Cf) (n : Bool) : Nat → Prop := if n then C.N else C.S
def RdF (C : Cf) (n : Bool) (x : V) (v : Value) : Prop := Rd (C.D n) C.w x v

/-- A slice value that lies at row b (none: nil), its elements sz cells wide. -/
def OwnV (w : World) (sz : Nat) (ob : Option Nat) (lo len : Nat) (v : Value) : Prop :=
  match ob with
  | none => v = .slice none 0 0 ∧ lo = 0 ∧ len = 0
  | some b => ∃ cap arr T fz, v = .slice (some ⟨b, lo * sz, none⟩) len cap ∧ w.heap[b]? = some (.cells arr T fz) ∧ (lo + cap) * sz ≤ arr.size ∧ len ≤ cap ∧ cap ≤ maxLen

/-- What one slot, or one cell, reads as. -/
def RdS (C : Cf) (m : Mem) : D → Value → Prop
  | .any, _ => True
  | .nil, v => v = .slice none 0 0
  | .grd _ _, _ => False
  | .aggd _, _ => False
  | .dat n x, v => RdF C n x v
  | .own g ver lo len, v => ∃ ver' frz nw sz xs, m.at g = .row ver' frz nw sz xs ∧ ver ≤ ver' ∧ (∃ a l c, v = .slice a l c) ∧ (ver = ver' → lo + len ≤ xs.length ∧ OwnV C.w sz (C.ι g) lo len v)
  | .ptr g off, v => ∃ frz nw cs b, m.at g = .cells frz nw cs ∧ C.ι g = some b ∧ v = .pointer (some ⟨b, off, none⟩)
  | .rptr g ver i off, v => ∃ ver' frz nw sz xs, m.at g = .row ver' frz nw sz xs ∧ ver ≤ ver' ∧ (∃ a, v = .pointer a) ∧ (ver = ver' → i < xs.length ∧ ∃ b, C.ι g = some b ∧ v = .pointer (some ⟨b, i * sz + off, none⟩))
  | .mp g, v => ∃ kt et es b, m.at g = .mapb kt et es ∧ C.ι g = some b ∧ v = .map (some b)
  | .sl g n, v => ∃ frz nw cs b cap, m.at g = .cells frz nw cs ∧ C.ι g = some b ∧ v = .slice (some ⟨b, 0, none⟩) n cap ∧ n ≤ cap ∧ cap ≤ maxLen
def RdD (C : Cf) (m : Mem) : D → Value → Prop
  | .grd b d, v => (b = true → RdD C m d v) ∧ (b = false → v = undef)
  | .aggd cs, v => ∃ vs : Array Value, v = .agg vs ∧ vs.size = cs.length ∧ ∀ (j : Nat) d c, cs[j]? = some d → vs[j]? = some c → RdS C m d c
  | .any, v => RdS C m .any v
  | .nil, v => RdS C m .nil v
  | .dat n x, v => RdS C m (.dat n x) v
  | .own g ver lo len, v => RdS C m (.own g ver lo len) v
  | .ptr g off, v => RdS C m (.ptr g off) v
  | .rptr g ver i off, v => RdS C m (.rptr g ver i off) v
  | .mp g, v => RdS C m (.mp g) v
  | .sl g n, v => RdS C m (.sl g n) v
theorem RdS.rd {C : Cf} {m : Mem} {d : D} {v : Value} (h : RdS C m d v) : RdD C m d v := by
  cases d <;> first | exact h | exact h.elim

/-- No cell of the block is one that a string shares; and there is no mark of such behind them, where elements are not of one cell. -/
def Loose (s : Nat) (arr : Array Value) (fz : Nat × Nat) : Prop := (∀ i, i < arr.size → ¬ (fz.1 ≤ i ∧ i < fz.2)) ∧ fz.1 ≤ fz.2 ∧ (s = 1 ∨ fz.1 = fz.2)

def CellsAt (C : Cf) (m : Mem) (b : Nat) (frz nw : Bool) (cs : List D) : Prop :=
  ∃ arr T fz, C.w.heap[b]? = some (.cells arr T fz) ∧ Loose 1 arr fz ∧ arr.size = cs.length ∧ (∀ (j : Nat) d c, cs[j]? = some d → arr[j]? = some c → RdS C m d c) ∧ (frz = true → C.D nw b)
def RowAt (C : Cf) (b : Nat) (frz nw : Bool) (sz : Nat) (xs : List (List V)) : Prop :=
  ∃ arr T fz, C.w.heap[b]? = some (.cells arr T fz) ∧ Loose sz arr fz ∧ xs.length * sz ≤ arr.size ∧ (∀ (i : Nat) (e : List V), xs[i]? = some e → e.length = sz) ∧
    (∀ (i j : Nat) (e : List V) (d : V), xs[i]? = some e → e[j]? = some d → d.one = true) ∧ (∀ (i j : Nat) (e : List V) d c, xs[i]? = some e → e[j]? = some d → arr[i * sz + j]? = some c → RdF C nw d c) ∧ (frz = true → C.N b)
def MapAt (C : Cf) (b : Nat) (es : List (V × V)) : Prop :=
  ∃ (ents : Array MapEntry) (clock : Nat), C.w.heap[b]? = some (.map ents clock) ∧ ents.size = es.length ∧ clock = es.length ∧
    ∀ (i : Nat) p e, es[i]? = some p → ents[i]? = some e → Rd (fun _ => False) C.w p.1 e.key ∧ Rd (fun _ => False) C.w p.2 e.val ∧ e.born = i

def BoxOK (C : Cf) (m : Mem) (ob : Option Nat) : Box → Prop
  | .gone => True
  | .cells frz nw cs => ∃ b, ob = some b ∧ CellsAt C m b frz nw cs
  | .row _ frz nw sz xs => match ob with
    | none => xs = []
    | some b => RowAt C b frz nw sz xs
  | .mapb _ _ es => ∃ b, ob = some b ∧ MapAt C b es

structure HoldsM (C : Cf) (m : Mem) : Prop where
  box : ∀ g, BoxOK C m (C.ι g) (m.at g)
  inj : ∀ g g' b, m.at g ≠ .gone → m.at g' ≠ .gone → C.ι g = some b → C.ι g' = some b → g = g'
  sep : ∀ g b, (m.at g).mut = true → C.ι g = some b → ¬ C.S b
  sdom : ∀ b, C.S b → b < C.w.heap.size
  ns : ∀ b, C.N b → C.S b

/-- From one state of memory to a later one: only the call's own, not frozen, blocks have turned. -/
structure Ext (C : Cf) (m : Mem) (C' : Cf) (m' : Mem) : Prop where
  os : C'.w.os = C.w.os
  tape : C'.w.tape = C.w.tape
  output : C'.w.output = C.w.output
  size : C.w.heap.size ≤ C'.w.heap.size
  keep : ∀ b, b < C.w.heap.size → (∀ g, (m.at g).mut = true → C.ι g ≠ some b) → C'.w.heap[b]? = C.w.heap[b]?
  own : ∀ g b, (m'.at g).mut = true → C'.ι g = some b → C.w.heap.size ≤ b ∨ ∃ g0, (m.at g0).mut = true ∧ C.ι g0 = some b
  sS : ∀ b, C.S b → C'.S b
  sN : ∀ b, C.N b → C'.N b
  supS : ∀ b, C'.S b → C.S b ∨ C'.N b
  supN : ∀ b, C'.N b → C.N b ∨ C.w.heap.size ≤ b ∨ ∃ g0, (m.at g0).mut = true ∧ C.ι g0 = some b

theorem Ext.refl (C : Cf) (m : Mem) : Ext C m C m :=
  ⟨rfl, rfl, rfl, Nat.le_refl _, fun _ _ _ => rfl, fun g _ h1 h2 => .inr ⟨g, h1, h2⟩, fun _ h => h, fun _ h => h, fun _ h => .inl h, fun _ h => .inl h⟩

theorem Ext.trans {C C1 C2 : Cf} {m m1 m2 : Mem} (h : Ext C m C1 m1) (k : Ext C1 m1 C2 m2) : Ext C m C2 m2 where
  os := k.os.trans h.os
  tape := k.tape.trans h.tape
  output := k.output.trans h.output
  size := Nat.le_trans h.size k.size
  keep b hb hn := by
    rw [k.keep b (Nat.lt_of_lt_of_le hb h.size) (fun g hg hi => ?_), h.keep b hb hn]
    rcases h.own g b hg hi with h1 | ⟨g0, h1, h2⟩
    · omega
    · exact hn g0 h1 h2
  own g b hg hi := by
    rcases k.own g b hg hi with h1 | ⟨g0, h1, h2⟩
    · exact .inl (Nat.le_trans h.size h1)
    · exact h.own g0 b h1 h2
  sS b hb := k.sS b (h.sS b hb)
  sN b hb := k.sN b (h.sN b hb)
  supS b hb := by
    rcases k.supS b hb with h1 | h1
    · rcases h.supS b h1 with h2 | h2
      · exact .inl h2
      · exact .inr (k.sN b h2)
    · exact .inr h1
  supN b hb := by
    rcases k.supN b hb with h1 | h1 | ⟨g0, h1, h2⟩
    · exact h.supN b h1
    · exact .inr (.inl (Nat.le_trans h.size h1))
    · rcases h.own g0 b h1 h2 with h3 | h3
      · exact .inr (.inl h3)
      · exact .inr (.inr h3)

theorem RdF.mono {C C' : Cf} {m m' : Mem} {n : Bool} {x : V} {v : Value} (h : RdF C n x v) (hm : HoldsM C m) (he : Ext C m C' m') : RdF C' n x v := by
  have hk : ∀ b, C.S b → C'.w.heap[b]? = C.w.heap[b]? := fun b hb => he.keep b (hm.sdom b hb) (fun g hg hi => hm.sep g b hg hi hb)
  cases n
  · exact Rd.mono h he.sS hk
  · exact Rd.mono h he.sN (fun b hb => hk b (hm.ns b hb))
theorem RdF.weak {C : Cf} {m : Mem} {n : Bool} {x : V} {v : Value} (h : RdF C n x v) (hm : HoldsM C m) : RdF C false x v := by
  cases n
  · exact h
  · exact Rd.mono h hm.ns (fun _ _ => rfl)
theorem RdF.flat {C C' : Cf} {n n' : Bool} {x : V} {v : Value} (h : RdF C n x v) (hf : Flat x) : RdF C' n' x v := Rd.flat h hf

/-- One step of the machine: a later state that holds, in which all slots read on. -/
structure Step (C : Cf) (m : Mem) (C' : Cf) (m' : Mem) : Prop where
  ext : Ext C m C' m'
  holds : HoldsM C' m'
  slot : ∀ d v, RdD C m d v → RdD C' m' d v

theorem Step.refl {C : Cf} {m : Mem} (h : HoldsM C m) : Step C m C m := ⟨.refl C m, h, fun _ _ h => h⟩
theorem Step.trans {C C1 C2 : Cf} {m m1 m2 : Mem} (h : Step C m C1 m1) (k : Step C1 m1 C2 m2) : Step C m C2 m2 :=
  ⟨h.ext.trans k.ext, k.holds, fun d v hd => k.slot d v (h.slot d v hd)⟩

end Go.Proofs.Ytpdoplmnedpdaaa

/- The D-machine, part 2: what one operation does (SStep), and its rules for operations that make no memory. -/
namespace Go.Proofs.Ytpdoplmnedpdaaa
open Go.RowKit

/-- One operation, at operands that read as e says, in a memory that is m at the boxes rd and those of wr: it yields val, and the boxes of wr are then as wr says. -/
def SStep (P : Program) (o : Oper) (e : Operand → D) (m : Mem) (rd : List Nat) (val : D) (wr : Mem) : Prop :=
  ∀ (C : Cf) (m' : Mem) (a : Act) (next : Act → World → Prop) (Q : Exit → Act → World → Prop),
    (∀ g, g ∈ rd ∨ g ∈ wr.map (·.1) → m'.at g = m.at g) → HoldsM C m' → (∀ x, x ∈ o.op.operands → RdD C m' (e x) (a.eval x)) →
    (∀ v C', Step C m' C' (wr ++ m') → RdD C' (wr ++ m') val v → next (a.put o.dst v) C'.w) → o.wp P a C.w next Q

theorem wp_of_value {P : Program} {o : Oper} {a : Act} {w w' : World} {next : Act → World → Prop} {Q : Exit → Act → World → Prop} {v : Value}
    (h : (execOp a.eval o).run P w = .ok (.value v) w') (hn : next (a.put o.dst v) w') : o.wp P a w next Q := by
  unfold Oper.wp; rw [h]; exact hn
theorem wp_of_skip {P : Program} {o : Oper} {a : Act} {w w' : World} {next : Act → World → Prop} {Q : Exit → Act → World → Prop}
    (h : (execOp a.eval o).run P w = .ok .skip w') (hn : next (a.put o.dst undef) w') : o.wp P a w next Q := by
  unfold Oper.wp; rw [h]; exact hn

/-- An operation that leaves the world alone. -/
theorem SStep.pure {P : Program} {o : Oper} {e : Operand → D} {m : Mem} {rd : List Nat} {val : D}
    (h : ∀ (C : Cf) (m' : Mem) (a : Act), (∀ g, g ∈ rd → m'.at g = m.at g) → HoldsM C m' → (∀ x, x ∈ o.op.operands → RdD C m' (e x) (a.eval x)) →
      ∃ v, (execOp a.eval o).run P C.w = .ok (.value v) C.w ∧ RdD C m' val v) : SStep P o e m rd val [] := by
  intro C m' a next Q ha hm hx hn
  obtain ⟨v, hr, hv⟩ := h C m' a (fun g hg => ha g (.inl hg)) hm hx
  exact wp_of_value hr (hn v C (Step.refl hm) hv)

theorem rd_int {C : Cf} {m : Mem} {n : Bool} {k : IntKind} {i : Int} {v : Value} (h : RdD C m (.dat n (.int k i)) v) : v = .int k i := by
  cases h; rfl
theorem rd_bool {C : Cf} {m : Mem} {n : Bool} {b : Bool} {v : Value} (h : RdD C m (.dat n (.bool b)) v) : v = .bool b := by
  cases h; rfl
theorem rd_str {C : Cf} {m : Mem} {n : Bool} {s : List UInt8} {v : Value} (h : RdD C m (.dat n (.str s)) v) : v = .string ⟨s.toArray⟩ := by
  cases h; rfl
theorem mk_int {C : Cf} {m : Mem} {n : Bool} {k : IntKind} {i : Int} : RdD C m (.dat n (.int k i)) (.int k i) := Rd.int k i
theorem mk_bool {C : Cf} {m : Mem} {n : Bool} {b : Bool} : RdD C m (.dat n (.bool b)) (.bool b) := Rd.bool b

/-- Bits of integers, by name. -/
def _root_.Go.IntKind.andI (k : IntKind) (a b : Int) : Int := k.wrap (BitVec.ofInt k.bits a &&& BitVec.ofInt k.bits b).toNat
def _root_.Go.IntKind.orI (k : IntKind) (a b : Int) : Int := k.wrap (BitVec.ofInt k.bits a ||| BitVec.ofInt k.bits b).toNat
def _root_.Go.IntKind.xorI (k : IntKind) (a b : Int) : Int := k.wrap (BitVec.ofInt k.bits a ^^^ BitVec.ofInt k.bits b).toNat
def _root_.Go.IntKind.andNotI (k : IntKind) (a b : Int) : Int := k.wrap (BitVec.ofInt k.bits a &&& ~~~BitVec.ofInt k.bits b).toNat
def _root_.Go.IntKind.shlI (k : IntKind) (a b : Int) : Int := k.wrap (a * 2 ^ (min b.toNat k.bits))
def _root_.Go.IntKind.shrI (k : IntKind) (a b : Int) : Int := a.fdiv (2 ^ (min b.toNat k.bits))

section
variable {P : Program} {e : Operand → D} {m : Mem} {dst : Option Tmp} {ty : TypeId} {pos : String} {af : Array Edge} {gd : Option (Nat × Bool)} {x y z : Operand} {t : TypeId} {yt : TypeId}

theorem S_move : SStep P ⟨dst, .move x, ty, pos, af, gd⟩ e m [] (e x) [] :=
  .pure fun C m' a _ _ hx => ⟨a.eval x, by simp [execOp], hx x (by simp [Op.operands])⟩
theorem S_assign : SStep P ⟨dst, .assign x, ty, pos, af, gd⟩ e m [] (e x) [] :=
  .pure fun C m' a _ _ hx => ⟨a.eval x, by simp [execOp], hx x (by simp [Op.operands])⟩
theorem M_d {n : Bool} {v : V} (h : e x = .dat n v) : SStep P ⟨dst, .move x, ty, pos, af, gd⟩ e m [] (.dat n v) [] := h ▸ S_move
theorem M_p {g o : Nat} (h : e x = .ptr g o) : SStep P ⟨dst, .move x, ty, pos, af, gd⟩ e m [] (.ptr g o) [] := h ▸ S_move
theorem M_o {g v l n : Nat} (h : e x = .own g v l n) : SStep P ⟨dst, .move x, ty, pos, af, gd⟩ e m [] (.own g v l n) [] := h ▸ S_move
theorem M_n (h : e x = .nil) : SStep P ⟨dst, .move x, ty, pos, af, gd⟩ e m [] .nil [] := h ▸ S_move
theorem M_r {g v i o : Nat} (h : e x = .rptr g v i o) : SStep P ⟨dst, .move x, ty, pos, af, gd⟩ e m [] (.rptr g v i o) [] := h ▸ S_move
theorem M_a {cs : List D} (h : e x = .aggd cs) : SStep P ⟨dst, .move x, ty, pos, af, gd⟩ e m [] (.aggd cs) [] := h ▸ S_move
theorem M_m {g : Nat} (h : e x = .mp g) : SStep P ⟨dst, .move x, ty, pos, af, gd⟩ e m [] (.mp g) [] := h ▸ S_move
theorem A_d {n : Bool} {v : V} (h : e x = .dat n v) : SStep P ⟨dst, .assign x, ty, pos, af, gd⟩ e m [] (.dat n v) [] := h ▸ S_assign
theorem A_p {g o : Nat} (h : e x = .ptr g o) : SStep P ⟨dst, .assign x, ty, pos, af, gd⟩ e m [] (.ptr g o) [] := h ▸ S_assign
theorem A_o {g v l n : Nat} (h : e x = .own g v l n) : SStep P ⟨dst, .assign x, ty, pos, af, gd⟩ e m [] (.own g v l n) [] := h ▸ S_assign
theorem A_n (h : e x = .nil) : SStep P ⟨dst, .assign x, ty, pos, af, gd⟩ e m [] .nil [] := h ▸ S_assign
theorem M_s {g n : Nat} (h : e x = .sl g n) : SStep P ⟨dst, .move x, ty, pos, af, gd⟩ e m [] (.sl g n) [] := h ▸ S_move
theorem A_s {g n : Nat} (h : e x = .sl g n) : SStep P ⟨dst, .assign x, ty, pos, af, gd⟩ e m [] (.sl g n) [] := h ▸ S_assign
theorem A_r {g v i o : Nat} (h : e x = .rptr g v i o) : SStep P ⟨dst, .assign x, ty, pos, af, gd⟩ e m [] (.rptr g v i o) [] := h ▸ S_assign
theorem A_a {cs : List D} (h : e x = .aggd cs) : SStep P ⟨dst, .assign x, ty, pos, af, gd⟩ e m [] (.aggd cs) [] := h ▸ S_assign
theorem A_m {g : Nat} (h : e x = .mp g) : SStep P ⟨dst, .assign x, ty, pos, af, gd⟩ e m [] (.mp g) [] := h ▸ S_assign
theorem S_not {n : Bool} {b : Bool} (h : e x = .dat n (.bool b)) : SStep P ⟨dst, .unOp .not t x, ty, pos, af, gd⟩ e m [] (.dat true (.bool (!b))) [] :=
  .pure fun C m' a _ _ hx => by
    have h1 := hx x (by simp [Op.operands]); rw [h] at h1
    exact ⟨.bool (!b), by simp [execOp, rd_bool h1, Op.unary], mk_bool⟩

theorem S_int {op : BinOp} {n1 n2 : Bool} {k : IntKind} {a b : Int} {r : Value} {R : D} (h1 : e x = .dat n1 (.int k a)) (h2 : e y = .dat n2 (.int k b))
    (hr : ∀ w, (binOp op t (.int k a) (.int k b)).run P w = .ok r w) (hR : ∀ C m, RdD C m R r) :
    SStep P ⟨dst, .binOp op t x y yt, ty, pos, af, gd⟩ e m [] R [] :=
  .pure fun C m' ac _ _ hx => by
    have g1 := hx x (by simp [Op.operands]); rw [h1] at g1
    have g2 := hx y (by simp [Op.operands]); rw [h2] at g2
    refine ⟨r, ?_, hR _ _⟩
    simp only [execOp, rd_int g1, rd_int g2]
    cases op <;> simp [eqGuard, hr]
theorem S_add {n1 n2 : Bool} {k : IntKind} {a b : Int} (h1 : e x = .dat n1 (.int k a)) (h2 : e y = .dat n2 (.int k b)) :
    SStep P ⟨dst, .binOp .add t x y yt, ty, pos, af, gd⟩ e m [] (.dat true (.int k (k.wrap (a + b)))) [] := S_int h1 h2 (fun w => by simp [binOp, Op.intArith]) (fun _ _ => mk_int)
theorem S_sub {n1 n2 : Bool} {k : IntKind} {a b : Int} (h1 : e x = .dat n1 (.int k a)) (h2 : e y = .dat n2 (.int k b)) :
    SStep P ⟨dst, .binOp .sub t x y yt, ty, pos, af, gd⟩ e m [] (.dat true (.int k (k.wrap (a - b)))) [] := S_int h1 h2 (fun w => by simp [binOp, Op.intArith]) (fun _ _ => mk_int)
theorem S_mul {n1 n2 : Bool} {k : IntKind} {a b : Int} (h1 : e x = .dat n1 (.int k a)) (h2 : e y = .dat n2 (.int k b)) :
    SStep P ⟨dst, .binOp .mul t x y yt, ty, pos, af, gd⟩ e m [] (.dat true (.int k (k.wrap (a * b)))) [] := S_int h1 h2 (fun w => by simp [binOp, Op.intArith]) (fun _ _ => mk_int)
theorem S_quo {n1 n2 : Bool} {k : IntKind} {a b : Int} (h1 : e x = .dat n1 (.int k a)) (h2 : e y = .dat n2 (.int k b)) (hb : b ≠ 0) :
    SStep P ⟨dst, .binOp .quo t x y yt, ty, pos, af, gd⟩ e m [] (.dat true (.int k (k.wrap (a.tdiv b)))) [] := S_int h1 h2 (fun w => by simp [binOp, Op.intDiv, hb]) (fun _ _ => mk_int)
theorem S_rem {n1 n2 : Bool} {k : IntKind} {a b : Int} (h1 : e x = .dat n1 (.int k a)) (h2 : e y = .dat n2 (.int k b)) (hb : b ≠ 0) :
    SStep P ⟨dst, .binOp .rem t x y yt, ty, pos, af, gd⟩ e m [] (.dat true (.int k (a.tmod b))) [] := S_int h1 h2 (fun w => by simp [binOp, Op.intDiv, hb]) (fun _ _ => mk_int)
theorem S_and {n1 n2 : Bool} {k : IntKind} {a b : Int} (h1 : e x = .dat n1 (.int k a)) (h2 : e y = .dat n2 (.int k b)) :
    SStep P ⟨dst, .binOp .and t x y yt, ty, pos, af, gd⟩ e m [] (.dat true (.int k (k.andI a b))) [] := S_int h1 h2 (fun w => by simp [binOp, Op.intBits, IntKind.andI]) (fun _ _ => mk_int)
theorem S_or {n1 n2 : Bool} {k : IntKind} {a b : Int} (h1 : e x = .dat n1 (.int k a)) (h2 : e y = .dat n2 (.int k b)) :
    SStep P ⟨dst, .binOp .or t x y yt, ty, pos, af, gd⟩ e m [] (.dat true (.int k (k.orI a b))) [] := S_int h1 h2 (fun w => by simp [binOp, Op.intBits, IntKind.orI]) (fun _ _ => mk_int)
theorem S_xor {n1 n2 : Bool} {k : IntKind} {a b : Int} (h1 : e x = .dat n1 (.int k a)) (h2 : e y = .dat n2 (.int k b)) :
    SStep P ⟨dst, .binOp .xor t x y yt, ty, pos, af, gd⟩ e m [] (.dat true (.int k (k.xorI a b))) [] := S_int h1 h2 (fun w => by simp [binOp, Op.intBits, IntKind.xorI]) (fun _ _ => mk_int)
theorem S_andNot {n1 n2 : Bool} {k : IntKind} {a b : Int} (h1 : e x = .dat n1 (.int k a)) (h2 : e y = .dat n2 (.int k b)) :
    SStep P ⟨dst, .binOp .andNot t x y yt, ty, pos, af, gd⟩ e m [] (.dat true (.int k (k.andNotI a b))) [] := S_int h1 h2 (fun w => by simp [binOp, Op.intBits, IntKind.andNotI]) (fun _ _ => mk_int)
theorem S_eql {n1 n2 : Bool} {k : IntKind} {a b : Int} (h1 : e x = .dat n1 (.int k a)) (h2 : e y = .dat n2 (.int k b)) :
    SStep P ⟨dst, .binOp .eql t x y yt, ty, pos, af, gd⟩ e m [] (.dat true (.bool (decide (a = b)))) [] := S_int h1 h2 (fun w => by simp [binOp, Op.intCmp]; rfl) (fun _ _ => mk_bool)
theorem S_neq {n1 n2 : Bool} {k : IntKind} {a b : Int} (h1 : e x = .dat n1 (.int k a)) (h2 : e y = .dat n2 (.int k b)) :
    SStep P ⟨dst, .binOp .neq t x y yt, ty, pos, af, gd⟩ e m [] (.dat true (.bool (decide (a ≠ b)))) [] := S_int h1 h2 (fun w => by simp [binOp, Op.intCmp]; rfl) (fun _ _ => mk_bool)
theorem S_lss {n1 n2 : Bool} {k : IntKind} {a b : Int} (h1 : e x = .dat n1 (.int k a)) (h2 : e y = .dat n2 (.int k b)) :
    SStep P ⟨dst, .binOp .lss t x y yt, ty, pos, af, gd⟩ e m [] (.dat true (.bool (decide (a < b)))) [] := S_int h1 h2 (fun w => by simp [binOp, Op.intCmp]) (fun _ _ => mk_bool)
theorem S_leq {n1 n2 : Bool} {k : IntKind} {a b : Int} (h1 : e x = .dat n1 (.int k a)) (h2 : e y = .dat n2 (.int k b)) :
    SStep P ⟨dst, .binOp .leq t x y yt, ty, pos, af, gd⟩ e m [] (.dat true (.bool (decide (a ≤ b)))) [] := S_int h1 h2 (fun w => by simp [binOp, Op.intCmp]) (fun _ _ => mk_bool)
theorem S_gtr {n1 n2 : Bool} {k : IntKind} {a b : Int} (h1 : e x = .dat n1 (.int k a)) (h2 : e y = .dat n2 (.int k b)) :
    SStep P ⟨dst, .binOp .gtr t x y yt, ty, pos, af, gd⟩ e m [] (.dat true (.bool (decide (b < a)))) [] := S_int h1 h2 (fun w => by simp [binOp, Op.intCmp]) (fun _ _ => mk_bool)
theorem S_geq {n1 n2 : Bool} {k : IntKind} {a b : Int} (h1 : e x = .dat n1 (.int k a)) (h2 : e y = .dat n2 (.int k b)) :
    SStep P ⟨dst, .binOp .geq t x y yt, ty, pos, af, gd⟩ e m [] (.dat true (.bool (decide (b ≤ a)))) [] := S_int h1 h2 (fun w => by simp [binOp, Op.intCmp]) (fun _ _ => mk_bool)
theorem S_sh {op : BinOp} {n1 n2 : Bool} {k k' : IntKind} {a b : Int} {r : Value} {R : D} (h1 : e x = .dat n1 (.int k a)) (h2 : e y = .dat n2 (.int k' b))
    (hr : ∀ w, (binOp op t (.int k a) (.int k' b)).run P w = .ok r w) (hR : ∀ C m, RdD C m R r) :
    SStep P ⟨dst, .binOp op t x y yt, ty, pos, af, gd⟩ e m [] R [] :=
  .pure fun C m' ac _ _ hx => by
    have g1 := hx x (by simp [Op.operands]); rw [h1] at g1
    have g2 := hx y (by simp [Op.operands]); rw [h2] at g2
    refine ⟨r, ?_, hR _ _⟩
    simp only [execOp, rd_int g1, rd_int g2]
    cases op <;> simp [eqGuard, hr]
theorem S_shl {n1 n2 : Bool} {k k' : IntKind} {a b : Int} (h1 : e x = .dat n1 (.int k a)) (h2 : e y = .dat n2 (.int k' b)) (hb : 0 ≤ b) :
    SStep P ⟨dst, .binOp .shl t x y yt, ty, pos, af, gd⟩ e m [] (.dat true (.int k (k.shlI a b))) [] :=
  S_sh h1 h2 (fun w => by simp [binOp, Op.shift, Int.not_lt.2 hb, IntKind.shlI, IntKind.shrI]) (fun _ _ => mk_int)
theorem S_shr {n1 n2 : Bool} {k k' : IntKind} {a b : Int} (h1 : e x = .dat n1 (.int k a)) (h2 : e y = .dat n2 (.int k' b)) (hb : 0 ≤ b) :
    SStep P ⟨dst, .binOp .shr t x y yt, ty, pos, af, gd⟩ e m [] (.dat true (.int k (k.shrI a b))) [] :=
  S_sh h1 h2 (fun w => by simp [binOp, Op.shift, Int.not_lt.2 hb, IntKind.shlI, IntKind.shrI]) (fun _ _ => mk_int)

theorem equal_bool (w : World) {a b : Bool} (ht : P.underlying t = some .bool) : (Op.equal t (.bool a) (.bool b)).run P w = .ok (a == b) w := by
  have h : ∀ d : Nat, (Op.equalIn (d + 1) t (.bool a) (.bool b)).run P w = .ok (a == b) w := fun d => by
    simp [Op.equalIn, underlying, program, Sem.run, ht]
  exact h 9999
theorem binOp_eql_bool {a b : Bool} : binOp .eql t (.bool a) (.bool b) = (do pure (.bool (← Op.equal t (.bool a) (.bool b)))) := by rfl
theorem binOp_neq_bool {a b : Bool} : binOp .neq t (.bool a) (.bool b) = (do pure (.bool (!(← Op.equal t (.bool a) (.bool b))))) := by rfl
theorem S_eqlb {n1 n2 : Bool} {a b : Bool} (ht : P.underlying t = some .bool) (h1 : e x = .dat n1 (.bool a)) (h2 : e y = .dat n2 (.bool b)) :
    SStep P ⟨dst, .binOp .eql t x y yt, ty, pos, af, gd⟩ e m [] (.dat true (.bool (a == b))) [] :=
  .pure fun C m' ac _ _ hx => by
    have g1 := hx x (by simp [Op.operands]); rw [h1] at g1
    have g2 := hx y (by simp [Op.operands]); rw [h2] at g2
    refine ⟨.bool (a == b), ?_, mk_bool⟩
    simp only [execOp, rd_bool g1, rd_bool g2, eqGuard, binOp_eql_bool]
    simp [equal_bool, ht]
theorem S_neqb {n1 n2 : Bool} {a b : Bool} (ht : P.underlying t = some .bool) (h1 : e x = .dat n1 (.bool a)) (h2 : e y = .dat n2 (.bool b)) :
    SStep P ⟨dst, .binOp .neq t x y yt, ty, pos, af, gd⟩ e m [] (.dat true (.bool (a != b))) [] :=
  .pure fun C m' ac _ _ hx => by
    have g1 := hx x (by simp [Op.operands]); rw [h1] at g1
    have g2 := hx y (by simp [Op.operands]); rw [h2] at g2
    refine ⟨.bool (a != b), ?_, mk_bool⟩
    simp only [execOp, rd_bool g1, rd_bool g2, eqGuard, binOp_neq_bool]
    simp [equal_bool, ht, bne]
theorem S_eqls {n1 n2 : Bool} {a b : List UInt8} (h1 : e x = .dat n1 (.str a)) (h2 : e y = .dat n2 (.str b)) :
    SStep P ⟨dst, .binOp .eql t x y yt, ty, pos, af, gd⟩ e m [] (.dat true (.bool (decide (a = b)))) [] :=
  .pure fun C m' ac _ _ hx => by
    have g1 := hx x (by simp [Op.operands]); rw [h1] at g1
    have g2 := hx y (by simp [Op.operands]); rw [h2] at g2
    refine ⟨.bool (decide (a = b)), ?_, mk_bool⟩
    simp [execOp, rd_str g1, rd_str g2, eqGuard, binOp, Op.stringOp, ByteArray.toList_mk]
    by_cases hab : a = b <;> simp [hab]
theorem S_neqs {n1 n2 : Bool} {a b : List UInt8} (h1 : e x = .dat n1 (.str a)) (h2 : e y = .dat n2 (.str b)) :
    SStep P ⟨dst, .binOp .neq t x y yt, ty, pos, af, gd⟩ e m [] (.dat true (.bool (decide (a ≠ b)))) [] :=
  .pure fun C m' ac _ _ hx => by
    have g1 := hx x (by simp [Op.operands]); rw [h1] at g1
    have g2 := hx y (by simp [Op.operands]); rw [h2] at g2
    refine ⟨.bool (decide (a ≠ b)), ?_, mk_bool⟩
    simp [execOp, rd_str g1, rd_str g2, eqGuard, binOp, Op.stringOp, ByteArray.toList_mk]
    by_cases hab : a = b <;> simp [hab]

theorem S_toInt {n : Bool} {k k' : IntKind} {s : TypeId} {sd : TypeDesc} {a : Int} (hs : P.underlying s = some sd) (ht : P.underlying t = some (.int k')) (h : e x = .dat n (.int k a)) :
    SStep P ⟨dst, .convert s t x, ty, pos, af, gd⟩ e m [] (.dat true (.int k' (k'.wrap a))) [] :=
  .pure fun C m' ac _ _ hx => by
    have g1 := hx x (by simp [Op.operands]); rw [h] at g1
    refine ⟨.int k' (k'.wrap a), ?_, mk_int⟩
    simp [execOp, rd_int g1, convert, underlying, program, Sem.run, hs, ht, Conv.intToInt]

theorem S_nilCheck_rp {n : Bool} {cs : List V} (h : e x = .dat n (.rp cs)) : SStep P ⟨dst, .nilCheck x, ty, pos, af, gd⟩ e m [] (.dat n (.rp cs)) [] :=
  .pure fun C m' ac _ _ hx => by
    have g1 := hx x (by simp [Op.operands]); rw [h] at g1
    refine ⟨ac.eval x, ?_, g1⟩
    generalize hv : ac.eval x = v at g1
    cases g1
    simp [execOp, hv]
theorem S_nilCheck_fn {n : Bool} {f : FuncId} {cs : List V} (h : e x = .dat n (.fn f cs)) : SStep P ⟨dst, .nilCheck x, ty, pos, af, gd⟩ e m [] (.dat n (.fn f cs)) [] :=
  .pure fun C m' ac _ _ hx => by
    have g1 := hx x (by simp [Op.operands]); rw [h] at g1
    refine ⟨ac.eval x, ?_, g1⟩
    generalize hv : ac.eval x = v at g1
    cases g1
    simp [execOp, hv]
theorem S_nilCheck_ptr {g off : Nat} (h : e x = .ptr g off) : SStep P ⟨dst, .nilCheck x, ty, pos, af, gd⟩ e m [] (.ptr g off) [] :=
  .pure fun C m' ac _ _ hx => by
    have g1 := hx x (by simp [Op.operands]); rw [h] at g1
    refine ⟨ac.eval x, ?_, g1⟩
    obtain ⟨_, _, _, b, _, _, hv⟩ := g1
    simp [execOp, hv]

theorem S_extract {n : Bool} {cs : List V} {i : Nat} {d : V} (h : e x = .dat n (.tuple cs)) (hi : cs[i]? = some d) :
    SStep P ⟨dst, .extract x i, ty, pos, af, gd⟩ e m [] (.dat n d) [] :=
  .pure fun C m' ac _ _ hx => by
    have g1 := hx x (by simp [Op.operands]); rw [h] at g1
    generalize hv : ac.eval x = v at g1
    cases g1 with
    | tuple _ vs hl hr =>
      have hlt : i < vs.size := by
        have := (List.getElem?_eq_some_iff.1 hi).1
        omega
      have hg : vs[i]? = some vs[i] := Array.getElem?_eq_getElem hlt
      exact ⟨vs[i], by simp [execOp, hv, Instr.extract, hg], hr i d _ hi hg⟩

end
end Go.Proofs.Ytpdoplmnedpdaaa

/- The D-machine, part 3: facts on types as classes; own memory seen as data; operations that read. -/
namespace Go.Proofs.Ytpdoplmnedpdaaa
open Go.RowKit

def aggDesc : TypeDesc → Bool
  | .struct _ | .array _ _ => true
  | _ => false
/-- The value of a constant datum. -/
def V.val : V → Value
  | .bool b => .bool b
  | .int k n => .int k n
  | .str s => .string ⟨s.toArray⟩
  | .slice _ => .slice none 0 0
  | _ => .tuple #[]
def V.isC : V → Bool
  | .bool _ | .int _ _ | .str _ => true
  | .slice xs => xs.isEmpty
  | _ => false
def zval (agg : Bool) (z : List V) : Value := if agg then .agg (z.map V.val).toArray else (z.headD .undef).val

class TyI (P : Program) (t : TypeId) (agg : outParam Bool) (s : outParam Nat) (by_ : outParam Nat) (z : outParam (List V)) : Prop where
  desc : ∃ sd, P.underlying t = some sd ∧ aggDesc sd = agg
  info : ∃ i, P.info? t = some i ∧ i.size = s ∧ i.bytes = by_ ∧ i.zero = some (zval agg z)
  zc : z.all V.isC = true
  zl : z.length = s
  z1 : agg = false → s = 1
class FldI (P : Program) (t : TypeId) (i : Nat) (off : outParam Nat) (ft : outParam TypeId) : Prop where
  out : ∃ fs f, P.underlying t = some (.struct fs) ∧ fs[i]? = some f ∧ f.offset = off ∧ f.type = ft
class SlcI (P : Program) (t : TypeId) (el : outParam TypeId) : Prop where
  out : P.underlying t = some (.slice el)
class ArrI (P : Program) (t : TypeId) (n : outParam Nat) (el : outParam TypeId) : Prop where
  out : P.underlying t = some (.array n el)
class StrI (P : Program) (t : TypeId) : Prop where
  out : P.underlying t = some .string
class BoolI (P : Program) (t : TypeId) : Prop where
  out : P.underlying t = some .bool
class IntI (P : Program) (t : TypeId) (k : outParam IntKind) : Prop where
  out : P.underlying t = some (.int k)
class MapI (P : Program) (t : TypeId) (k e : outParam TypeId) : Prop where
  out : P.underlying t = some (.map k e)

theorem aadd (b off n : Nat) : (⟨b, off, none⟩ : Addr).add n = ⟨b, off + n, none⟩ := by
  unfold Addr.add; split
  · simp_all
  · rfl

section
variable {P : Program}
theorem run_under {t : TypeId} {d : TypeDesc} (h : P.underlying t = some d) (w : World) : (underlying t).run P w = .ok d w := by
  simp [underlying, program, Sem.run, h]
theorem run_size {t : TypeId} {agg : Bool} {s by_ : Nat} {z : List V} (h : TyI P t agg s by_ z) (w : World) : (sizeOf t).run P w = .ok s w := by
  obtain ⟨i, hi, hs, _⟩ := h.info
  simp [sizeOf, typeInfo, program, Sem.run, hi, hs]
theorem run_isAgg {t : TypeId} {agg : Bool} {s by_ : Nat} {z : List V} (h : TyI P t agg s by_ z) (w : World) : (isAgg t).run P w = .ok agg w := by
  obtain ⟨sd, hd, ha⟩ := h.desc
  subst ha
  simp only [isAgg, Sem.run_bind, run_under hd, Result.andThen_ok]
  cases sd <;> rfl
theorem run_loadVar_agg {t : TypeId} {s by_ : Nat} {z : List V} (h : TyI P t true s by_ z) (w : World) (a : Addr) (f : Nat → Value) (hc : ∀ j, j < s → w.cell? (a.add j) = some (f j)) :
    (loadVar t a).run P w = .ok (.agg ((List.range s).map f).toArray) w := by
  simp only [loadVar, Sem.run_bind, run_isAgg h, Result.andThen_ok, if_true, run_size h, run_loadCells w a s f hc, Sem.run_pure]
theorem run_loadVar_one {t : TypeId} {s by_ : Nat} {z : List V} (h : TyI P t false s by_ z) (w : World) (a : Addr) (v : Value) (hc : w.cell? a = some v) :
    (loadVar t a).run P w = .ok v w := by
  simp only [loadVar, Sem.run_bind, run_isAgg h, Result.andThen_ok, Bool.false_eq_true, if_false, run_load, hc]
end

/-- Own memory as data: where it is frozen. -/
def asV0 (m : Mem) : D → Option (Bool × V)
  | .dat n x => some (n, x)
  | .nil => some (true, .slice [])
  | .own g ver lo len => match m.at g with
    | .row ver' true nw _ xs => bif Nat.beq ver ver' then some (nw, .slice ((xs.drop lo).take len)) else none
    | _ => none
  | _ => none
def refs0 : D → List Nat
  | .own g _ _ _ => [g]
  | .ptr g _ => [g]
  | .rptr g _ _ _ => [g]
  | .sl g _ => [g]
  | _ => []
/-- Data of one word, without an address. -/
def V.isI : V → Bool
  | .bool _ | .int _ _ | .str _ => true
  | _ => false
/-- All cells as data. -/
def asVs (m : Mem) : List D → Option (Bool × List V)
  | [] => some (true, [])
  | d :: r => match asV0 m d, asVs m r with
    | some (n, x), some (n', xs) => some ((n || x.isI) && n', x :: xs)
    | _, _ => none
def asV (m : Mem) : D → Option (Bool × V)
  | .ptr g off => match m.at g with
    | .cells true nw cs => match asVs m (cs.drop off) with
      | some (n, xs) => bif xs.all V.one then some (nw && n, .rp xs) else none
      | none => none
    | _ => none
  | .aggd cs => match asVs m cs with
    | some (n, xs) => some (n, .agg xs)
    | none => none
  | d => asV0 m d
def refs (m : Mem) : D → List Nat
  | .ptr g off => g :: (match m.at g with
    | .cells _ _ cs => (cs.drop off).flatMap refs0
    | _ => [])
  | .aggd cs => cs.flatMap refs0
  | d => refs0 d

theorem cell_of_arr {w : World} {b : Nat} {arr : Array Value} {T : TypeId} {fz : Nat × Nat} (h : w.heap[b]? = some (.cells arr T fz)) (i : Nat) : w.cell? ⟨b, i, none⟩ = arr[i]? := by
  simp [World.cell?, h]

theorem RdF.and {C : Cf} {m : Mem} (hm : HoldsM C m) {n n' : Bool} {x : V} {v : Value} (h : RdF C n x v) : RdF C (n && n') x v := by
  cases n' <;> cases n <;> first | exact h | exact h.weak hm
theorem RdF.and' {C : Cf} {m : Mem} (hm : HoldsM C m) {n n' : Bool} {x : V} {v : Value} (h : RdF C n' x v) : RdF C (n && n') x v := by
  cases n' <;> cases n <;> first | exact h | exact h.weak hm

theorem idx_lt {i j n sz : Nat} (hi : i < n) (hj : j < sz) : i * sz + j < n * sz := by
  have h1 : (i + 1) * sz ≤ n * sz := Nat.mul_le_mul_right _ hi
  rw [Nat.add_mul, Nat.one_mul] at h1
  omega

/-- A row read as a slice from lo on. -/
theorem row_slice {C : Cf} {b lo len cap sz : Nat} {nw : Bool} {xs : List (List V)} {S : Nat → Prop} (hS : S b) (hD : ∀ b, C.D nw b → S b)
    (h : ∃ arr T fz, C.w.heap[b]? = some (.cells arr T fz) ∧ Loose sz arr fz ∧ xs.length * sz ≤ arr.size ∧ (∀ (i : Nat) (e : List V), xs[i]? = some e → e.length = sz) ∧
      (∀ (i j : Nat) (e : List V) (d : V), xs[i]? = some e → e[j]? = some d → d.one = true) ∧ (∀ (i j : Nat) (e : List V) d c, xs[i]? = some e → e[j]? = some d → arr[i * sz + j]? = some c → RdF C nw d c))
    (hl : lo + len ≤ xs.length) (hc : len ≤ cap) (hm : cap ≤ maxLen) :
    Rd S C.w (.slice ((xs.drop lo).take len)) (.slice (some ⟨b, lo * sz, none⟩) len cap) := by
  obtain ⟨arr, T, fz, hb, _, hsz, hel, h1, hr⟩ := h
  have hlen : ((xs.drop lo).take len).length = len := by simp; omega
  have get : ∀ (i : Nat) (e : List V), ((xs.drop lo).take len)[i]? = some e → i < len ∧ xs[lo + i]? = some e := by
    intro i e h
    have hi : i < len := by
      have := (List.getElem?_eq_some_iff.1 h).1
      omega
    rw [List.getElem?_take, if_pos hi, List.getElem?_drop] at h
    exact ⟨hi, h⟩
  have hcell : ∀ (i j : Nat) (e : List V) (d : V), ((xs.drop lo).take len)[i]? = some e → e[j]? = some d →
      C.w.cell? ⟨b, lo * sz + i * sz + j, none⟩ = some (arr.getD ((lo + i) * sz + j) undef) ∧ arr[(lo + i) * sz + j]? = some (arr.getD ((lo + i) * sz + j) undef) := by
    intro i j e d h2 h3
    obtain ⟨hi, hx⟩ := get i e h2
    have hj : j < sz := by
      have := (List.getElem?_eq_some_iff.1 h3).1
      have := hel _ _ hx
      omega
    have hlt : (lo + i) * sz + j < arr.size := Nat.lt_of_lt_of_le (idx_lt (by omega) hj) hsz
    have hg : arr[(lo + i) * sz + j]? = some (arr.getD ((lo + i) * sz + j) undef) := by
      simp [Array.getElem?_eq_getElem hlt]
    refine ⟨?_, hg⟩
    rw [cell_of_arr hb, show lo * sz + i * sz + j = (lo + i) * sz + j by rw [Nat.add_mul]]
    exact hg
  have := Rd.slice (S := S) (w := C.w) ((xs.drop lo).take len) b (lo * sz) cap sz (fun i j => arr.getD ((lo + i) * sz + j) undef) (by omega) hm
    (fun i e h => hel _ _ (get i e h).2) (fun i j e d h2 h3 => h1 _ _ _ _ (get i e h2).2 h3) (fun _ => hS)
    (fun i j e d h2 h3 => (hcell i j e d h2 h3).1)
    (fun i j e d h2 h3 => Rd.mono (hr _ _ _ _ _ (get i e h2).2 h3 (hcell i j e d h2 h3).2) hD (fun _ _ => rfl))
  rwa [hlen] at this

theorem asV0_ok {C : Cf} {m m' : Mem} {d : D} {v : Value} {n : Bool} {x : V} (hm : HoldsM C m') (ha : ∀ g, g ∈ refs0 d → m'.at g = m.at g) (h : asV0 m d = some (n, x)) (hd : RdD C m' d v) : RdF C n x v := by
  cases d with
  | dat n' x' =>
    simp only [asV0, Option.some.injEq, Prod.mk.injEq] at h
    obtain ⟨rfl, rfl⟩ := h
    exact hd
  | nil =>
    simp only [asV0, Option.some.injEq, Prod.mk.injEq] at h
    obtain ⟨rfl, rfl⟩ := h
    have : v = .slice none 0 0 := hd
    subst this
    exact Rd.nil
  | own g ver lo len =>
    have hg := ha g (by simp [refs0])
    simp only [asV0] at h
    obtain ⟨ver', frz, nw, sz, xs, hat, hle, _, hown⟩ := hd
    rw [hg] at hat
    rw [hat] at h
    cases frz with
    | false => simp at h
    | true =>
      by_cases hv : ver = ver'
      · subst hv
        simp only [Nat.beq_refl, cond_true, Option.some.injEq, Prod.mk.injEq] at h
        obtain ⟨rfl, rfl⟩ := h
        obtain ⟨hl, ho⟩ := hown rfl
        have hb := hm.box g
        rw [hg, hat] at hb
        unfold OwnV at ho
        cases hi : C.ι g with
        | none =>
          simp only [hi] at ho
          simp only [BoxOK, hi] at hb
          obtain ⟨rfl, rfl, rfl⟩ := ho
          subst hb
          exact Rd.nil
        | some b =>
          simp only [hi] at ho
          simp only [BoxOK, hi] at hb
          obtain ⟨cap, arr, T, fz, rfl, _, _, hc, hmx⟩ := ho
          obtain ⟨arr', T', fz', h1, h2, h3, h4, h5, h6, h7⟩ := hb
          refine row_slice (nw := nw) ?_ (fun b hb => hb) ⟨arr', T', fz', h1, h2, h3, h4, h5, h6⟩ hl hc hmx
          cases nw
          · exact hm.ns _ (h7 rfl)
          · exact h7 rfl
      · have : Nat.beq ver ver' = false := by
          cases hb : Nat.beq ver ver'
          · rfl
          · exact absurd (Nat.eq_of_beq_eq_true hb) hv
        simp [this] at h
  | _ => simp [asV0] at h

theorem RdF.word {C : Cf} {n : Bool} {x : V} {v : Value} (h : RdF C n x v) : RdF C (n || x.isI) x v := by
  cases x with
  | bool b => exact RdF.flat h (.bool b)
  | int k i => exact RdF.flat h (.int k i)
  | str s => exact RdF.flat h (.str s)
  | _ => cases n <;> exact h
theorem asVs_ok {C : Cf} {m m' : Mem} (hm : HoldsM C m') : ∀ (ds : List D) (n : Bool) (xs : List V), (∀ g, g ∈ ds.flatMap refs0 → m'.at g = m.at g) → asVs m ds = some (n, xs) →
    xs.length = ds.length ∧ ∀ (j : Nat) (d : D) (x : V) (v : Value), ds[j]? = some d → xs[j]? = some x → RdS C m' d v → RdF C n x v
  | [], n, xs, _, h => by
    simp only [asVs, Option.some.injEq, Prod.mk.injEq] at h
    obtain ⟨rfl, rfl⟩ := h
    simp
  | d :: r, n, xs, ha, h => by
    simp only [asVs] at h
    cases h0 : asV0 m d with
    | none => simp [h0] at h
    | some p =>
      obtain ⟨n0, x0⟩ := p
      cases h1 : asVs m r with
      | none => simp [h0, h1] at h
      | some q =>
        obtain ⟨n1, x1⟩ := q
        simp only [h0, h1, Option.some.injEq, Prod.mk.injEq] at h
        obtain ⟨rfl, rfl⟩ := h
        obtain ⟨hl, ih⟩ := asVs_ok hm r n1 x1 (fun g hg => ha g (by simp [hg])) h1
        refine ⟨by simp [hl], fun j d' x v hd hx hr => ?_⟩
        cases j with
        | zero =>
          simp only [List.getElem?_cons_zero, Option.some.injEq] at hd hx
          subst hd; subst hx
          exact (asV0_ok hm (fun g hg => ha g (by simp [hg])) h0 hr.rd).word.and hm
        | succ j =>
          simp only [List.getElem?_cons_succ] at hd hx
          exact (ih j d' x v hd hx hr).and' hm

theorem asV_ok {C : Cf} {m m' : Mem} {d : D} {v : Value} {n : Bool} {x : V} (hm : HoldsM C m') (ha : ∀ g, g ∈ refs m d → m'.at g = m.at g) (h : asV m d = some (n, x)) (hd : RdD C m' d v) : RdF C n x v := by
  cases d with
  | ptr g off =>
    have hg := ha g (by simp [refs])
    simp only [asV] at h
    obtain ⟨frz, nw, cs, b, hat, hi, rfl⟩ := hd
    rw [hg] at hat
    rw [hat] at h
    cases frz with
    | false => simp at h
    | true =>
      cases hv : asVs m (cs.drop off) with
      | none => simp [hv] at h
      | some q =>
        obtain ⟨n1, xs⟩ := q
        simp only [hv] at h
        cases hone : xs.all V.one with
        | false => simp [hone] at h
        | true =>
          simp only [hone, cond_true, Option.some.injEq, Prod.mk.injEq] at h
          obtain ⟨rfl, rfl⟩ := h
          have hb := hm.box g
          rw [hg, hat] at hb
          obtain ⟨b', hi', arr, T, fz, h1, h2, h3, h4, h5⟩ := hb
          rw [hi] at hi'
          injection hi' with hi'
          subst hi'
          obtain ⟨hl, hall⟩ := asVs_ok hm (cs.drop off) n1 xs (fun g' hg' => ha g' (by simp only [refs, hat]; exact List.mem_cons_of_mem _ hg')) hv
          have hcell : ∀ (j : Nat) (x : V), xs[j]? = some x → ∃ d, (cs.drop off)[j]? = some d ∧ arr[off + j]? = some (arr.getD (off + j) undef) ∧ cs[off + j]? = some d := by
            intro j x hx
            have hj : j < xs.length := (List.getElem?_eq_some_iff.1 hx).1
            have hj2 : j < (cs.drop off).length := by omega
            refine ⟨(cs.drop off)[j], List.getElem?_eq_getElem hj2, ?_, ?_⟩
            · have : off + j < arr.size := by simp at hj2; omega
              simp [Array.getElem?_eq_getElem this]
            · rw [← List.getElem?_drop]; exact List.getElem?_eq_getElem hj2
          refine Rd.rp xs b off (fun j => arr.getD (off + j) undef) (fun j d hd => ?_) ?_ (fun j x hx => ?_) (fun j x hx => ?_)
          · rw [List.all_eq_true] at hone
            exact hone d (List.mem_of_getElem? hd)
          · have := h5 rfl
            cases nw <;> cases n1 <;> first | exact this | exact hm.ns _ this
          · obtain ⟨d, hd, ha', _⟩ := hcell j x hx
            rw [cell_of_arr h1]; exact ha'
          · obtain ⟨d, hd, ha', hd'⟩ := hcell j x hx
            exact (hall j d x _ hd hx (h4 _ _ _ hd' ha')).and' hm
  | aggd cs =>
    obtain ⟨vs, rfl, hl, hv⟩ := hd
    simp only [asV] at h
    cases hc : asVs m cs with
    | none => simp [hc] at h
    | some q =>
      obtain ⟨n1, xs⟩ := q
      simp only [hc, Option.some.injEq, Prod.mk.injEq] at h
      obtain ⟨rfl, rfl⟩ := h
      obtain ⟨hl', hall⟩ := asVs_ok hm cs n1 xs (fun g' hg' => ha g' (by simpa [refs] using hg')) hc
      refine Rd.agg xs vs (by omega) (fun j d c hd hcv => ?_)
      have hj : j < cs.length := by have := (List.getElem?_eq_some_iff.1 hd).1; omega
      have hcs : cs[j]? = some cs[j] := List.getElem?_eq_getElem hj
      exact hall j cs[j] d c hcs hd (hv j cs[j] c hcs hcv)
  | dat n' x' => exact asV0_ok hm (fun g hg => ha g (by simpa [refs] using hg)) (show asV0 m (.dat n' x') = some (n, x) from h) hd
  | nil => exact asV0_ok hm (fun g hg => ha g (by simpa [refs] using hg)) (show asV0 m .nil = some (n, x) from h) hd
  | own g ver lo len => exact asV0_ok hm (fun g hg => ha g (by simpa [refs] using hg)) (show asV0 m (.own g ver lo len) = some (n, x) from h) hd
  | _ => simp [asV, asV0] at h

section
variable {P : Program} {e : Operand → D} {m : Mem} {dst : Option Tmp} {ty : TypeId} {pos : String} {af : Array Edge} {gd : Option (Nat × Bool)} {x y z : Operand} {t : TypeId} {yt : TypeId}

def ldV (agg : Bool) (s : Nat) (cs : List V) : Option V :=
  if agg then (if s ≤ cs.length then some (.agg (cs.take s)) else none) else cs.head?

theorem S_load_rp {n agg : Bool} {s by_ : Nat} {zs : List V} {cs : List V} {r : V} [ht : TyI P t agg s by_ zs] (h : e x = .dat n (.rp cs)) (hr : ldV agg s cs = some r) :
    SStep P ⟨dst, .load t x, ty, pos, af, gd⟩ e m [] (.dat n r) [] :=
  .pure fun C m' ac _ _ hx => by
    have g1 := hx x (by simp [Op.operands]); rw [h] at g1
    generalize hv : ac.eval x = v at g1
    cases g1 with
    | rp _ b off cell h1 hS hw hrd =>
      cases agg with
      | true =>
        simp only [ldV, if_true] at hr
        split at hr
        · rename_i hle
          injection hr with hr
          subst hr
          have hget : ∀ j, j < s → cs[j]? = some (cs.getD j .undef) := fun j hj => by
            rw [List.getD_eq_getElem?_getD, List.getElem?_eq_getElem (by omega)]; rfl
          refine ⟨.agg ((List.range s).map cell).toArray, ?_, ?_⟩
          · simp only [execOp, hv, Instr.loadAt, Instr.sureAddr, Sem.run_bind, Sem.run_pure, Result.andThen_ok]
            rw [run_loadVar_agg ht C.w _ cell (fun j hj => by rw [aadd]; exact hw j _ (hget j hj))]
            rfl
          · refine Rd.agg _ _ (by simp; omega) (fun j d c hd hc => ?_)
            have hj : j < s := by
              have := (List.getElem?_eq_some_iff.1 hd).1
              simp at this; omega
            rw [List.getElem?_take, if_pos hj] at hd
            have : c = cell j := by simpa [hj] using hc.symm
            subst this
            exact hrd j d hd
        · cases hr
      | false =>
        simp only [ldV, Bool.false_eq_true, if_false, List.head?_eq_getElem?] at hr
        have := hw 0 r hr
        refine ⟨cell 0, ?_, hrd 0 r hr⟩
        simp only [execOp, hv, Instr.loadAt, Instr.sureAddr, Sem.run_bind, Sem.run_pure, Result.andThen_ok]
        rw [run_loadVar_one ht C.w _ (cell 0) (by simpa using this)]
        rfl

theorem S_load_ptr {frz nw : Bool} {s by_ g off : Nat} {zs : List V} {cs : List D} {d : D} [ht : TyI P t false s by_ zs] (h : e x = .ptr g off) (hm : m.at g = .cells frz nw cs) (hc : cs[off]? = some d) :
    SStep P ⟨dst, .load t x, ty, pos, af, gd⟩ e m [g] d [] :=
  .pure fun C m' ac ha hh hx => by
    have g1 := hx x (by simp [Op.operands]); rw [h] at g1
    obtain ⟨frz', nw', cs', b, hat, hi, hv⟩ := g1
    have hb := hh.box g
    rw [ha g (by simp), hm] at hat
    injection hat with e1 e2 e3
    subst e1; subst e2; subst e3
    rw [ha g (by simp), hm] at hb
    obtain ⟨b', hi', arr, T, fz, h1, h2, h3, h4, h5⟩ := hb
    rw [hi] at hi'
    injection hi' with hi'
    subst hi'
    have hlt : off < arr.size := by have := (List.getElem?_eq_some_iff.1 hc).1; omega
    have hg : arr[off]? = some arr[off] := Array.getElem?_eq_getElem hlt
    refine ⟨arr[off], ?_, (h4 off d _ hc hg).rd⟩
    simp only [execOp, hv, Instr.loadAt, Instr.sureAddr, Sem.run_bind, Sem.run_pure, Result.andThen_ok]
    rw [run_loadVar_one ht C.w _ arr[off] (by rw [cell_of_arr h1]; exact hg)]
    rfl

theorem S_load_ptrs {frz nw : Bool} {s by_ g off : Nat} {zs : List V} {cs : List D} [ht : TyI P t true s by_ zs] (h : e x = .ptr g off) (hm : m.at g = .cells frz nw cs) (hl : Nat.ble (off + s) cs.length = true) :
    SStep P ⟨dst, .load t x, ty, pos, af, gd⟩ e m [g] (.aggd ((cs.drop off).take s)) [] :=
  .pure fun C m' ac ha hh hx => by
    have hl := Nat.le_of_ble_eq_true hl
    have g1 := hx x (by simp [Op.operands]); rw [h] at g1
    obtain ⟨frz', nw', cs', b, hat, hi, hv⟩ := g1
    have hb := hh.box g
    rw [ha g (by simp), hm] at hat
    injection hat with e1 e2 e3
    subst e1; subst e2; subst e3
    rw [ha g (by simp), hm] at hb
    obtain ⟨b', hi', arr, T, fz, h1, h2, h3, h4, h5⟩ := hb
    rw [hi] at hi'
    injection hi' with hi'
    subst hi'
    have hcell : ∀ j, j < s → arr[off + j]? = some (arr.getD (off + j) undef) := fun j hj => by
      have : off + j < arr.size := by omega
      simp [Array.getElem?_eq_getElem this]
    refine ⟨.agg ((List.range s).map fun j => arr.getD (off + j) undef).toArray, ?_, ⟨_, rfl, by simp; omega, fun j d c hd hc' => ?_⟩⟩
    · simp only [execOp, hv, Instr.loadAt, Instr.sureAddr, Sem.run_bind, Sem.run_pure, Result.andThen_ok]
      rw [run_loadVar_agg ht C.w _ (fun j => arr.getD (off + j) undef) (fun j hj => by rw [aadd, cell_of_arr h1]; exact hcell j hj)]
      rfl
    · have hj : j < s := by have := (List.getElem?_eq_some_iff.1 hd).1; simp at this; omega
      have hce : c = arr.getD (off + j) undef := by simpa [hj] using hc'.symm
      subst hce
      rw [List.getElem?_take, if_pos hj, List.getElem?_drop] at hd
      exact h4 _ _ _ hd (hcell j hj)

theorem S_load_rptr {frz nw agg : Bool} {s by_ g ver i off sz : Nat} {zs : List V} {xs : List (List V)} {el : List V} {r : V} [ht : TyI P t agg s by_ zs] (h : e x = .rptr g ver i off) (hm : m.at g = .row ver frz nw sz xs)
    (he : xs[i]? = some el) (hr : ldV agg s (el.drop off) = some r) :
    SStep P ⟨dst, .load t x, ty, pos, af, gd⟩ e m [g] (.dat nw r) [] :=
  .pure fun C m' ac ha hh hx => by
    have g1 := hx x (by simp [Op.operands]); rw [h] at g1
    obtain ⟨ver', frz', nw', sz', xs', hat, _, _, hv⟩ := g1
    have hb := hh.box g
    rw [ha g (by simp), hm] at hat
    injection hat with e1 e2 e3 e4 e5
    subst e1; subst e2; subst e3; subst e4; subst e5
    obtain ⟨hil, b, hi, hv⟩ := hv rfl
    rw [ha g (by simp), hm] at hb
    simp only [BoxOK, hi] at hb
    obtain ⟨arr, T, fz, h1, h2, h3, h4, h5, h6, h7⟩ := hb
    have hel := h4 i el he
    have hcell : ∀ j d, (el.drop off)[j]? = some d → arr[i * sz + off + j]? = some (arr.getD (i * sz + off + j) undef) ∧ RdF C nw d (arr.getD (i * sz + off + j) undef) := by
      intro j d hd
      rw [List.getElem?_drop] at hd
      have hj : off + j < el.length := (List.getElem?_eq_some_iff.1 hd).1
      have hlt : i * sz + (off + j) < arr.size := Nat.lt_of_lt_of_le (idx_lt hil (by omega)) h3
      have hg : arr[i * sz + off + j]? = some (arr.getD (i * sz + off + j) undef) := by
        rw [Nat.add_assoc]
        simp [Array.getElem?_eq_getElem hlt]
      exact ⟨hg, h6 i (off + j) el d _ he hd (by rw [← Nat.add_assoc]; exact hg)⟩
    cases agg with
    | true =>
      simp only [ldV, if_true] at hr
      split at hr
      · rename_i hle
        injection hr with hr
        subst hr
        have hget : ∀ j, j < s → (el.drop off)[j]? = some ((el.drop off).getD j .undef) := fun j hj => by
          rw [List.getD_eq_getElem?_getD, List.getElem?_eq_getElem (by omega)]; rfl
        refine ⟨.agg ((List.range s).map fun j => arr.getD (i * sz + off + j) undef).toArray, ?_, ?_⟩
        · simp only [execOp, hv, Instr.loadAt, Instr.sureAddr, Sem.run_bind, Sem.run_pure, Result.andThen_ok]
          rw [run_loadVar_agg ht C.w _ (fun j => arr.getD (i * sz + off + j) undef) (fun j hj => by rw [aadd, cell_of_arr h1]; exact (hcell j _ (hget j hj)).1)]
          rfl
        · refine Rd.agg _ _ (by simp at hle ⊢; omega) (fun j d c hd hc => ?_)
          have hj : j < s := by
            have := (List.getElem?_eq_some_iff.1 hd).1
            simp at this; omega
          rw [List.getElem?_take, if_pos hj] at hd
          have : c = arr.getD (i * sz + off + j) undef := by simpa [hj] using hc.symm
          subst this
          exact (hcell j d hd).2
      · cases hr
    | false =>
      simp only [ldV, Bool.false_eq_true, if_false, List.head?_eq_getElem?] at hr
      obtain ⟨hg, hrd⟩ := hcell 0 r hr
      refine ⟨_, ?_, hrd⟩
      simp only [execOp, hv, Instr.loadAt, Instr.sureAddr, Sem.run_bind, Sem.run_pure, Result.andThen_ok]
      rw [run_loadVar_one ht C.w _ (arr.getD (i * sz + off + 0) undef) (by rw [cell_of_arr h1]; exact hg)]
      rfl
end
end Go.Proofs.Ytpdoplmnedpdaaa

/- The D-machine, part 4: addresses, indexes, slices of slices, len, pick, min, max. -/
namespace Go.Proofs.Ytpdoplmnedpdaaa
open Go.RowKit

section
variable {P : Program} {e : Operand → D} {m : Mem} {dst : Option Tmp} {ty : TypeId} {pos : String} {af : Array Edge} {gd : Option (Nat × Bool)} {x y z : Operand} {t : TypeId} {yt : TypeId}

theorem ba_size (s : List UInt8) : (ByteArray.mk s.toArray).size = s.length := by show s.toArray.size = _; simp
theorem run_fieldAt {i off ft s by_ : Nat} {agg : Bool} {zs : List V} (hf : FldI P t i off ft) (ht : TyI P ft agg s by_ zs) (hs : s ≠ 0) (b o : Nat) (w : World) :
    (Instr.fieldAt t (.pointer (some ⟨b, o, none⟩)) i).run P w = .ok (.pointer (some ⟨b, o + off, none⟩)) w := by
  obtain ⟨fs, f, h1, h2, rfl, rfl⟩ := hf.out
  simp only [Instr.fieldAt, Sem.run_bind, run_under h1, Result.andThen_ok, h2, Instr.sureAddr, Sem.run_pure, fieldPlace, run_size ht, hs, if_false, aadd]
theorem S_fieldAddr_rp {i off ft s by_ : Nat} {agg n : Bool} {zs : List V} {cs : List V} [hf : FldI P t i off ft] [ht : TyI P ft agg s by_ zs] (hs : Nat.beq s 0 = false) (h : e x = .dat n (.rp cs)) :
    SStep P ⟨dst, .fieldAddr t x i, ty, pos, af, gd⟩ e m [] (.dat n (.rp (cs.drop off))) [] :=
  .pure fun C m' ac _ _ hx => by
    have hs' : s ≠ 0 := by rintro rfl; simp at hs
    have g1 := hx x (by simp [Op.operands]); rw [h] at g1
    generalize hv : ac.eval x = v at g1
    cases g1 with
    | rp _ b o cell h1 hS hw hrd =>
      refine ⟨.pointer (some ⟨b, o + off, none⟩), ?_, ?_⟩
      · simp only [execOp, hv, Sem.run_bind, run_fieldAt hf ht hs', Result.andThen_ok]
        rfl
      · refine Rd.rp _ b (o + off) (fun j => cell (off + j)) (fun j d hd => ?_) hS (fun j d hd => ?_) (fun j d hd => ?_) <;> rw [List.getElem?_drop] at hd
        · exact h1 _ d hd
        · rw [Nat.add_assoc]; exact hw _ d hd
        · exact hrd _ d hd
theorem S_fieldAddr_ptr {i off ft s by_ g o : Nat} {agg : Bool} {zs : List V} [hf : FldI P t i off ft] [ht : TyI P ft agg s by_ zs] (hs : Nat.beq s 0 = false) (h : e x = .ptr g o) :
    SStep P ⟨dst, .fieldAddr t x i, ty, pos, af, gd⟩ e m [] (.ptr g (o + off)) [] :=
  .pure fun C m' ac _ _ hx => by
    have hs' : s ≠ 0 := by rintro rfl; simp at hs
    have g1 := hx x (by simp [Op.operands]); rw [h] at g1
    obtain ⟨frz, nw, cs, b, hat, hi, hv⟩ := g1
    refine ⟨.pointer (some ⟨b, o + off, none⟩), ?_, ⟨frz, nw, cs, b, hat, hi, rfl⟩⟩
    simp only [execOp, hv, Sem.run_bind, run_fieldAt hf ht hs', Result.andThen_ok]
    rfl
theorem S_fieldAddr_rptr {i off ft s by_ g ver k o sz : Nat} {agg frz nw : Bool} {zs : List V} {xs : List (List V)} [hf : FldI P t i off ft] [ht : TyI P ft agg s by_ zs] (hs : Nat.beq s 0 = false) (h : e x = .rptr g ver k o) (hm : m.at g = .row ver frz nw sz xs) :
    SStep P ⟨dst, .fieldAddr t x i, ty, pos, af, gd⟩ e m [g] (.rptr g ver k (o + off)) [] :=
  .pure fun C m' ac ha _ hx => by
    have hs' : s ≠ 0 := by rintro rfl; simp at hs
    have g1 := hx x (by simp [Op.operands]); rw [h] at g1
    obtain ⟨ver', frz', nw', sz', xs', hat, hle, _, hv⟩ := g1
    have hat0 := hat
    rw [ha g (by simp), hm] at hat
    injection hat with e1 e2 e3 e4 e5
    subst e1; subst e2; subst e3; subst e4; subst e5
    obtain ⟨hil, b, hi, hv⟩ := hv rfl
    refine ⟨.pointer (some ⟨b, k * sz + o + off, none⟩), ?_, ⟨ver, frz, nw, sz, xs, hat0, hle, ⟨_, rfl⟩, fun _ => ⟨hil, b, hi, by rw [Nat.add_assoc]⟩⟩⟩
    simp only [execOp, hv, Sem.run_bind, run_fieldAt hf ht hs', Result.andThen_ok]
    rfl

/-- A part of a struct's cells. -/
def partV (agg : Bool) (s off : Nat) (cs : List V) : Option V := ldV agg s (cs.drop off)
theorem run_part {S : Nat → Prop} {s by_ off : Nat} {agg : Bool} {zs : List V} {cs : List V} {vs : Array Value} {r : V} (ht : TyI P t agg s by_ zs) (w : World) (hl : vs.size = cs.length)
    (hr : ∀ (j : Nat) d c, cs[j]? = some d → vs[j]? = some c → Rd S w d c) (h : partV agg s off cs = some r) : ∃ v, (part t vs off).run P w = .ok v w ∧ Rd S w r v := by
  unfold partV ldV at h
  cases agg with
  | true =>
    simp only [if_true] at h
    split at h
    · rename_i hle
      injection h with h
      subst h
      refine ⟨.agg (vs.extract off (off + s)), ?_, ?_⟩
      · simp only [part, Sem.run_bind, run_isAgg ht, Result.andThen_ok, if_true, run_size ht, Sem.run_pure]
      · simp at hle
        refine Rd.agg _ _ (by simp; omega) (fun j d c hd hc => ?_)
        have hj : j < s := by
          have := (List.getElem?_eq_some_iff.1 hd).1
          simp at this; omega
        rw [List.getElem?_take, if_pos hj, List.getElem?_drop] at hd
        rw [Array.getElem?_extract] at hc
        split at hc
        · exact hr _ d c hd hc
        · cases hc
    · cases h
  | false =>
    simp only [Bool.false_eq_true, if_false, List.head?_eq_getElem?, List.getElem?_drop, Nat.add_zero] at h
    have hlt : off < vs.size := by have := (List.getElem?_eq_some_iff.1 h).1; omega
    have hg : vs[off]? = some vs[off] := Array.getElem?_eq_getElem hlt
    refine ⟨vs[off], ?_, hr off r _ h hg⟩
    simp only [part, Sem.run_bind, run_isAgg ht, Result.andThen_ok, Bool.false_eq_true, if_false, hg, Sem.run_pure]
theorem S_field {i off ft s by_ : Nat} {agg n : Bool} {zs : List V} {cs : List V} {r : V} [hf : FldI P t i off ft] [ht : TyI P ft agg s by_ zs] (h : e x = .dat n (.agg cs)) (hr : partV agg s off cs = some r) :
    SStep P ⟨dst, .field t x i, ty, pos, af, gd⟩ e m [] (.dat n r) [] :=
  .pure fun C m' ac _ _ hx => by
    have g1 := hx x (by simp [Op.operands]); rw [h] at g1
    generalize hv : ac.eval x = v at g1
    cases g1 with
    | agg _ vs hl hrd =>
      obtain ⟨fs, f, h1, h2, rfl, rfl⟩ := hf.out
      obtain ⟨v, hrun, hv'⟩ := run_part ht C.w hl hrd hr
      refine ⟨v, ?_, hv'⟩
      simp only [execOp, hv, Instr.field, Sem.run_bind, run_under h1, Result.andThen_ok, h2, asAgg, Sem.run_pure, hrun]

theorem S_ix_slice {n n' : Bool} {k : IntKind} {i : Int} {el s by_ : Nat} {agg : Bool} {zs : List V} {xs : List (List V)} {c : List V} [hu : SlcI P t el] [ht : TyI P el agg s by_ zs]
    (h1 : e x = .dat n (.slice xs)) (h2 : e y = .dat n' (.int k i)) (hi : 0 ≤ i) (hc : xs[i.toNat]? = some c) (hl : c.length = s) :
    SStep P ⟨dst, .indexAddr t x y, ty, pos, af, gd⟩ e m [] (.dat n (.rp c)) [] :=
  .pure fun C m' ac _ hh hx => by
    have g1 := hx x (by simp [Op.operands]); rw [h1] at g1
    have g2 := hx y (by simp [Op.operands]); rw [h2] at g2
    have g2 := rd_int g2
    generalize hv : ac.eval x = v at g1
    have hlt : i.toNat < xs.length := (List.getElem?_eq_some_iff.1 hc).1
    cases g1 with
    | nil => simp at hc
    | mt => simp at hc
    | slice _ b off cap sz cell hcap hmx hsz hone hS hw hrd =>
      have hsz' : sz = s := by rw [← hsz _ _ hc, hl]
      subst hsz'
      refine ⟨.pointer (some ⟨b, off + i.toNat * sz, none⟩), ?_, ?_⟩
      · simp only [execOp, hv, g2, Instr.indexAt, asIntOf, Sem.run_bind, Sem.run_pure, Result.andThen_ok, run_under hu.out]
        have hlt' : i < (xs.length : Int) := by omega
        simp only [hi, hlt', and_self, if_true, Sem.run_bind, run_size ht, Result.andThen_ok, Sem.run_pure, aadd]
      · refine Rd.rp _ b _ (fun j => cell i.toNat j) (fun j d hd => hone _ _ _ _ hc hd) (hS (by rintro rfl; simp at hc)) (fun j d hd => hw _ _ _ _ hc hd) (fun j d hd => hrd _ _ _ _ hc hd)
theorem S_ix_own {n' : Bool} {k : IntKind} {i : Int} {el s by_ g ver lo len : Nat} {agg frz nw : Bool} {zs : List V} {xs : List (List V)} [hu : SlcI P t el] [ht : TyI P el agg s by_ zs]
    (h1 : e x = .own g ver lo len) (h2 : e y = .dat n' (.int k i)) (hm : m.at g = .row ver frz nw s xs) (hi : 0 ≤ i) (hc : i < len) :
    SStep P ⟨dst, .indexAddr t x y, ty, pos, af, gd⟩ e m [g] (.rptr g ver (lo + i.toNat) 0) [] :=
  .pure fun C m' ac ha hh hx => by
    have g1 := hx x (by simp [Op.operands]); rw [h1] at g1
    have g2 := hx y (by simp [Op.operands]); rw [h2] at g2
    have g2 := rd_int g2
    obtain ⟨ver', frz', nw', sz', xs', hat, hle, _, hv⟩ := g1
    have hat0 := hat
    rw [ha g (by simp), hm] at hat
    injection hat with e1 e2 e3 e4 e5
    subst e1; subst e2; subst e3; subst e4; subst e5
    obtain ⟨hlen, ho⟩ := hv rfl
    unfold OwnV at ho
    cases hio : C.ι g with
    | none => simp only [hio] at ho; omega
    | some b =>
      simp only [hio] at ho
      obtain ⟨cap, arr, T, fz, hv, _, _, _, _⟩ := ho
      refine ⟨.pointer (some ⟨b, lo * s + i.toNat * s, none⟩), ?_, ⟨ver, frz, nw, s, xs, hat0, hle, ⟨_, rfl⟩, fun _ => ⟨by omega, b, hio, by rw [Nat.add_mul]; rfl⟩⟩⟩
      simp only [execOp, hv, g2, Instr.indexAt, asIntOf, Sem.run_bind, Sem.run_pure, Result.andThen_ok, run_under hu.out]
      simp only [hi, hc, and_self, if_true, Sem.run_bind, run_size ht, Result.andThen_ok, Sem.run_pure, aadd]
theorem S_ix_arr_rp {n n' : Bool} {k : IntKind} {i : Int} {el s by_ len : Nat} {agg : Bool} {zs : List V} {cs : List V} [hu : ArrI P t len el] [ht : TyI P el agg s by_ zs]
    (h1 : e x = .dat n (.rp cs)) (h2 : e y = .dat n' (.int k i)) (hi : 0 ≤ i) (hc : i < len) :
    SStep P ⟨dst, .indexAddr t x y, ty, pos, af, gd⟩ e m [] (.dat n (.rp (cs.drop (i.toNat * s)))) [] :=
  .pure fun C m' ac _ hh hx => by
    have g1 := hx x (by simp [Op.operands]); rw [h1] at g1
    have g2 := hx y (by simp [Op.operands]); rw [h2] at g2
    have g2 := rd_int g2
    generalize hv : ac.eval x = v at g1
    cases g1 with
    | rp _ b o cell h1 hS hw hrd =>
      refine ⟨.pointer (some ⟨b, o + i.toNat * s, none⟩), ?_, ?_⟩
      · simp only [execOp, hv, g2, Instr.indexAt, asIntOf, Sem.run_bind, Sem.run_pure, Result.andThen_ok, run_under hu.out, Instr.sureAddr]
        simp only [hi, hc, and_self, if_true, Sem.run_bind, run_size ht, Result.andThen_ok, Sem.run_pure, aadd]
      · refine Rd.rp _ b _ (fun j => cell (i.toNat * s + j)) (fun j d hd => ?_) hS (fun j d hd => ?_) (fun j d hd => ?_) <;> rw [List.getElem?_drop] at hd
        · exact h1 _ d hd
        · rw [Nat.add_assoc]; exact hw _ d hd
        · exact hrd _ d hd
theorem S_ix_arr_ptr {n' : Bool} {k : IntKind} {i : Int} {el s by_ len g o : Nat} {agg : Bool} {zs : List V} [hu : ArrI P t len el] [ht : TyI P el agg s by_ zs]
    (h1 : e x = .ptr g o) (h2 : e y = .dat n' (.int k i)) (hi : 0 ≤ i) (hc : i < len) :
    SStep P ⟨dst, .indexAddr t x y, ty, pos, af, gd⟩ e m [] (.ptr g (o + i.toNat * s)) [] :=
  .pure fun C m' ac _ hh hx => by
    have g1 := hx x (by simp [Op.operands]); rw [h1] at g1
    have g2 := hx y (by simp [Op.operands]); rw [h2] at g2
    have g2 := rd_int g2
    obtain ⟨frz, nw, cs, b, hat, hio, hv⟩ := g1
    refine ⟨.pointer (some ⟨b, o + i.toNat * s, none⟩), ?_, ⟨frz, nw, cs, b, hat, hio, rfl⟩⟩
    simp only [execOp, hv, g2, Instr.indexAt, asIntOf, Sem.run_bind, Sem.run_pure, Result.andThen_ok, run_under hu.out, Instr.sureAddr]
    simp only [hi, hc, and_self, if_true, Sem.run_bind, run_size ht, Result.andThen_ok, Sem.run_pure, aadd]
theorem S_index_agg {n n' : Bool} {k : IntKind} {i : Int} {el s by_ len : Nat} {agg : Bool} {zs : List V} {cs : List V} {r : V} [hu : ArrI P t len el] [ht : TyI P el agg s by_ zs]
    (h1 : e x = .dat n (.agg cs)) (h2 : e y = .dat n' (.int k i)) (hi : 0 ≤ i) (hc : i < len) (hr : partV agg s (i.toNat * s) cs = some r) :
    SStep P ⟨dst, .index t x y, ty, pos, af, gd⟩ e m [] (.dat n r) [] :=
  .pure fun C m' ac _ hh hx => by
    have g1 := hx x (by simp [Op.operands]); rw [h1] at g1
    have g2 := hx y (by simp [Op.operands]); rw [h2] at g2
    have g2 := rd_int g2
    generalize hv : ac.eval x = v at g1
    cases g1 with
    | agg _ vs hl hrd =>
      obtain ⟨v, hrun, hv'⟩ := run_part ht C.w hl hrd hr
      refine ⟨v, ?_, hv'⟩
      simp only [execOp, hv, g2, Instr.index, asIntOf, Sem.run_bind, Sem.run_pure, Result.andThen_ok, run_under hu.out]
      simp only [hi, hc, and_self, if_true, Sem.run_bind, run_size ht, Result.andThen_ok, hrun]
theorem S_index_str {n n' : Bool} {k : IntKind} {i : Int} {s : List UInt8} {c : UInt8} [hu : StrI P t] (h1 : e x = .dat n (.str s)) (h2 : e y = .dat n' (.int k i)) (hi : 0 ≤ i) (hc : s[i.toNat]? = some c) :
    SStep P ⟨dst, .index t x y, ty, pos, af, gd⟩ e m [] (.dat true (.int .u8 c.toNat)) [] :=
  .pure fun C m' ac _ hh hx => by
    have g1 := rd_str (by have := hx x (by simp [Op.operands]); rwa [h1] at this)
    have g2 := rd_int (by have := hx y (by simp [Op.operands]); rwa [h2] at this)
    refine ⟨.int .u8 c.toNat, ?_, mk_int⟩
    have hlt : i.toNat < s.length := (List.getElem?_eq_some_iff.1 hc).1
    have hg : (ByteArray.mk s.toArray)[i.toNat]? = some c := by
      have hsz : i.toNat < (ByteArray.mk s.toArray).size := by rw [ba_size]; exact hlt
      rw [getElem?_pos (ByteArray.mk s.toArray) i.toNat hsz]
      have := (List.getElem?_eq_some_iff.1 hc).2
      show some (s.toArray[i.toNat]'(by simpa using hlt)) = some c
      simpa using this
    simp only [execOp, g1, g2, Instr.index, asIntOf, Sem.run_bind, Sem.run_pure, Result.andThen_ok, run_under hu.out, hi, if_true, hg]

theorem S_len_slice {n : Bool} {xs : List (List V)} {el : Nat} [hu : SlcI P t el] (h : e x = .dat n (.slice xs)) :
    SStep P ⟨dst, .call { callee := .builtin .len, args := #[x], argTypes := #[t] }, ty, pos, af, gd⟩ e m [] (.dat true (.int .i64 xs.length)) [] :=
  .pure fun C m' ac _ hh hx => by
    have g1 := hx x (by simp [Op.operands, Call.operands]); rw [h] at g1
    refine ⟨.int .i64 xs.length, ?_, mk_int⟩
    generalize hv : ac.eval x = v at g1
    cases g1 <;> simp [execOp, resolve, invoke, builtin, Builtin.len_, run_under hu.out, hv, goInt]
theorem S_len_own {g ver lo len : Nat} {el : Nat} {frz nw : Bool} {sz : Nat} {xs : List (List V)} [hu : SlcI P t el] (h : e x = .own g ver lo len) (hm : m.at g = .row ver frz nw sz xs) :
    SStep P ⟨dst, .call { callee := .builtin .len, args := #[x], argTypes := #[t] }, ty, pos, af, gd⟩ e m [g] (.dat true (.int .i64 len)) [] :=
  .pure fun C m' ac ha hh hx => by
    have g1 := hx x (by simp [Op.operands, Call.operands]); rw [h] at g1
    refine ⟨.int .i64 len, ?_, mk_int⟩
    obtain ⟨ver', frz', nw', sz', xs', hat, hle, _, hv⟩ := g1
    rw [ha g (by simp), hm] at hat
    injection hat with e1 e2 e3 e4 e5
    obtain ⟨_, ho⟩ := hv e1
    unfold OwnV at ho
    cases hio : C.ι g with
    | none =>
      simp only [hio] at ho
      obtain ⟨hv, _, hl⟩ := ho
      simp [execOp, resolve, invoke, builtin, Builtin.len_, run_under hu.out, hv, goInt, hl]
    | some b =>
      simp only [hio] at ho
      obtain ⟨cap, arr, T, fz, hv, _⟩ := ho
      simp [execOp, resolve, invoke, builtin, Builtin.len_, run_under hu.out, hv, goInt]
theorem S_len_nil {el : Nat} [hu : SlcI P t el] (h : e x = .nil) :
    SStep P ⟨dst, .call { callee := .builtin .len, args := #[x], argTypes := #[t] }, ty, pos, af, gd⟩ e m [] (.dat true (.int .i64 0)) [] :=
  .pure fun C m' ac ha hh hx => by
    have g1 := hx x (by simp [Op.operands, Call.operands]); rw [h] at g1
    have hv : ac.eval x = .slice none 0 0 := g1
    refine ⟨.int .i64 0, ?_, mk_int⟩
    simp [execOp, resolve, invoke, builtin, Builtin.len_, run_under hu.out, hv, goInt]
theorem S_len_str {n : Bool} {s : List UInt8} [hu : StrI P t] (h : e x = .dat n (.str s)) :
    SStep P ⟨dst, .call { callee := .builtin .len, args := #[x], argTypes := #[t] }, ty, pos, af, gd⟩ e m [] (.dat true (.int .i64 s.length)) [] :=
  .pure fun C m' ac _ hh hx => by
    have g1 := rd_str (by have := hx x (by simp [Op.operands, Call.operands]); rwa [h] at this)
    refine ⟨.int .i64 s.length, ?_, mk_int⟩
    simp [execOp, resolve, invoke, builtin, Builtin.len_, run_under hu.out, g1, goInt, ba_size]
theorem S_min {n n' : Bool} {k : IntKind} {a b : Int} {ts : Array TypeId} (h1 : e x = .dat n (.int k a)) (h2 : e y = .dat n' (.int k b)) :
    SStep P ⟨dst, .call { callee := .builtin .min, args := #[x, y], argTypes := ts }, ty, pos, af, gd⟩ e m [] (.dat true (.int k (min a b))) [] :=
  .pure fun C m' ac _ hh hx => by
    have g1 := rd_int (by have := hx x (by simp [Op.operands, Call.operands]); rwa [h1] at this)
    have g2 := rd_int (by have := hx y (by simp [Op.operands, Call.operands]); rwa [h2] at this)
    refine ⟨.int k (min a b), ?_, mk_int⟩
    have : (if b < a then b else a) = min a b := by omega
    simp [execOp, resolve, invoke, builtin, Builtin.min_, Builtin.min2, g1, g2, this]
theorem S_max {n n' : Bool} {k : IntKind} {a b : Int} {ts : Array TypeId} (h1 : e x = .dat n (.int k a)) (h2 : e y = .dat n' (.int k b)) :
    SStep P ⟨dst, .call { callee := .builtin .max, args := #[x, y], argTypes := ts }, ty, pos, af, gd⟩ e m [] (.dat true (.int k (max a b))) [] :=
  .pure fun C m' ac _ hh hx => by
    have g1 := rd_int (by have := hx x (by simp [Op.operands, Call.operands]); rwa [h1] at this)
    have g2 := rd_int (by have := hx y (by simp [Op.operands, Call.operands]); rwa [h2] at this)
    refine ⟨.int k (max a b), ?_, mk_int⟩
    have : (if a < b then b else a) = max a b := by omega
    simp [execOp, resolve, invoke, builtin, Builtin.max_, Builtin.max2, g1, g2, this]

/-- pick where the chosen one is known to read: && and ||. -/
theorem S_pick {n : Bool} {b : Bool} {R : D} (h : e x = .dat n (.bool b)) (h1 : b = true → ∀ C m v, RdD C m (e y) v → RdD C m R v) (h2 : b = false → ∀ C m v, RdD C m (e z) v → RdD C m R v) :
    SStep P ⟨dst, .pick x y z, ty, pos, af, gd⟩ e m [] R [] :=
  .pure fun C m' ac _ _ hx => by
    have g1 := rd_bool (by have := hx x (by simp [Op.operands]); rwa [h] at this)
    have g2 := hx y (by simp [Op.operands])
    have g3 := hx z (by simp [Op.operands])
    cases b with
    | true => exact ⟨ac.eval y, by simp [execOp, g1, asBool], h1 rfl _ _ _ g2⟩
    | false => exact ⟨ac.eval z, by simp [execOp, g1, asBool], h2 rfl _ _ _ g3⟩
theorem S_pick_and {n n1 n2 : Bool} {b c : Bool} (h : e x = .dat n (.bool b)) (h1 : e y = .grd (b == true) (.dat n1 (.bool c))) (h2 : e z = .dat n2 (.bool false)) :
    SStep P ⟨dst, .pick x y z, ty, pos, af, gd⟩ e m [] (.dat true (.bool (b && c))) [] :=
  S_pick h (fun hb' C m v hv => by rw [h1] at hv; have := rd_bool (hv.1 (by rw [hb']; rfl)); subst this; subst hb'; exact mk_bool)
    (fun hb' C m v hv => by rw [h2] at hv; have := rd_bool hv; subst this; subst hb'; exact mk_bool)
theorem S_pick_or {n n1 n2 : Bool} {b c : Bool} (h : e x = .dat n (.bool b)) (h1 : e y = .dat n1 (.bool true)) (h2 : e z = .grd (b == false) (.dat n2 (.bool c))) :
    SStep P ⟨dst, .pick x y z, ty, pos, af, gd⟩ e m [] (.dat true (.bool (b || c))) [] :=
  S_pick h (fun hb' C m v hv => by rw [h1] at hv; have := rd_bool hv; subst this; subst hb'; exact mk_bool)
    (fun hb' C m v hv => by rw [h2] at hv; have := rd_bool (hv.1 (by rw [hb']; rfl)); subst this; subst hb'; exact mk_bool)
/-- The same within a guard that holds. -/
theorem S_pick_andG {n n1 n2 : Bool} {b c : Bool} (h : e x = .grd true (.dat n (.bool b))) (h1 : e y = .grd (true && (b == true)) (.dat n1 (.bool c))) (h2 : e z = .dat n2 (.bool false)) :
    SStep P ⟨dst, .pick x y z, ty, pos, af, gd⟩ e m [] (.dat true (.bool (b && c))) [] :=
  .pure fun C m' ac _ _ hx => by
    have g1 := hx x (by simp [Op.operands]); rw [h] at g1
    have g1 := rd_bool (g1.1 rfl)
    have g2 := hx y (by simp [Op.operands]); rw [h1] at g2
    have g3 := rd_bool (by have := hx z (by simp [Op.operands]); rwa [h2] at this)
    cases b with
    | true =>
      have g2 := rd_bool (g2.1 rfl)
      exact ⟨ac.eval y, by simp [execOp, g1, asBool], by rw [g2]; exact mk_bool⟩
    | false => exact ⟨ac.eval z, by simp [execOp, g1, asBool], by rw [g3]; exact mk_bool⟩
theorem S_pick_orG {n n1 n2 : Bool} {b c : Bool} (h : e x = .grd true (.dat n (.bool b))) (h1 : e y = .dat n1 (.bool true)) (h2 : e z = .grd (true && (b == false)) (.dat n2 (.bool c))) :
    SStep P ⟨dst, .pick x y z, ty, pos, af, gd⟩ e m [] (.dat true (.bool (b || c))) [] :=
  .pure fun C m' ac _ _ hx => by
    have g1 := hx x (by simp [Op.operands]); rw [h] at g1
    have g1 := rd_bool (g1.1 rfl)
    have g2 := rd_bool (by have := hx y (by simp [Op.operands]); rwa [h1] at this)
    have g3 := hx z (by simp [Op.operands]); rw [h2] at g3
    cases b with
    | true => exact ⟨ac.eval y, by simp [execOp, g1, asBool], by rw [g2]; exact mk_bool⟩
    | false =>
      have g3 := rd_bool (g3.1 rfl)
      exact ⟨ac.eval z, by simp [execOp, g1, asBool], by rw [g3]; exact mk_bool⟩

end
end Go.Proofs.Ytpdoplmnedpdaaa

/- The D-machine, part 5: what memory-making and writing does to the state. -/
namespace Go.Proofs.Ytpdoplmnedpdaaa
open Go.RowKit

theorem Mem.at_cons_same (g : Nat) (b : Box) (m : Mem) : Mem.at ((g, b) :: m) g = b := look_same _ _ _ _
theorem Mem.at_cons_other {g g' : Nat} (b : Box) (m : Mem) (h : g ≠ g') : Mem.at ((g, b) :: m) g' = m.at g' := look_other _ _ _ _ _ h

theorem BoxOK.lt {C : Cf} {m : Mem} (h : HoldsM C m) {g b : Nat} (hg : m.at g ≠ .gone) (hi : C.ι g = some b) : b < C.w.heap.size := by
  have hb := h.box g
  have aux : ∀ {o : Obj}, C.w.heap[b]? = some o → b < C.w.heap.size := fun ho => (Array.getElem?_eq_some_iff.1 ho).1
  rw [hi] at hb
  cases hm : m.at g with
  | gone => exact absurd hm hg
  | cells frz nw cs =>
    rw [hm] at hb
    obtain ⟨b', hb', arr, T, fz, h1, _⟩ := hb
    injection hb' with hb'
    subst hb'
    exact aux h1
  | row ver frz nw sz xs =>
    rw [hm] at hb
    obtain ⟨arr, T, fz, h1, _⟩ := hb
    exact aux h1
  | mapb kt et es =>
    rw [hm] at hb
    obtain ⟨b', hb', ents, clock, h1, _⟩ := hb
    injection hb' with hb'
    subst hb'
    exact aux h1

/-- Slots read on where only boxes that no slot named have turned, or one box g in a way that its slots bear. -/
theorem RdS.upd {C C' : Cf} {m m' : Mem} (g : Nat) (hm : ∀ g', g' ≠ g → m.at g' ≠ .gone → m'.at g' = m.at g') (hi : ∀ g', g' ≠ g → m.at g' ≠ .gone → C'.ι g' = C.ι g')
    (hh : ∀ g' b, g' ≠ g → m.at g' ≠ .gone → C.ι g' = some b → C'.w.heap[b]? = C.w.heap[b]?) (hd : ∀ n x v, RdF C n x v → RdF C' n x v)
    (hown : ∀ ver lo len v, RdS C m (.own g ver lo len) v → RdS C' m' (.own g ver lo len) v) (hptr : ∀ off v, RdS C m (.ptr g off) v → RdS C' m' (.ptr g off) v)
    (hrptr : ∀ ver i off v, RdS C m (.rptr g ver i off) v → RdS C' m' (.rptr g ver i off) v) (hmp : ∀ v, RdS C m (.mp g) v → RdS C' m' (.mp g) v) :
    ∀ d v, RdS C m d v → RdS C' m' d v := by
  intro d v h
  cases d with
  | any => trivial
  | nil => exact h
  | grd b d => exact h.elim
  | aggd cs => exact h.elim
  | dat n x => exact hd n x v h
  | own g' ver lo len =>
    by_cases hg : g' = g
    · subst hg; exact hown ver lo len v h
    · obtain ⟨ver', frz, nw, sz, xs, hat, hle, hsl, ho⟩ := h
      have hne : m.at g' ≠ .gone := by rw [hat]; simp
      refine ⟨ver', frz, nw, sz, xs, (hm g' hg hne).trans hat, hle, hsl, fun hv => ?_⟩
      obtain ⟨hl, ho⟩ := ho hv
      refine ⟨hl, ?_⟩
      rw [hi g' hg hne]
      unfold OwnV at *
      cases hio : C.ι g' with
      | none => simp only [hio] at ho ⊢; exact ho
      | some b =>
        simp only [hio] at ho ⊢
        obtain ⟨cap, arr, T, fz, h1, h2, h3⟩ := ho
        exact ⟨cap, arr, T, fz, h1, (hh g' b hg hne hio).trans h2, h3⟩
  | ptr g' off =>
    by_cases hg : g' = g
    · subst hg; exact hptr off v h
    · obtain ⟨frz, nw, cs, b, hat, hio, hv⟩ := h
      have hne : m.at g' ≠ .gone := by rw [hat]; simp
      exact ⟨frz, nw, cs, b, (hm g' hg hne).trans hat, (hi g' hg hne).trans hio, hv⟩
  | rptr g' ver i off =>
    by_cases hg : g' = g
    · subst hg; exact hrptr ver i off v h
    · obtain ⟨ver', frz, nw, sz, xs, hat, hle, hsl, ho⟩ := h
      have hne : m.at g' ≠ .gone := by rw [hat]; simp
      refine ⟨ver', frz, nw, sz, xs, (hm g' hg hne).trans hat, hle, hsl, fun hv => ?_⟩
      rw [hi g' hg hne]
      exact ho hv
  | mp g' =>
    by_cases hg : g' = g
    · subst hg; exact hmp v h
    · obtain ⟨kt, et, es, b, hat, hio, hv⟩ := h
      have hne : m.at g' ≠ .gone := by rw [hat]; simp
      exact ⟨kt, et, es, b, (hm g' hg hne).trans hat, (hi g' hg hne).trans hio, hv⟩
  | sl g' n =>
    obtain ⟨frz, nw, cs, b, cap, hat, hio, hv, hn, hc⟩ := h
    by_cases hg : g' = g
    · subst hg
      obtain ⟨frz', nw', cs', b', h1, h2, h3⟩ := hptr 0 (.pointer (some ⟨b, 0, none⟩)) ⟨frz, nw, cs, b, hat, hio, rfl⟩
      injection h3 with h3; injection h3 with h3; injection h3 with h3
      subst h3
      exact ⟨frz', nw', cs', b, cap, h1, h2, hv, hn, hc⟩
    · have hne : m.at g' ≠ .gone := by rw [hat]; simp
      exact ⟨frz, nw, cs, b, cap, (hm g' hg hne).trans hat, (hi g' hg hne).trans hio, hv, hn, hc⟩
theorem RdD.of_S {C C' : Cf} {m m' : Mem} (hs : ∀ d v, RdS C m d v → RdS C' m' d v) : ∀ d v, RdD C m d v → RdD C' m' d v := by
  intro d
  cases d with
  | grd b d =>
    intro v h
    exact ⟨fun hb => RdD.of_S hs d v (h.1 hb), h.2⟩
  | aggd cs =>
    rintro v ⟨vs, hv, hl, h⟩
    exact ⟨vs, hv, hl, fun j d c hd hc => hs _ _ (h j d c hd hc)⟩
  | _ => intro v h; exact hs _ v h

/-- A box reads on where its block, and what its slots read as, stand. -/
theorem BoxOK.upd {C C' : Cf} {m m' : Mem} {ob : Option Nat} {bx : Box} (h : BoxOK C m ob bx) (hh : ∀ b, ob = some b → C'.w.heap[b]? = C.w.heap[b]?)
    (hd : ∀ n x v, RdF C n x v → RdF C' n x v) (hs : ∀ d v, RdS C m d v → RdS C' m' d v) (hS : ∀ b, C.S b → C'.S b) (hN : ∀ b, C.N b → C'.N b) : BoxOK C' m' ob bx := by
  have hD : ∀ nw b, C.D nw b → C'.D nw b := fun nw b h => by cases nw <;> first | exact hS b h | exact hN b h
  cases bx with
  | gone => trivial
  | cells frz nw cs =>
    obtain ⟨b, hb, arr, T, fz, h1, h2, h3, h4, h5⟩ := h
    exact ⟨b, hb, arr, T, fz, (hh b hb).trans h1, h2, h3, fun j d c hd hc => hs _ _ (h4 j d c hd hc), fun hf => hD _ _ (h5 hf)⟩
  | row ver frz nw sz xs =>
    cases ob with
    | none => exact h
    | some b =>
      obtain ⟨arr, T, fz, h1, h2, h3, h4, h5, h6, h7⟩ := h
      exact ⟨arr, T, fz, (hh b rfl).trans h1, h2, h3, h4, h5, fun i j e d c he hdd hc => hd _ _ _ (h6 i j e d c he hdd hc), fun hf => hN _ (h7 hf)⟩
  | mapb kt et es =>
    obtain ⟨b, hb, ents, clock, h1, h2, h3, h4⟩ := h
    exact ⟨b, hb, ents, clock, (hh b hb).trans h1, h2, h3, fun i p e hp he => by
      obtain ⟨q1, q2, q3⟩ := h4 i p e hp he
      exact ⟨Rd.mono q1 (fun _ h => h.elim) (fun _ h => h.elim), Rd.mono q2 (fun _ h => h.elim) (fun _ h => h.elim), q3⟩⟩

def Cf.set (C : Cf) (g : Nat) (ob : Option Nat) (w : World) : Cf := { C with ι := fun k => if k = g then ob else C.ι k, w := w }
@[simp] theorem Cf.set_same (C : Cf) (g : Nat) (ob : Option Nat) (w : World) : (C.set g ob w).ι g = ob := by simp [Cf.set]
theorem Cf.set_other (C : Cf) {g g' : Nat} (ob : Option Nat) (w : World) (h : g' ≠ g) : (C.set g ob w).ι g' = C.ι g' := by simp [Cf.set, h]

/-- The world has grown, and nothing that stood has turned. -/
structure Grew (w w' : World) : Prop where
  os : w'.os = w.os
  tape : w'.tape = w.tape
  output : w'.output = w.output
  size : w.heap.size ≤ w'.heap.size
  block : ∀ b, b < w.heap.size → w'.heap[b]? = w.heap[b]?
theorem Grew.alloc (w : World) (o : Obj) : Grew w (w.alloc o) := ⟨rfl, rfl, rfl, by simp, fun b hb => Below.heap_alloc w o b hb⟩
theorem Grew.drewAlloc (w : World) (o : Obj) : Grew w (w.drew.alloc o) := ⟨rfl, rfl, rfl, by simp, fun b hb => Below.heap_alloc w.drew o b hb⟩
theorem Grew.refl (w : World) : Grew w w := ⟨rfl, rfl, rfl, Nat.le_refl _, fun _ _ => rfl⟩
theorem Grew.trans {a b c : World} (h : Grew a b) (k : Grew b c) : Grew a c :=
  ⟨k.os.trans h.os, k.tape.trans h.tape, k.output.trans h.output, Nat.le_trans h.size k.size, fun i hi => (k.block i (Nat.lt_of_lt_of_le hi h.size)).trans (h.block i hi)⟩

/-- A new box at a block that is new. -/
theorem Step.fresh {C : Cf} {m : Mem} {g : Nat} {ob : Option Nat} {w : World} {bx : Box} (hm : HoldsM C m) (hg : m.at g = .gone) (hw : Grew C.w w)
    (hob : ∀ b, ob = some b → C.w.heap.size ≤ b)
    (hbx : (∀ n x v, RdF C n x v → RdF (C.set g ob w) n x v) → (∀ d v, RdS C m d v → RdS (C.set g ob w) ((g, bx) :: m) d v) → BoxOK (C.set g ob w) ((g, bx) :: m) ob bx) :
    Step C m (C.set g ob w) ((g, bx) :: m) := by
  have hne : ∀ {g'}, m.at g' ≠ .gone → g' ≠ g := fun h e => h (e ▸ hg)
  have hlt : ∀ {g' b}, m.at g' ≠ .gone → C.ι g' = some b → b < C.w.heap.size := fun h hi => BoxOK.lt hm h hi
  have hd : ∀ n x v, RdF C n x v → RdF (C.set g ob w) n x v := fun n x v h => by
    cases n
    · exact Rd.mono h (fun _ h => h) (fun b hb => hw.block b (hm.sdom b hb))
    · exact Rd.mono h (fun _ h => h) (fun b hb => hw.block b (hm.sdom b (hm.ns b hb)))
  have hs : ∀ d v, RdS C m d v → RdS (C.set g ob w) ((g, bx) :: m) d v := by
    refine RdS.upd g (fun g' h _ => Mem.at_cons_other _ _ (Ne.symm h)) (fun g' h _ => Cf.set_other _ _ _ h) (fun g' b h h1 h2 => hw.block b (hlt h1 h2)) hd ?_ ?_ ?_ ?_
    · rintro ver lo len v ⟨_, _, _, _, _, hat, _⟩; rw [hg] at hat; cases hat
    · rintro off v ⟨_, _, _, _, hat, _⟩; rw [hg] at hat; cases hat
    · rintro ver i off v ⟨_, _, _, _, _, hat, _⟩; rw [hg] at hat; cases hat
    · rintro v ⟨_, _, _, _, hat, _⟩; rw [hg] at hat; cases hat
  refine ⟨⟨hw.os, hw.tape, hw.output, hw.size, fun b hb _ => hw.block b hb, fun g' b h1 h2 => ?_, fun _ h => h, fun _ h => h, fun _ h => .inl h, fun _ h => .inl h⟩, ⟨fun g' => ?_, ?_, ?_, ?_, hm.ns⟩, RdD.of_S hs⟩
  · by_cases h : g' = g
    · subst h
      rw [Cf.set_same] at h2
      exact .inl (hob b h2)
    · rw [Mem.at_cons_other _ _ (Ne.symm h)] at h1
      rw [Cf.set_other _ _ _ h] at h2
      exact .inr ⟨g', h1, h2⟩
  · by_cases h : g' = g
    · subst h
      rw [Mem.at_cons_same, Cf.set_same]
      exact hbx hd hs
    · rw [Mem.at_cons_other _ _ (Ne.symm h), Cf.set_other _ _ _ h]
      by_cases hgo : m.at g' = .gone
      · rw [hgo]; trivial
      · exact BoxOK.upd (hm.box g') (fun b hb => hw.block b (hlt hgo hb)) hd hs (fun _ h => h) (fun _ h => h)
  · intro g1 g2 b h1 h2 i1 i2
    by_cases e1 : g1 = g <;> by_cases e2 : g2 = g
    · rw [e1, e2]
    · subst e1
      rw [Cf.set_same] at i1
      rw [Cf.set_other _ _ _ e2] at i2
      rw [Mem.at_cons_other _ _ (Ne.symm e2)] at h2
      have := hob b i1
      have := hlt h2 i2
      omega
    · subst e2
      rw [Cf.set_same] at i2
      rw [Cf.set_other _ _ _ e1] at i1
      rw [Mem.at_cons_other _ _ (Ne.symm e1)] at h1
      have := hob b i2
      have := hlt h1 i1
      omega
    · rw [Cf.set_other _ _ _ e1] at i1
      rw [Cf.set_other _ _ _ e2] at i2
      rw [Mem.at_cons_other _ _ (Ne.symm e1)] at h1
      rw [Mem.at_cons_other _ _ (Ne.symm e2)] at h2
      exact hm.inj g1 g2 b h1 h2 i1 i2
  · intro g' b h1 h2 h3
    by_cases h : g' = g
    · subst h
      rw [Cf.set_same] at h2
      have := hob b h2
      have := hm.sdom b h3
      omega
    · rw [Mem.at_cons_other _ _ (Ne.symm h)] at h1
      rw [Cf.set_other _ _ _ h] at h2
      exact hm.sep g' b h1 h2 h3
  · intro b hb
    exact Nat.lt_of_lt_of_le (hm.sdom b hb) hw.size

/-- A write into the block of box g, which is not frozen. -/
theorem Step.write {C : Cf} {m : Mem} {g b : Nat} {w : World} {bx : Box} (hm : HoldsM C m) (hg : (m.at g).mut = true) (hi : C.ι g = some b)
    (hos : w.os = C.w.os) (htp : w.tape = C.w.tape) (hout : w.output = C.w.output) (hsz : w.heap.size = C.w.heap.size) (hk : ∀ k, k ≠ b → w.heap[k]? = C.w.heap[k]?)
    (hown : ∀ ver lo len v, RdS C m (.own g ver lo len) v → RdS { C with w := w } ((g, bx) :: m) (.own g ver lo len) v) (hptr : ∀ off v, RdS C m (.ptr g off) v → RdS { C with w := w } ((g, bx) :: m) (.ptr g off) v)
    (hrptr : ∀ ver i off v, RdS C m (.rptr g ver i off) v → RdS { C with w := w } ((g, bx) :: m) (.rptr g ver i off) v) (hmp : ∀ v, RdS C m (.mp g) v → RdS { C with w := w } ((g, bx) :: m) (.mp g) v)
    (hbx : (∀ n x v, RdF C n x v → RdF { C with w := w } n x v) → (∀ d v, RdS C m d v → RdS { C with w := w } ((g, bx) :: m) d v) → BoxOK { C with w := w } ((g, bx) :: m) (some b) bx) :
    Step C m { C with w := w } ((g, bx) :: m) := by
  have hgo : m.at g ≠ .gone := by intro h; rw [h] at hg; simp [Box.mut] at hg
  have hbS : ¬ C.S b := hm.sep g b hg hi
  have hkS : ∀ k, C.S k → w.heap[k]? = C.w.heap[k]? := fun k hks => hk k (fun e => hbS (e ▸ hks))
  have hkg : ∀ g' k, g' ≠ g → m.at g' ≠ .gone → C.ι g' = some k → w.heap[k]? = C.w.heap[k]? := fun g' k hne h1 h2 => hk k (fun e => hne (hm.inj g' g k h1 hgo h2 (e ▸ hi)))
  have hd : ∀ n x v, RdF C n x v → RdF { C with w := w } n x v := fun n x v h => by
    cases n
    · exact Rd.mono h (fun _ h => h) hkS
    · exact Rd.mono h (fun _ h => h) (fun k h => hkS k (hm.ns k h))
  have hs : ∀ d v, RdS C m d v → RdS { C with w := w } ((g, bx) :: m) d v :=
    RdS.upd g (fun g' h _ => Mem.at_cons_other _ _ (Ne.symm h)) (fun _ _ _ => rfl) hkg hd hown hptr hrptr hmp
  refine ⟨⟨hos, htp, hout, Nat.le_of_eq hsz.symm, fun k hkl hn => hk k (fun e => hn g hg (e ▸ hi)), fun g' k h1 h2 => ?_, fun _ h => h, fun _ h => h, fun _ h => .inl h, fun _ h => .inl h⟩, ⟨fun g' => ?_, ?_, ?_, ?_, hm.ns⟩, RdD.of_S hs⟩
  · by_cases h : g' = g
    · subst h; exact .inr ⟨g', hg, h2⟩
    · rw [Mem.at_cons_other _ _ (Ne.symm h)] at h1
      exact .inr ⟨g', h1, h2⟩
  · by_cases h : g' = g
    · subst h
      rw [Mem.at_cons_same]
      show BoxOK _ _ (C.ι g') bx
      rw [hi]
      exact hbx hd hs
    · rw [Mem.at_cons_other _ _ (Ne.symm h)]
      by_cases hgo' : m.at g' = .gone
      · rw [hgo']; trivial
      · exact BoxOK.upd (hm.box g') (fun k hkk => hkg g' k h hgo' hkk) hd hs (fun _ h => h) (fun _ h => h)
  · intro g1 g2 k h1 h2 i1 i2
    refine hm.inj g1 g2 k ?_ ?_ i1 i2
    · by_cases e : g1 = g
      · rw [e]; exact hgo
      · rwa [Mem.at_cons_other _ _ (Ne.symm e)] at h1
    · by_cases e : g2 = g
      · rw [e]; exact hgo
      · rwa [Mem.at_cons_other _ _ (Ne.symm e)] at h2
  · intro g' k h1 h2 h3
    by_cases e : g' = g
    · subst e; exact hm.sep g' k hg h2 h3
    · rw [Mem.at_cons_other _ _ (Ne.symm e)] at h1
      exact hm.sep g' k h1 h2 h3
  · intro k hks
    show k < w.heap.size
    rw [hsz]; exact hm.sdom k hks

end Go.Proofs.Ytpdoplmnedpdaaa
