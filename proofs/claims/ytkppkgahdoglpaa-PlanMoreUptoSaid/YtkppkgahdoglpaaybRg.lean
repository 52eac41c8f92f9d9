/- Strings indexed; strings as bytes of one's own. -/
import Derived.Test.YtkppkgahdoglpaaybNil
namespace Go.Proofs.Ytkppkgahdoglpaa
open Go.RowKit
inductive Stp : Prop → Prop → Prop
  | seq {P : Program} {x y : Code} {Q : Exit → St → Prop} {s : St} : Stp (DW P x (thenQ (DW P y Q) Q) s) (DW P (.seq x y) Q s)
  | region {P : Program} {id : Nat} {l : List Oper} {Q : Exit → St → Prop} {s : St} : Stp (DOps P l.toArray l s [] (fun _ s' => Q .normal s')) (DW P (.region id l.toArray false) Q s)
  | draw {P : Program} {id : Nat} {l : List Oper} {Q : Exit → St → Prop} {s : St} : Stp (DOps P l.toArray l s [] (fun acc s' => chk l acc = true ∧ Q .normal s')) (DW P (.region id l.toArray true) Q s)
  | nilP {P : Program} {ops : Array Oper} {Q : Exit → St → Prop} {s : St} {acc : List (List Nat × List Nat)} : Stp (Q .normal s) (DOps P ops [] s acc (fun _ s' => Q .normal s'))
  | tn {K : St → Prop} {Q : Exit → St → Prop} {s : St} : Stp (K s) (thenQ K Q .normal s)
  | te {K : St → Prop} {Q : Exit → St → Prop} {s : St} {id : Nat} : Stp (Q (.exit id) s) (thenQ K Q (.exit id) s)
  | tr {K : St → Prop} {Q : Exit → St → Prop} {s : St} : Stp (Q .ret s) (thenQ K Q .ret s)
  | block {P : Program} {id : Nat} {c : Code} {Q : Exit → St → Prop} {s : St} : Stp (DW P c (inBlk id Q) s) (DW P (.block id c) Q s)
  | bn {id : Nat} {Q : Exit → St → Prop} {s : St} : Stp (Q .normal s) (inBlk id Q .normal s)
  | br {id : Nat} {Q : Exit → St → Prop} {s : St} : Stp (Q .ret s) (inBlk id Q .ret s)
  | le {X : Type} {inv : X → St} {R : X → Prop} {μ : X → Nat} {x : X} {Q : Exit → St → Prop} {s : St} {id : Nat} : Stp (Q (.exit id) s) (loopQ inv R μ x Q (.exit id) s)
  | lr {X : Type} {inv : X → St} {R : X → Prop} {μ : X → Nat} {x : X} {Q : Exit → St → Prop} {s : St} : Stp (Q .ret s) (loopQ inv R μ x Q .ret s)
  | ret {P : Program} {Q : Exit → St → Prop} {s : St} : Stp (Q .ret s) (DW P .ret Q s)
  | exit {P : Program} {Q : Exit → St → Prop} {s : St} {id : Nat} : Stp (Q (.exit id) s) (DW P (.exit id) Q s)
  | skip {P : Program} {Q : Exit → St → Prop} {s : St} : Stp (Q .normal s) (DW P .skip Q s)
theorem Stp.go {p q : Prop} (a : Stp p q) (k : p) : q := by
  cases a with
  | seq => exact DW_seq k
  | region => exact DW_region k
  | draw => exact DW_draw k
  | nilP => exact dnilP k
  | tn => exact then_normal k
  | te => exact then_exit k
  | tr => exact then_ret k
  | block => exact DW_block k
  | bn => exact blk_normal k
  | br => exact blk_ret k
  | le => exact loop_exit k
  | lr => exact loop_ret k
  | ret => exact DW_ret k
  | exit => exact DW_exit k
  | skip => exact DW_skip k
inductive Put (env : Env) (mem : Mem) : Option Tmp → D → Mem → Env → Mem → List Nat → Prop
  | p {t : Tmp} {d : D} : Put env mem (some t) d [] ((t, d) :: env) mem []
  | m {t : Tmp} {d : D} {g : Nat} {b : Box} : Put env mem (some t) d [(g, b)] ((t, d) :: env) ((g, b) :: mem) [g]
  | s {d : D} {g : Nat} {b : Box} : Put env mem none d [(g, b)] env ((g, b) :: mem) [g]
  | m2 {t : Tmp} {d : D} {g g2 : Nat} {b b2 : Box} : Put env mem (some t) d [(g, b), (g2, b2)] ((t, d) :: env) ((g, b) :: (g2, b2) :: mem) [g, g2]
theorem Put.eq {env env' : Env} {mem mem' : Mem} {dst : Option Tmp} {d : D} {wr : Mem} {ks : List Nat} {n : Nat} (h : Put env mem dst d wr env' mem' ks) : St.put ⟨env, mem, n⟩ dst d wr = ⟨env', mem', n⟩ ∧ wr.map (·.1) = ks := by
  cases h <;> exact ⟨rfl, rfl⟩
section
variable {P : Program} {ops : Array Oper} {r : List Oper} {env env' : Env} {mem mem' : Mem} {nt : Nat} {acc : List (List Nat × List Nat)} {K : List (List Nat × List Nat) → St → Prop} {rd ks : List Nat} {val : D} {wr : Mem}
  {dst : Option Tmp} {op : Op} {ty : TypeId} {pos : String} {af : Array Edge}
theorem dX (hd : dOK ⟨env, mem, nt⟩ dst = true) (h : SStep P ⟨dst, op, ty, pos, af, none⟩ (ev ⟨env, mem, nt⟩) mem rd val wr) (hp : Put env mem dst val wr env' mem' ks) (k : DOps P ops r ⟨env', mem', nt⟩ ((rd, ks) :: acc) K) :
    DOps P ops (⟨dst, op, ty, pos, af, none⟩ :: r) ⟨env, mem, nt⟩ acc K := by
  obtain ⟨e1, e2⟩ := hp.eq (n := nt)
  refine dstep hd (.plain rfl h) ?_
  rw [e1, e2]; exact k
theorem dXon {j : Nat} {b : Bool} (hd : dOK ⟨env, mem, nt⟩ dst = true) (hj : guardB b (guardD ⟨env, mem, nt⟩ ops j) = some true) (h : SStep P ⟨dst, op, ty, pos, af, some (j, b)⟩ (ev ⟨env, mem, nt⟩) mem rd val wr) (hp : Put env mem dst val wr env' mem' ks)
    (k : DOps P ops r ⟨env', mem', nt⟩ ((rd, ks) :: acc) K) : DOps P ops (⟨dst, op, ty, pos, af, some (j, b)⟩ :: r) ⟨env, mem, nt⟩ acc K := by
  obtain ⟨e1, e2⟩ := hp.eq (n := nt)
  refine dstep hd (.on rfl hj h) ?_
  rw [e1, e2]; exact k
end
inductive Cmp : BinOp → Int → Int → Prop → Prop
  | eql {a b : Int} : Cmp .eql a b (a = b)
  | neq {a b : Int} : Cmp .neq a b (a ≠ b)
  | lss {a b : Int} : Cmp .lss a b (a < b)
  | leq {a b : Int} : Cmp .leq a b (a ≤ b)
  | gtr {a b : Int} : Cmp .gtr a b (b < a)
  | geq {a b : Int} : Cmp .geq a b (b ≤ a)
section
variable {P : Program} {e : Operand → D} {m : Mem} {dst : Option Tmp} {ty : TypeId} {pos : String} {af : Array Edge} {gd : Option (Nat × Bool)} {x y : Operand} {t : TypeId} {yt : TypeId}
theorem S_al {u : Tmp} {agg : Bool} {s by_ : Nat} {zs : List V} [ht : TyI P t agg s by_ zs] (hg : m.at u = .gone) : SStep P ⟨some u, .alloc t, ty, pos, af, gd⟩ e m [] (.ptr u 0) [(u, .cells false true (zs.map V.zD))] := S_alloc u hg
theorem S_bx {u : Tmp} {cs : List D} (hc : (e x).cells = some cs) (hg : m.at u = .gone) : SStep P ⟨some u, .box t x, ty, pos, af, gd⟩ e m [] (.ptr u 0) [(u, .cells false true cs)] := S_box u hc hg
theorem S_cT {op : BinOp} {n1 n2 : Bool} {k : IntKind} {a b : Int} {p : Prop} (h1 : e x = .dat n1 (.int k a)) (h2 : e y = .dat n2 (.int k b)) (c : Cmp op a b p) (h : p) : SStep P ⟨dst, .binOp op t x y yt, ty, pos, af, gd⟩ e m [] (.dat true (.bool true)) [] := by
  cases c with
  | eql => exact as_bool (S_eql h1 h2) (decide_eq_true h)
  | neq => exact as_bool (S_neq h1 h2) (decide_eq_true h)
  | lss => exact as_bool (S_lss h1 h2) (decide_eq_true h)
  | leq => exact as_bool (S_leq h1 h2) (decide_eq_true h)
  | gtr => exact as_bool (S_gtr h1 h2) (decide_eq_true h)
  | geq => exact as_bool (S_geq h1 h2) (decide_eq_true h)
theorem S_cF {op : BinOp} {n1 n2 : Bool} {k : IntKind} {a b : Int} {p : Prop} (h1 : e x = .dat n1 (.int k a)) (h2 : e y = .dat n2 (.int k b)) (c : Cmp op a b p) (h : ¬ p) : SStep P ⟨dst, .binOp op t x y yt, ty, pos, af, gd⟩ e m [] (.dat true (.bool false)) [] := by
  cases c with
  | eql => exact as_bool (S_eql h1 h2) (decide_eq_false h)
  | neq => exact as_bool (S_neq h1 h2) (decide_eq_false h)
  | lss => exact as_bool (S_lss h1 h2) (decide_eq_false h)
  | leq => exact as_bool (S_leq h1 h2) (decide_eq_false h)
  | gtr => exact as_bool (S_gtr h1 h2) (decide_eq_false h)
  | geq => exact as_bool (S_geq h1 h2) (decide_eq_false h)
end
theorem DW_tD {P : Program} {Q : Exit → St → Prop} {s : St} {c : Operand} {x y : Code} {n : Bool} {p : Prop} [Decidable p] (hc : ev s c = .dat n (.bool (decide p))) (hb : p) (h : DW P x Q s) : DW P (.cond c x y) Q s := DW_true hc (decide_eq_true hb) h
theorem DW_fD {P : Program} {Q : Exit → St → Prop} {s : St} {c : Operand} {x y : Code} {n : Bool} {p : Prop} [Decidable p] (hc : ev s c = .dat n (.bool (decide p))) (hb : ¬ p) (h : DW P y Q s) : DW P (.cond c x y) Q s := DW_false hc (decide_eq_false hb) h
theorem Wk_g {s e : St} (ρ : Nat → Option Nat) (hn : s.n = e.n) (hinj : injOn ρ (e.mem.map (·.1)) = true) (h : memLe s e ρ e.mem ∧ envLe s e ρ e.env) : Wk s e := Wk_gen ρ hn hinj h.1 h.2
end Go.Proofs.Ytkppkgahdoglpaa
namespace Go.Proofs.Ytkppkgahdoglpaa
open Go.RowKit
theorem whole_eq {α : Type} {f : α → List V} {us : List α} {n : Nat} (h : us.length = n) : ((us.map f).drop 0).take n = us.map f := by
  subst h; simp [List.take_of_length_le]
theorem tail_eq {α : Type} {us : List α} {l : Nat} : (us.drop l).take (us.length - l) = us.drop l := List.take_of_length_le (by simp)
theorem fnF_own {P : Program} {f : FuncId} {ds : List V} {sz len : Nat} {xs : List (List V)} (h : FnG P f (ds.map (.dat false)) [] (.own 1000 0 0 len) [(1000, .row 0 false true sz xs)]) (hl : len = xs.length) : FnF P f ds (.slice xs) := by
  subst hl
  refine ⟨h.1, fun S w vs hS hr => ?_⟩
  have hc := h.2 ⟨fun _ => none, S, fun _ => False, w⟩ vs
    ⟨fun g => trivial, fun g g' b (h : Box.gone ≠ Box.gone) => absurd rfl h, fun g b (h : false = true) => by (cases h), hS, fun b (h : False) => h.elim⟩ (by simp [hr.1])
    (fun j d v h1 h2 => by
      rw [List.getElem?_map] at h1
      cases hd : ds[j]? with
      | none => rw [hd] at h1; cases h1
      | some x =>
        rw [hd] at h1
        injection h1 with h1
        subst h1
        exact hr.2 j x v hd h2)
  refine Calls.mono hc ?_
  rintro e w' ⟨v, C', rfl, rfl, hx, hm, hv⟩
  have hz : Env.at [(0, D.own 1000 0 0 xs.length)] 0 = .own 1000 0 0 xs.length := look_same _ _ _ _
  obtain ⟨C1, e1, h1, x1⟩ := Wk_freeze (env := [(0, .own 1000 0 0 xs.length)]) (mem := [(1000, .row 0 false true sz xs)]) (n := 1) 1000 (fun kt et es h => by rw [Mem.at_cons_same] at h; cases h) C' ⟨#[v], []⟩
    ⟨hm, rfl, rfl, fun t => by
      match t with
      | 0 => rw [show (St.mk [(0, D.own 1000 0 0 xs.length)] [(1000, Box.row 0 false true sz xs)] 1).env = [(0, D.own 1000 0 0 xs.length)] from rfl, hz]; exact hv
      | t + 1 => exact trivial⟩
  have hv1 := h1.env 0
  rw [show (St.mk [(0, D.own 1000 0 0 xs.length)] ((1000, frzBox (Mem.at [(1000, Box.row 0 false true sz xs)] 1000)) :: [(1000, Box.row 0 false true sz xs)]) 1).env = [(0, D.own 1000 0 0 xs.length)] from rfl, hz] at hv1
  have hr1 := asV_ok (n := true) (x := .slice xs) h1.mem (fun _ _ => rfl) (by
    show asV ((1000, frzBox (Mem.at [(1000, Box.row 0 false true sz xs)] 1000)) :: [(1000, Box.row 0 false true sz xs)]) _ = _
    simp [asV, asV0, Mem.at_cons_same, frzBox]) hv1
  refine ⟨v, rfl, ⟨hx.os, hx.tape, hx.output, hx.size, fun k hk => hx.keep k hk (fun g hg => by simp [Mem.at, look, Box.mut] at hg)⟩, ?_⟩
  have hxx := hx.trans x1
  rw [← e1]
  refine Rd.mono hr1 (fun b hb => ?_) (fun _ _ => rfl)
  refine ⟨?_, h1.mem.sdom b (h1.mem.ns b hb)⟩
  rcases hxx.supN b hb with k1 | k1 | ⟨g0, k1, _⟩
  · exact k1.elim
  · exact k1
  · simp [Mem.at, look, Box.mut] at k1
class DatI {α : Type} (f : α → D) : Prop where
  out : ∀ a, ∃ n x, f a = .dat n x
theorem listLe_map {α : Type} {f : α → D} [hf : DatI f] {s e : Mem} {ρ : Nat → Option Nat} : ∀ us : List α, listLe s e ρ (us.map f) (us.map f)
  | [] => trivial
  | a :: r => by
    obtain ⟨n, x, h⟩ := hf.out a
    refine ⟨?_, listLe_map r⟩
    show slotLe s e ρ (f a) (f a)
    rw [h]
    exact ⟨n, rfl, .inl rfl⟩
section
variable {P : Program} {e : Operand → D} {m : Mem} {dst : Option Tmp} {ty : TypeId} {pos : String} {af : Array Edge} {gd : Option (Nat × Bool)} {x y : Operand} {t : TypeId}
theorem S_slM {α : Type} {f : α → List V} {us : List α} {n agg : Bool} {el s by_ l h : Nat} {zs : List V} {lo hi : Option Operand} (us' : List α) [hu : SlcI P t el] [ht : TyI P el agg s by_ zs] [hf : CellsI f s] (h1 : e x = .dat n (.slice (us.map f)))
    (hlo : BndD (lo.map e) 0 l) (hhi : BndD (hi.map e) us.length h) (hle : l ≤ h) (hhl : h ≤ us.length) (hq : (us.drop l).take (h - l) = us') :
    SStep P ⟨dst, .slice t x lo hi none, ty, pos, af, gd⟩ e m [] (.dat n (.slice (us'.map f))) [] := by
  have hl : (us.map f).length = us.length := by simp
  have := S_slice (P := P) (m := m) (t := t) (el := el) (by_ := by_) (zs := zs) (agg := agg) (dst := dst) (ty := ty) (pos := pos) (af := af) (gd := gd) h1 hlo (by rw [hl]; exact hhi) hle (by rw [hl]; exact hhl) (map_len us)
  rw [← List.map_drop, ← List.map_take, hq] at this
  exact this
theorem S_bs {n : Bool} {l : List UInt8} {s el : TypeId} [hu : SlcI P s el] (he : P.underlying el = some (.int .u8)) (ht : P.underlying t = some .string) (h : e x = .dat n (.slice (l.map byteV))) :
    SStep P ⟨dst, .convert s t x, ty, pos, af, gd⟩ e m [] (.dat true (.str l)) [] := S_bytes_str he ht h
theorem S_compl {n : Bool} {k : IntKind} {a : Int} (h : e x = .dat n (.int k a)) : SStep P ⟨dst, .unOp .xor t x, ty, pos, af, gd⟩ e m [] (.dat true (.int k (k.xorI (if k.signed then -1 else k.max) a))) [] :=
  .pure fun C m' ac _ _ hx => by
    have h1 := hx x (by simp [Op.operands]); rw [h] at h1
    exact ⟨.int k (k.xorI (if k.signed then -1 else k.max) a), by simp [execOp, rd_int h1, Op.unary, Op.intBits, IntKind.xorI], mk_int⟩
theorem splice_set {cs : List D} {off : Nat} {d : D} (h : off < cs.length) : splice cs off [d] = cs.set off d := by
  apply List.ext_getElem?
  intro j
  rw [splice_get (by simp only [List.length_singleton]; omega), List.getElem?_set]
  simp only [List.length_singleton]
  by_cases hj : off = j
  · subst hj
    rw [if_pos ⟨Nat.le_refl _, by omega⟩, if_pos rfl, if_pos h, Nat.sub_self]; rfl
  · rw [if_neg (by omega), if_neg hj]
theorem S_storeA {α : Type} {f : α → D} {us : List α} {a : α} {nw : Bool} {by_ g off : Nat} {zs : List V} [ht : TyI P t false 1 by_ zs] (h : e x = .ptr g off) (hm : m.at g = .cells false nw (us.map f))
    (hd : (e y).cells = some [f a]) (hok : okCells [f a] = true) (hlt : off < us.length) :
    SStep P ⟨none, .store t x y, ty, pos, af, gd⟩ e m [g] .any [(g, .cells false nw ((us.set off a).map f))] := by
  have := S_store (P := P) (t := t) (m := m) (ty := ty) (pos := pos) (af := af) (gd := gd) h hm hd hok rfl (Nat.ble_eq_true_of_le (by rw [List.length_map]; omega))
  rw [splice_set (by simpa using hlt), ← List.map_set] at this
  exact this
end
end Go.Proofs.Ytkppkgahdoglpaa
namespace Go.Proofs.Ytkppkgahdoglpaa
open Go.RowKit
section
variable {P : Program} {e : Operand → D} {m : Mem} {dst : Option Tmp} {ty : TypeId} {pos : String} {af : Array Edge} {gd : Option (Nat × Bool)} {x y : Operand} {t s el : TypeId}
theorem S_ix_str {n n' : Bool} {k : IntKind} {i : Int} {l : List UInt8} {c : UInt8} (hu : P.underlying t = some .string) (h1 : e x = .dat n (.str l)) (h2 : e y = .dat n' (.int k i)) (hi : 0 ≤ i) (hc : l[i.toNat]? = some c) :
    SStep P ⟨dst, .index t x y, ty, pos, af, gd⟩ e m [] (.dat true (.int .u8 c.toNat)) [] :=
  .pure fun C m' ac _ hh hx => by
    have g1 := hx x (by simp [Op.operands]); rw [h1] at g1
    have g2 := rd_int (by have := hx y (by simp [Op.operands]); rwa [h2] at this)
    refine ⟨.int .u8 c.toNat, ?_, mk_int⟩
    have hg : (⟨l.toArray⟩ : ByteArray)[i.toNat]? = some c := by
      have h3 : i.toNat < l.length := (List.getElem?_eq_some_iff.1 hc).1
      have h4 : l[i.toNat] = c := (List.getElem?_eq_some_iff.1 hc).2
      have h5 : i.toNat < (⟨l.toArray⟩ : ByteArray).size := by simpa [ByteArray.size] using h3
      rw [getElem?_pos (⟨l.toArray⟩ : ByteArray) i.toNat h5]
      exact congrArg some h4
    simp [execOp, Instr.index, rd_str g1, g2, asIntOf, run_under hu, hi, hg]
theorem S_str_bytesO {n : Bool} {l : List UInt8} (g : Nat) [hu : SlcI P t el] (he : P.underlying el = some (.int .u8)) (ht : P.underlying s = some .string) (h : e x = .dat n (.str l)) (hl : l.length ≤ 140737488355328) (hg : m.at g = .gone) :
    SStep P ⟨dst, .convert s t x, ty, pos, af, gd⟩ e m [] (.own g 0 0 l.length) [(g, .row 0 false true 1 (l.map byteV))] := by
  intro C m' a next Q ha hm hx hn
  have g1 := hx x (by simp [Op.operands]); rw [h] at g1
  have hrun := run_bytes_of_string (P := P) C.w s t el ⟨l.toArray⟩ ht hu.out he
  have hsz : (⟨l.toArray⟩ : ByteArray).size = l.length := by simp [ByteArray.size]
  rw [hsz] at hrun
  generalize hcap : grownCap C.w l.length 0 el = cap at hrun
  have hge : l.length ≤ cap := by rw [← hcap]; exact grownCap_ge _ _ _ _
  have hle : cap ≤ maxLen := by rw [← hcap]; exact grownCap_le_maxLen _ _ _ _ (by unfold maxLen; omega)
  generalize hrow : bytesRow ⟨l.toArray⟩ cap = row at hrun
  have hrs : row.size = cap := by
    rw [← hrow]; unfold bytesRow
    simp
    omega
  have hrowg : ∀ (i : Nat) (b : UInt8), l[i]? = some b → row[i]? = some (Value.int .u8 b.toNat) := fun i b hb => by
    have hi : i < l.length := (List.getElem?_eq_some_iff.1 hb).1
    rw [← hrow]
    unfold bytesRow
    rw [Array.getElem?_append_left (by simpa using hi)]
    simp [hb]
  have hg' : m'.at g = .gone := (ha g (by simp)).trans hg
  have hexec : (execOp a.eval ⟨dst, .convert s t x, ty, pos, af, gd⟩).run P C.w = .ok (.value (.slice (some ⟨C.w.heap.size, 0, none⟩) l.length cap)) (C.w.drew.alloc (.cells row el (row.size, row.size + 1))) := by
    simp [execOp, rd_str g1, hrun]
  have hblk : (C.w.drew.alloc (.cells row el (row.size, row.size + 1))).heap[C.w.heap.size]? = some (.cells row el (row.size, row.size + 1)) := heap_alloc_new C.w.drew _
  have hget : ∀ (i j : Nat) (y : List V) (d : V), (l.map byteV)[i]? = some y → y[j]? = some d → ∃ b, l[i]? = some b ∧ y = [.int .u8 b.toNat] ∧ j = 0 ∧ d = .int .u8 b.toNat := fun i j y d hy hd => by
    simp only [List.getElem?_map, Option.map_eq_some_iff] at hy
    obtain ⟨b, hb, rfl⟩ := hy
    have hj : j = 0 := by have := (List.getElem?_eq_some_iff.1 hd).1; simp [byteV] at this; exact this
    subst hj
    simp [byteV] at hd
    exact ⟨b, hb, rfl, rfl, hd.symm⟩
  have hst := step_row (g := g) (xs := l.map byteV) (sz := 1) (nw := true) hm hg' (Grew.drewAlloc C.w (.cells row el (row.size, row.size + 1))) C.w.heap.size (Nat.le_refl _) hblk ⟨fun i hi h => by simp only at h; omega, Nat.le_succ _, .inl rfl⟩
    (by rw [List.length_map, hrs]; omega) (fun i y hy => map_len (f := byteV) l y (List.mem_of_getElem? hy)) (fun i j y d hy hd => by obtain ⟨b, _, _, _, rfl⟩ := hget i j y d hy hd; rfl)
    (fun i j y d u hy hd hu' => by
      obtain ⟨b, hb, _, rfl, rfl⟩ := hget i j y d hy hd
      have h3 := hrowg i b hb
      rw [show i * 1 + 0 = i by omega, h3] at hu'
      injection hu' with hu'
      rw [← hu']
      exact Rd.int _ _)
  refine wp_of_value hexec (hn _ _ hst ?_)
  refine ⟨0, false, true, 1, l.map byteV, Mem.at_cons_same _ _ _, Nat.le_refl _, ⟨_, _, _, rfl⟩, fun _ => ⟨by simp, ?_⟩⟩
  rw [Cf.set_same]
  exact ⟨cap, row, el, _, by simp, hblk, by rw [hrs]; simp, hge, hle⟩
end
end Go.Proofs.Ytkppkgahdoglpaa
