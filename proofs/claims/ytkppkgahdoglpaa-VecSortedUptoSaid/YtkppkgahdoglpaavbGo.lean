/- Walks, in few words: one relation for all that code does by its shape, one rule for all operations. -/
import Derived.Test.YtkppkgahdoglpaavbNil
namespace Go.Proofs.Ytkppkgahdoglpaa
open Go.RowKit
inductive Stp : Prop → Prop → Prop
  | seq {P : Program} {x y : Code} {Q : Exit → St → Prop} {s : St} : Stp (DW P x (thenQ (DW P y Q) Q) s) (DW P (.seq x y) Q s)
  | region {P : Program} {id : Nat} {l : List Oper} {Q : Exit → St → Prop} {s : St} : Stp (DOps P l.toArray l s [] (fun _ s' => Q .normal s')) (DW P (.region id l.toArray false) Q s)
  | draw {P : Program} {id : Nat} {l : List Oper} {Q : Exit → St → Prop} {s : St} : Stp (DOps P l.toArray l s [] (fun acc s' => chk l acc = true ∧ Q .normal s')) (DW P (.region id l.toArray true) Q s)
  | nilP {P : Program} {ops : Array Oper} {Q : Exit → St → Prop} {s : St} {acc : List (List Nat × List Nat)} : Stp (Q .normal s) (DOps P ops [] s acc (fun _ s' => Q .normal s'))
  | tn {K : St → Prop} {Q : Exit → St → Prop} {s : St} : Stp (K s) (thenQ K Q .normal s)
  | te {K : St → Prop} {Q : Exit → St → Prop} {s : St} {id : Nat} : Stp (Q (.exit id) s) (thenQ K Q (.exit id) s)
  | tr {K : St → Prop} {Q : Exit → St → Prop} {s : St} : Stp (Q .ret s) (thenQ K Q .ret s)
  | block {P : Program} {id : Nat} {c : Code} {Q : Exit → St → Prop} {s : St} : Stp (DW P c (inBlk id Q) s) (DW P (.block id c) Q s)
  | bn {id : Nat} {Q : Exit → St → Prop} {s : St} : Stp (Q .normal s) (inBlk id Q .normal s)
  | br {id : Nat} {Q : Exit → St → Prop} {s : St} : Stp (Q .ret s) (inBlk id Q .ret s)
  | le {X : Type} {inv : X → St} {R : X → Prop} {μ : X → Nat} {x : X} {Q : Exit → St → Prop} {s : St} {id : Nat} : Stp (Q (.exit id) s) (loopQ inv R μ x Q (.exit id) s)
  | lr {X : Type} {inv : X → St} {R : X → Prop} {μ : X → Nat} {x : X} {Q : Exit → St → Prop} {s : St} : Stp (Q .ret s) (loopQ inv R μ x Q .ret s)
  | ret {P : Program} {Q : Exit → St → Prop} {s : St} : Stp (Q .ret s) (DW P .ret Q s)
  | exit {P : Program} {Q : Exit → St → Prop} {s : St} {id : Nat} : Stp (Q (.exit id) s) (DW P (.exit id) Q s)
  | skip {P : Program} {Q : Exit → St → Prop} {s : St} : Stp (Q .normal s) (DW P .skip Q s)
theorem Stp.go {p q : Prop} (a : Stp p q) (k : p) : q := by
  cases a with
  | seq => exact DW_seq k
  | region => exact DW_region k
  | draw => exact DW_draw k
  | nilP => exact dnilP k
  | tn => exact then_normal k
  | te => exact then_exit k
  | tr => exact then_ret k
  | block => exact DW_block k
  | bn => exact blk_normal k
  | br => exact blk_ret k
  | le => exact loop_exit k
  | lr => exact loop_ret k
  | ret => exact DW_ret k
  | exit => exact DW_exit k
  | skip => exact DW_skip k
inductive Put (env : Env) (mem : Mem) : Option Tmp → D → Mem → Env → Mem → List Nat → Prop
  | p {t : Tmp} {d : D} : Put env mem (some t) d [] ((t, d) :: env) mem []
  | m {t : Tmp} {d : D} {g : Nat} {b : Box} : Put env mem (some t) d [(g, b)] ((t, d) :: env) ((g, b) :: mem) [g]
  | s {d : D} {g : Nat} {b : Box} : Put env mem none d [(g, b)] env ((g, b) :: mem) [g]
  | m2 {t : Tmp} {d : D} {g g2 : Nat} {b b2 : Box} : Put env mem (some t) d [(g, b), (g2, b2)] ((t, d) :: env) ((g, b) :: (g2, b2) :: mem) [g, g2]
theorem Put.eq {env env' : Env} {mem mem' : Mem} {dst : Option Tmp} {d : D} {wr : Mem} {ks : List Nat} {n : Nat} (h : Put env mem dst d wr env' mem' ks) : St.put ⟨env, mem, n⟩ dst d wr = ⟨env', mem', n⟩ ∧ wr.map (·.1) = ks := by
  cases h <;> exact ⟨rfl, rfl⟩
section
variable {P : Program} {ops : Array Oper} {r : List Oper} {env env' : Env} {mem mem' : Mem} {nt : Nat} {acc : List (List Nat × List Nat)} {K : List (List Nat × List Nat) → St → Prop} {rd ks : List Nat} {val : D} {wr : Mem}
  {dst : Option Tmp} {op : Op} {ty : TypeId} {pos : String} {af : Array Edge}
theorem dX (hd : dOK ⟨env, mem, nt⟩ dst = true) (h : SStep P ⟨dst, op, ty, pos, af, none⟩ (ev ⟨env, mem, nt⟩) mem rd val wr) (hp : Put env mem dst val wr env' mem' ks) (k : DOps P ops r ⟨env', mem', nt⟩ ((rd, ks) :: acc) K) :
    DOps P ops (⟨dst, op, ty, pos, af, none⟩ :: r) ⟨env, mem, nt⟩ acc K := by
  obtain ⟨e1, e2⟩ := hp.eq (n := nt)
  refine dstep hd (.plain rfl h) ?_
  rw [e1, e2]; exact k
theorem dXon {j : Nat} {b : Bool} (hd : dOK ⟨env, mem, nt⟩ dst = true) (hj : guardB b (guardD ⟨env, mem, nt⟩ ops j) = some true) (h : SStep P ⟨dst, op, ty, pos, af, some (j, b)⟩ (ev ⟨env, mem, nt⟩) mem rd val wr) (hp : Put env mem dst val wr env' mem' ks)
    (k : DOps P ops r ⟨env', mem', nt⟩ ((rd, ks) :: acc) K) : DOps P ops (⟨dst, op, ty, pos, af, some (j, b)⟩ :: r) ⟨env, mem, nt⟩ acc K := by
  obtain ⟨e1, e2⟩ := hp.eq (n := nt)
  refine dstep hd (.on rfl hj h) ?_
  rw [e1, e2]; exact k
end
inductive Cmp : BinOp → Int → Int → Prop → Prop
  | eql {a b : Int} : Cmp .eql a b (a = b)
  | neq {a b : Int} : Cmp .neq a b (a ≠ b)
  | lss {a b : Int} : Cmp .lss a b (a < b)
  | leq {a b : Int} : Cmp .leq a b (a ≤ b)
  | gtr {a b : Int} : Cmp .gtr a b (b < a)
  | geq {a b : Int} : Cmp .geq a b (b ≤ a)
section
variable {P : Program} {e : Operand → D} {m : Mem} {dst : Option Tmp} {ty : TypeId} {pos : String} {af : Array Edge} {gd : Option (Nat × Bool)} {x y : Operand} {t : TypeId} {yt : TypeId}
theorem S_al {u : Tmp} {agg : Bool} {s by_ : Nat} {zs : List V} [ht : TyI P t agg s by_ zs] (hg : m.at u = .gone) : SStep P ⟨some u, .alloc t, ty, pos, af, gd⟩ e m [] (.ptr u 0) [(u, .cells false true (zs.map V.zD))] := S_alloc u hg
theorem S_bx {u : Tmp} {cs : List D} (hc : (e x).cells = some cs) (hg : m.at u = .gone) : SStep P ⟨some u, .box t x, ty, pos, af, gd⟩ e m [] (.ptr u 0) [(u, .cells false true cs)] := S_box u hc hg
theorem S_cT {op : BinOp} {n1 n2 : Bool} {k : IntKind} {a b : Int} {p : Prop} (h1 : e x = .dat n1 (.int k a)) (h2 : e y = .dat n2 (.int k b)) (c : Cmp op a b p) (h : p) : SStep P ⟨dst, .binOp op t x y yt, ty, pos, af, gd⟩ e m [] (.dat true (.bool true)) [] := by
  cases c with
  | eql => exact as_bool (S_eql h1 h2) (decide_eq_true h)
  | neq => exact as_bool (S_neq h1 h2) (decide_eq_true h)
  | lss => exact as_bool (S_lss h1 h2) (decide_eq_true h)
  | leq => exact as_bool (S_leq h1 h2) (decide_eq_true h)
  | gtr => exact as_bool (S_gtr h1 h2) (decide_eq_true h)
  | geq => exact as_bool (S_geq h1 h2) (decide_eq_true h)
theorem S_cF {op : BinOp} {n1 n2 : Bool} {k : IntKind} {a b : Int} {p : Prop} (h1 : e x = .dat n1 (.int k a)) (h2 : e y = .dat n2 (.int k b)) (c : Cmp op a b p) (h : ¬ p) : SStep P ⟨dst, .binOp op t x y yt, ty, pos, af, gd⟩ e m [] (.dat true (.bool false)) [] := by
  cases c with
  | eql => exact as_bool (S_eql h1 h2) (decide_eq_false h)
  | neq => exact as_bool (S_neq h1 h2) (decide_eq_false h)
  | lss => exact as_bool (S_lss h1 h2) (decide_eq_false h)
  | leq => exact as_bool (S_leq h1 h2) (decide_eq_false h)
  | gtr => exact as_bool (S_gtr h1 h2) (decide_eq_false h)
  | geq => exact as_bool (S_geq h1 h2) (decide_eq_false h)
end
theorem Wk_g {s e : St} (ρ : Nat → Option Nat) (hn : s.n = e.n) (hinj : injOn ρ (e.mem.map (·.1)) = true) (h : memLe s e ρ e.mem ∧ envLe s e ρ e.env) : Wk s e := Wk_gen ρ hn hinj h.1 h.2
end Go.Proofs.Ytkppkgahdoglpaa
